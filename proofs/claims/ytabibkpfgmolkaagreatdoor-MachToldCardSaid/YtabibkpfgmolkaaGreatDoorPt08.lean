/- Lemmas for the claim, part 8. Conditions: none. -/
import Derived.Test.YtabibkpfgmolkaaGreatDoorPt07
import Derived.Deep.Cut
set_option maxRecDepth 100000
set_option maxHeartbeats 16000000
set_option linter.unusedVariables false
set_option linter.unusedSimpArgs false
open Go.Lib renaming hid→fQ
open Go.Proofs.Tryz renaming prog→fZ
open Go.Proofs.Tryz
open Go.RowKit
open Go.IntKind renaming wrap_u64→Aj,wrap_u32→Ay,signed→Ah,wrap→BX
open List renaming setIfInBounds_toArray→Aq,set_cons_zero→Az,set_cons_succ→Ak,getElem?_eq_getElem→AJ,length_drop→AX,drop_eq_nil_of_le→Ai,length_take→Bk,map_cons→BJ,map_nil→BZ,toArray→BK
open Nat renaming le_refl→Ax,mod_eq_of_lt→AZ,le_trans→AV,lt_of_le_of_lt→AY,mod_lt→Ac,div_le_self→Ad,two_pow_add_eq_or_of_lt→Af,lt_of_lt_of_le→Ag,div_div_eq_div_mul→Bj,mul_le_mul_right→Bq,add_mul→Bx,mul_comm→Bz,div_eq_of_lt→Bv,zero_le→Bw,two_pow_pos→By,le_of_eq→BQ,pow_succ→BV,pow_add→BW,pow_pos→BY,pow_one→Ba
open Go.Value renaming slice→Aw
open Go.World renaming ownsRow_nil→AQ,setCell→AK
open Go.RowKit.Below renaming refl→AW
open Go.Act renaming put→Ab
open Array renaming getD_eq_getD_getElem?→Ae
open Go renaming World→Bb,Value→Bc,Calls→Be
open Go.RowKit renaming Below→Bd
open Go.Value renaming int->fF,slice->fG,bool->fH,tuple->fI,pointer->fM
open Go.IntKind renaming i64->fN,u64->fO,u32->fP
open Go.Obj renaming cells->fR
open Go.Ending renaming returned->fS
open Or renaming inr->fT
open Option renaming none->fU,some->gh
open Bool renaming true->gj,false->gm
namespace Go.Proofs.YtabibkpfgmolkaaGreatDoor
variable {a b n k W g base vb rb x:Nat}{w wr wB w':Bb}{v x0 x1 x2 x3 x4 x5 p q s:Bc}{l V:List Nat}{t e:TypeId}
def eKj(C:jo)(x:jk)(w:Bb)(l:List Nat)(outs:List Int)(k:Nat)(v:Bc)(wr:Bb):Prop:=∃ x1:jk,iB C x1 wr/\MK C x x1 w wr/\x1={ x with lv:=x1.lv,iv:=x1.iv,s:={ x.s with a0:=l,input:=x.s.input.drop k } }/\wr.ownsRow w.heap.size 52 1 v k (hH (ie (outs.take k) (x.s.input.take k)))/\(∀ g,v.ownBlock=gh g->¬js C x1 g)
def cXc(C:jo)(x:jk)(n:Nat)(outs:List Int)(a:List Nat)(w:Bb)(b:Ending)(w':Bb):Prop:=
 ∃ (v:Bc) (x':jk),b = fS (fI #[v,fF fN (iy n outs a x.s).2.1])/\iB C x' w'/\MK C x x' w w'/\x'={ x with lv:=x'.lv,iv:=x'.iv,s:=(iy n outs a x.s).2.2 } /\
  ((iy n outs a x.s).2.1=0->w'.ownsRow w.heap.size 52 1 v (iy n outs a x.s).1.length (hH (iy n outs a x.s).1))/\(∃ A m c,v = fG A m c)
theorem cKh{o c:Nat}(h:UR w (fG (gh ⟨b,o,fU⟩) n c) l)(hn:1<=n):UR w (fG (gh ⟨b,o+1,fU⟩) (n - 1) (c - 1)) (l.drop 1):=by
 obtain⟨e,hs,hc,h0,hz,a⟩:=h.len;subst e;refine⟨gh ⟨b,o+1,fU⟩,c - 1,by rw[AX],?_,by rw[AX];omega,(fun e=>by cases e),by rw[AX];omega,aJt a 1⟩;rw[AX];have:=hs.drop (i:=1) hn;unfold hH at this ⊢
 rwa[<-List.map_drop]at this
theorem cXd{o:Nat}(h:UR w (fG (gh ⟨b,o,fU⟩) n 1) l)(hn:1<=n):UR w (fG (gh ⟨b,o,fU⟩) 0 0) (l.drop 1):=by
 obtain⟨e,hs,hc,h0,hz,aa⟩:=h.len;have a:l.drop 1 = []:=Ai fu;rw[a];exact⟨_,0,rfl,Src.nil _ _,Ax _,(fun e=>by cases e),⟨fz,fu⟩,nW⟩
theorem bXd{C:jo}{x x1:jk}{w':Bb}{l:List Nat}{outs:List Int}{k y a:Nat}{t:Int}{v v' ly:Bc}(m:iB C x1 wr)(n:MK C x x1 wB wr)
  (o:x1={ x with lv:=x1.lv,iv:=x1.iv,s:={ x.s with a0:=l,input:=x.s.input.drop k } }) (c:wr.ownsRow wB.heap.size 52 1 v k (hH (ie (outs.take k) (x.s.input.take k)))) (p:∀ g,v.ownBlock=gh g->¬js C x1 g)
  (q:outs[k]? = gh t) (d:(x.s.input.drop k)[0]? = gh y) (r:oY t y=a) (u:UR wr ly ((x.s.input.drop k).drop 1)) (b:∀ k,ly.ownBlock=gh k->x1.iv.ownBlock=gh k) (w:C.w0.heap.size<=wB.heap.size)
  (z:w'.ownsRow wB.heap.size 52 1 v' (k+1) (hH (ie (outs.take k) (x.s.input.take k)) ++ [fF fO (a:Int)]))
  (f:((wr.setCell ⟨C.mb,10,fU⟩ ly).alloc (fR #[fF fO (a:Int)] 52)).grownBy w' v.ownBlock)
  (A:v'.ownBlock=v.ownBlock\/v'.ownBlock=gh ((wr.setCell ⟨C.mb,10,fU⟩ ly).alloc (fR #[fF fO (a:Int)] 52)).heap.size):eKj C x wB l outs (k+1) v' w':=by
 have B:=m.sL ly _ u b;have D:=n.sL (C:=C) (x:=x1) ly ((x.s.input.drop k).drop 1) b;have i:=(AW _ (wr.setCell ⟨C.mb,10,fU⟩ ly)).alloc (Ax _) (fR #[fF fO (a:Int)] 52);have j:=B.C i
 have own2:∀ g,js C { x1 with iv:=ly,s:={ x1.s with input:=(x.s.input.drop k).drop 1 } } g->js C x1 g:=fun g hg=>by
  rcases hg with h|h|h|h|h
  ·exact .inl h
  ·exact fT (.inl h)
  ·exact fT (fT (.inl h))
  ·exact fT (fT (fT (.inl (b g h))))
  ·exact fT (fT (fT (fT h)))
 have hv:∀ g,v.ownBlock=gh g->¬js C { x1 with iv:=ly,s:={ x1.s with input:=(x.s.input.drop k).drop 1 } } g:=fun g hg E=>p g hg (own2 g E);have F:=j.grown f (fun g hg=>⟨hv g hg,AV w (c.lt g hg).1⟩);refine⟨_,F,(D.C i).grown f (fun g hg=>(c.lt g hg).1),?_,?_,fun g hg=>?_⟩
 ·rw[List.drop_drop];rw[o]
 ·have G:x.s.input[k]? = gh y:=(by rw[List.getElem?_drop]at d;simpa using d);rw[aKz q G,r,oH];exact z
 ·rcases A with e|e
  ·exact hv g (by rw[<-e];exact hg)
  ·rw[hg]at e;injection e with e;exact j.a6 (BQ e.symm)
theorem fXj{C:jo}{x x1:jk}{n k:Nat}{a:List Nat}{outs:List Int}(c:Bd w.heap.size w wB)(d:iB C x1 wr)(f:MK C x x1 wB wr)
  (b:x1={ x with lv:=x1.lv,iv:=x1.iv,s:={ x.s with a0:=x.s.a0++n :: a,input:=x.s.input.drop k } }) (h1:x.s.input.length=k) (h2:k<outs.length):cXc C x n outs a w (fS (fI #[fG fU 0 0,fF fN 39])) wr:=by
 have e:iy n outs a x.s=([],39,{ x.s with a0:=x.s.a0++n :: a,input:=[] }):=by
  unfold iy;rw[gy fu]
 have hd:x.s.input.drop k = []:=Ai fu;rw[hd]at b;refine⟨fG fU 0 0,x1,?_,d,(MK.jN c).trans f,?_,fun h=>?_,fU,0,0,rfl⟩
 ·rw[e]
 ·rw[e];exact b
 ·rw[e]at h;exact gH h (show ¬(39:Int)=0 by decide)
theorem fKd{C:jo}{x x1:jk}{n k:Nat}{a:List Nat}{outs:List Int}{v:Bc}(d:Bd w.heap.size w wB)(f:iB C x1 wr)(g:MK C x x1 wB wr)
  (i:x1={ x with lv:=x1.lv,iv:=x1.iv,s:={ x.s with a0:=x.s.a0++n :: a,input:=x.s.input.drop k } }) (b:wr.ownsRow wB.heap.size 52 1 v k (hH (ie (outs.take k) (x.s.input.take k)))) (h1:k<=x.s.input.length) (h2:outs.length=k):cXc C x n outs a w (fS (fI #[v,fF fN 0])) wr:=by
 have e:iy n outs a x.s=(ie outs (x.s.input.take k),0,{ x.s with a0:=x.s.a0++n :: a,input:=x.s.input.drop k }):=by
  unfold iy;rw[gz fu,h2]
 refine⟨v,x1,?_,f,(MK.jN d).trans g,?_,fun h=>?_,(by obtain⟨A,c,e,_⟩:=fJ b;exact⟨A,k,c,e⟩)⟩
 ·rw[e]
 ·rw[e];exact i
 ·rw[e];have j:(ie outs (x.s.input.take k)).length=k:=(by rw[pY _ _ (by rw[Bk];omega),Bk];omega);rw[List.take_of_length_le (l:=outs) fu]at b;show wr.ownsRow w.heap.size 52 1 v (ie outs (x.s.input.take k)).length _;rw[j];exact iQ b d.size
theorem eZi(C:jo)(x:jk)(n:Nat)(g:iu)(vg va:Bc)(a:List Nat)(w:Bb)(h:iB C x w)(hg:jq C.w0 vg g)(ha:UR w va a)(hf:∀ k,va.ownBlock=gh k->¬js C x k)(hn:n<=1000)(a8:a.length<=8)(ba:g.out.length<=8)(aI:x.s.a0.length<=1000000000)(bw:x.s.input.length<=100000):
  Be fZ 55 #[fM (gh ⟨C.mb,6,fU⟩),fF fN n,vg,va] w (cXc C x n g.out a w):=by
 obtain⟨p,q,rfl,hp,hq⟩:=hg;obtain⟨Aa,ca,rfl⟩:=ha.I;obtain⟨E,j,rfl⟩:=hq.I;obtain⟨O,hO⟩:=fX g.out.length;rw[hO]at hq ba ⊢;have HQ:=fQ hq.ir;have aJ:=fQ hO;clear hO;obtain⟨lA,Q,R,bb⟩:=fJ h.a0;obtain⟨L,hL⟩:=fX x.s.a0.length;obtain⟨m,hm⟩:=fX a.length;rw[hL]at R bb aI;rw[hm]at ha a8 hf ⊢;have HL:=fQ hL;have bc:=fQ hm;have X:=(AW w.heap.size w).alloc (Ax _) (fR #[p,fG E O j] 62);have ak:=X.alloc fz (fR #[fF fO (n:Int)] 52);have aT:=fQ X;have bd:=fQ (h.C X);have K:=fQ (h.C ak);have be:=fQ (gO.a4 w 62 #[p,fG E O j]);have bf:(w.alloc (fR #[p,fG E O j] 62)).cell? ⟨C.mb,11,fU⟩=gh (fG lA L Q):=(by rw[bd.cell 11];simp[iC,R]);have aU:=fQ (show((w.alloc (fR #[p,fG E O j] 62)).alloc (fR #[fF fO (n:Int)] 52)).ownsRow C.w0.heap.size 52 1 (fG lA L Q) L (hH x.s.a0) by have:=K.a0;rw[R,HL.out]at this;exact this);have aV:=fQ (ha.C ak (Ax _));have HF:=fQ hf;have M:=fQ R;have bg:=fQ (h.a6 (Ax w.heap.size));have y1:=h.a9.lt;have bj:=h.bel.size;have aK:=fQ ha.len.2.2.2.2.2;have aL:=fQ h.lU;have bz:(n:Int)<=1000:=fu;clear ha h hf X ak R hL hm hp hq;go_in;go_wp2_with (at_builtin;refine nQ _ rfl (.tmp 17) (.tmp 20) 30 rfl C.w0.heap.size 52 (fF fO 0) 1 8 underlying30 tX rfl fu (.slice lA L Q) L (hH x.s.a0) rfl aU.out (gh ⟨w.heap.size+1,0,fU⟩) 1 1 [fF fO (n:Int)] rfl (gO.kE (cs:=#[fF fO (n:Int)]) (gO.X _ _ _ fz) rfl) (fun u D=>by rw[List.mem_singleton.1 D];rfl) (by unfold maxLen;omega) fu fw ?_);rintro v1 w2 d c f _;obtain⟨A1,c1,rfl,bk⟩:=fJ d;have aW:=fQ d;have aM:=fQ c;have aN:=fQ (show(Aw A1 (L+1) c1).ownBlock=(Aw lA L Q).ownBlock\/(Aw A1 (L+1) c1).ownBlock=gh ((w.alloc (fR #[p,fG E O j] 62)).alloc (fR #[fF fO (n:Int)] 52)).heap.size by simpa using f);have aO:w.heap.size+1+1<=w2.heap.size:=(by simpa using c.size)
 have aX:=fQ (show Src w2 Aa (m*1) (hH a) by
  rw[Nat.mul_one]
  exact(aV.heap c.size (fun k l bm=>c.block k bm (fun e=>HF.out k l (fT (fT (.inl (by rw[M.out];exact e.symm))))))).len.2.1)
 clear d c f;go_wp2_with (at_builtin;refine nQ _ rfl (.tmp 21) (.tmp 22) 30 rfl C.w0.heap.size 52 (fF fO 0) 1 8 underlying30 tX rfl fu (.slice A1 (L+1) c1) (L+1) (hH x.s.a0 ++ [.int fO (n:Int)]) rfl aW.out Aa m ca (hH a) rfl aX.out (qN _) (by unfold maxLen;omega) fu fu ?_);rintro v2 w3 S k2 k3 _;have Y:=eJf aM.out k2 aN.out
 have al:∀ k,v2.ownBlock=gh k->x.lv.ownBlock=gh k\/((w.alloc (fR #[p,fG E O j] 62)).alloc (fR #[fF fO (n:Int)] 52)).heap.size<=k:=fun k l=>by
  rcases k3 with e|e
  ·rw[l]at e;rcases aN.out with e2|e2
   ·exact .inl (by rw[M.out,<-e2,<-e])
   ·rw[<-e]at e2;injection e2 with e2;exact fT (BQ e2.symm)
  ·rw[l]at e;injection e with e;exact fT (by rw[e];exact aM.out.size)
 have ai:(x.s.a0++n :: a).length=L+1+m:=by simp[HL.out,bc.out];omega
 have ag:w3.ownsRow C.w0.heap.size 52 1 v2 (x.s.a0++n :: a).length (hH (x.s.a0++n :: a)):=by
  rw[ai];have:hH (x.s.a0++n :: a)=hH x.s.a0 ++ [fF fO (n:Int)]++hH a:=(by simp[hH]);rw[this]
  simpa using S
 have aj:ij (x.s.a0++n :: a):=fun y T=>by
  rcases List.mem_append.1 T with h1|h1
  ·exact aL.out y h1
  ·rcases List.mem_cons.1 h1 with rfl|h1
   ·omega
   ·exact aK.out y h1
 have ad:gO w3 C.mb 79 (iC C x):=K.a9.grown Y (fun e=>(iZ K.a0 K.a9 fy) (by rw[M.out];exact e));have aP:w3.cell? ⟨C.mb,11,fU⟩=gh (fG lA L Q):=(by rw[ad.cell 11];simp[iC,M.out]);have f11:=ik ad 11;have y3:=ad.lt;have HX:=fQ (K.fYf v2 (x.s.a0++n :: a) (by rw[M.out];exact Y) ag aj al);have aQ:=fQ (((MK.jN (C:=C) (x:=x) ((AW _ _).alloc (Ax _) (fR #[fF fO (n:Int)] 52)))).fYf (w0:=w.alloc (fR #[p,fG E O j] 62)) v2 (x.s.a0++n :: a) (by rw[M.out];exact Y) al);obtain⟨A2,c2,rfl,_⟩:=fJ ag;obtain⟨l2,aY⟩:=fX ((x.s.a0++n :: a).length);rw[aY]at HX aQ ⊢;clear S k2 k3 Y al ai ag aj ad aY bf;go_wp2_with fail;go_loopw [10,11] (fun v i wr=>∃ k:Nat,k<=O/\k<=x.s.input.length/\i = fF fN k/\Hid (eKj C x (w.alloc (fR #[p,fG E O j] 62)) (x.s.a0++n :: a) g.out k v wr)) (fun _ i _=>O - (intOf i).toNat)
 case atStart=>exact⟨0,fu,fu,rfl,fQ ⟨_,HX.out,aQ.out,rfl,AQ _ _ _ _,fun g hg=>by cases hg⟩⟩
 case round=>
  clear HX aQ aU K aW aM aN aX aV aP f11 y3 aO;obtain⟨k,l,bn,rfl,IV⟩:=hrel;obtain⟨x1,F,J2,J3,J4,J5⟩:=IV.out;have K1:=J2.a9 be.out bg.out;have k0:=K1.cell 0;have S:=K1.cell 1;simp at k0 S;have yk:=K1.lt;obtain⟨Av,cv,rfl,bA⟩:=fJ J4;have aZ:=gG jk.s J3;have ay:x1.s.input=x.s.input.drop k:=(by rw[aZ]);have U:UR wr x1.iv (x.s.input.drop k):=(by rw[<-ay];exact F.inp);obtain⟨iA,G,V⟩:=U.I;obtain⟨Z,hZ⟩:=fX ((x.s.input.drop k).length);have a1:x.s.input.length=k+Z:=(by rw[AX]at hZ;omega);rw[hZ]at V;have bB:wr.cell? ⟨C.mb,10,fU⟩=gh (fG iA Z G):=(by rw[F.cell 10];simp[iC,V]);have f10:=ik F.a9 10;rw[V]at U;have r:=fQ F;have B:=fQ J2;have N:=fQ J3;have z:=fQ J4;have aF:=fQ J5;have W:=fQ U;have aG:=fQ V;have P:=fQ a1;have bC:=fQ (HQ.C F.bel (Ax _));have bo:=U.len.2.2.1;clear F J2 J3 J4 J5 aZ ay U V hZ K1 IV a1;by_cases a6:k<O
  ·have t2:(k:Int)<O:=fu;obtain⟨t,ht⟩:∃ t,g.out[k]? = gh t:=⟨_,AJ (by rw[aJ.out];exact a6)⟩;obtain⟨b,o,e1,aR,a7⟩:=HQ.cell ht;subst e1;have hc:wr.cell? ⟨b,o+k,fU⟩=gh (fF fN t):=(r.bel.cell (p:=⟨b,o+k,fU⟩) aR).trans a7;have bp:b≠C.mb:=(by have:=r.mb;omega);have bD:∀ u,(wr.setCell ⟨C.mb,10,fU⟩ u).cell? ⟨b,o+k,fU⟩=gh (fF fN t):=fun u=>(pX bp).trans hc;have bE:∀ u,(wr.setCell ⟨C.mb,10,fU⟩ u).cell? ⟨w.heap.size,1,fU⟩=gh (fG (gh ⟨b,o,fU⟩) O j):=fun u=>(pX fu).trans S;clear aR a7;by_cases bq:Z=0
   ·subst bq;clear ht;go_wp2_with fail;refine bodyPost_ret (results_tmp2 (t:=8) (u:=9) rfl _ _ _) rfl ?_;exact fXj aT.out r.out B.out N.out (by have:=P.out;omega) (by rw[aJ.out];exact a6)
   ·obtain⟨y,T⟩:∃ y,(x.s.input.drop k)[0]? = gh y:=⟨_,AJ (by rw[AX];have:=P.out;omega)⟩;obtain⟨b',o',e2,bF,br,aC⟩:=W.cell T;subst e2;rw[Nat.add_zero]at br;have t3:((Z:Int) == 0)=gm:=fw;have t4:(0:Int)<(Z:Int):=fu;have t5:(1:Int)<=(Z:Int):=fu;have HT:=fQ ht;have HY:=fQ T;clear ht T;have aH:1<=Z:=fu;by_cases bs:G=1
    ·have bt:G - 1=0:=fu;subst bs;have bu:Z=1:=fu;subst bu;by_cases A:t=127
     ·have H:=fQ (show oY t y=y % 4294967296 by unfold oY;rw[gz A]);have hand:=sm aC;have I:=fQ (lJ (iW (k:=10) (u:=(fG (gh ⟨b',o',fU⟩) 0 0)) z.out (iZ z.out r.a9 fy)) (fR #[fF fO ((y % 4294967296:Nat):Int)] 52));go_wp2_with (at_builtin;refine nQ _ rfl (.tmp 61) (.tmp 63) 30 rfl (w.alloc (fR #[p,fG (gh ⟨b,o,fU⟩) O j] 62)).heap.size 52 (fF fO 0) 1 8 underlying30 tX rfl fu (.slice Av k cv) k (hH (ie (g.out.take k) (x.s.input.take k))) rfl I.out (gh ⟨wr.heap.size,0,fU⟩) 1 1 [fF fO ((y % 4294967296:Nat):Int)] rfl (gO.kE (cs:=#[fF fO ((y % 4294967296:Nat):Int)]) (gO.X _ _ _ fz) rfl) (fun u D=>by rw[List.mem_singleton.1 D];rfl) (by unfold maxLen;omega) fu (by have:=B.out.size;simp at this ⊢;omega) ?_);rintro v' w' d c f _;have J:=fQ (bXd r.out B.out N.out z.out aF.out HT.out HY.out H.out (cXd W.out aH) (by rw[aG.out];exact fun k l=>l) fw (by first|exact d|simpa using d) (by first|exact c|simpa using c) (by first|exact f|simpa using f));clear d c f;go_wp2;exact⟨⟨k+1,fu,by have:=P.out;omega,fz,J⟩,fB⟩
     ·have t6:(t == 127)=gm:=(by simp[A]);have H:=fQ (show oY t y=y by unfold oY;rw[gy A]);clear A;have I:=fQ (lJ (iW (k:=10) (u:=(fG (gh ⟨b',o',fU⟩) 0 0)) z.out (iZ z.out r.a9 fy)) (fR #[fF fO ((y:Nat):Int)] 52));go_wp2_with (at_builtin;refine nQ _ rfl (.tmp 61) (.tmp 63) 30 rfl (w.alloc (fR #[p,fG (gh ⟨b,o,fU⟩) O j] 62)).heap.size 52 (fF fO 0) 1 8 underlying30 tX rfl fu (.slice Av k cv) k (hH (ie (g.out.take k) (x.s.input.take k))) rfl I.out (gh ⟨wr.heap.size,0,fU⟩) 1 1 [fF fO ((y:Nat):Int)] rfl (gO.kE (cs:=#[fF fO ((y:Nat):Int)]) (gO.X _ _ _ fz) rfl) (fun u D=>by rw[List.mem_singleton.1 D];rfl) (by unfold maxLen;omega) fu (by have:=B.out.size;simp at this ⊢;omega) ?_);rintro v' w' d c f _;have J:=fQ (bXd r.out B.out N.out z.out aF.out HT.out HY.out H.out (cXd W.out aH) (by rw[aG.out];exact fun k l=>l) fw (by first|exact d|simpa using d) (by first|exact c|simpa using c) (by first|exact f|simpa using f));clear d c f;go_wp2;exact⟨⟨k+1,fu,by have:=P.out;omega,fz,J⟩,fB⟩
    ·by_cases A:t=127
     ·have H:=fQ (show oY t y=y % 4294967296 by unfold oY;rw[gz A]);have hand:=sm aC;have I:=fQ (lJ (iW (k:=10) (u:=(fG (gh ⟨b',o'+1,fU⟩) (Z - 1) (G - 1))) z.out (iZ z.out r.a9 fy)) (fR #[fF fO ((y % 4294967296:Nat):Int)] 52));go_wp2_with (at_builtin;refine nQ _ rfl (.tmp 61) (.tmp 63) 30 rfl (w.alloc (fR #[p,fG (gh ⟨b,o,fU⟩) O j] 62)).heap.size 52 (fF fO 0) 1 8 underlying30 tX rfl fu (.slice Av k cv) k (hH (ie (g.out.take k) (x.s.input.take k))) rfl I.out (gh ⟨wr.heap.size,0,fU⟩) 1 1 [fF fO ((y % 4294967296:Nat):Int)] rfl (gO.kE (cs:=#[fF fO ((y % 4294967296:Nat):Int)]) (gO.X _ _ _ fz) rfl) (fun u D=>by rw[List.mem_singleton.1 D];rfl) (by unfold maxLen;omega) fu (by have:=B.out.size;simp at this ⊢;omega) ?_);rintro v' w' d c f _;have J:=fQ (bXd r.out B.out N.out z.out aF.out HT.out HY.out H.out (cKh W.out aH) (by rw[aG.out];exact fun k l=>l) fw (by first|exact d|simpa using d) (by first|exact c|simpa using c) (by first|exact f|simpa using f));clear d c f;go_wp2;exact⟨⟨k+1,fu,by have:=P.out;omega,fz,J⟩,fB⟩
     ·have t6:(t == 127)=gm:=(by simp[A]);have H:=fQ (show oY t y=y by unfold oY;rw[gy A]);clear A;have I:=fQ (lJ (iW (k:=10) (u:=(fG (gh ⟨b',o'+1,fU⟩) (Z - 1) (G - 1))) z.out (iZ z.out r.a9 fy)) (fR #[fF fO ((y:Nat):Int)] 52));go_wp2_with (at_builtin;refine nQ _ rfl (.tmp 61) (.tmp 63) 30 rfl (w.alloc (fR #[p,fG (gh ⟨b,o,fU⟩) O j] 62)).heap.size 52 (fF fO 0) 1 8 underlying30 tX rfl fu (.slice Av k cv) k (hH (ie (g.out.take k) (x.s.input.take k))) rfl I.out (gh ⟨wr.heap.size,0,fU⟩) 1 1 [fF fO ((y:Nat):Int)] rfl (gO.kE (cs:=#[fF fO ((y:Nat):Int)]) (gO.X _ _ _ fz) rfl) (fun u D=>by rw[List.mem_singleton.1 D];rfl) (by unfold maxLen;omega) fu (by have:=B.out.size;simp at this ⊢;omega) ?_);rintro v' w' d c f _;have J:=fQ (bXd r.out B.out N.out z.out aF.out HT.out HY.out H.out (cKh W.out aH) (by rw[aG.out];exact fun k l=>l) fw (by first|exact d|simpa using d) (by first|exact c|simpa using c) (by first|exact f|simpa using f));clear d c f;go_wp2;exact⟨⟨k+1,fu,by have:=P.out;omega,fz,J⟩,fB⟩
  ·have t1:decide ((k:Int)<O)=gm:=fw;have aS:O=k:=fu;subst aS;go_wp2_with fail;refine bodyPost_ret (results_tmp2 (t:=8) (u:=9) rfl _ _ _) rfl ?_;exact fKd aT.out r.out B.out N.out z.out bn aJ.out
theorem cXa:(fZ.info? 5).map (fun i=>(i.zero,i.size,i.bytes))=gh (gh (fF .u8 0),1,1):=fx
theorem aYv:(fZ.info? 52).map (fun i=>(i.zero,i.size,i.bytes))=gh (gh (fF fO 0),1,8):=fx
structure mG (w:Bb) (x0 x1 x2 x3 x4 x5:Bc) (wr:Bb):Prop where
 k:gO wr w.heap.size 33 #[x0,x1,x2,x3,x4,x5]
 z:gO wr (w.heap.size+1) 33 #[fG fU 0 0,fF fN 0,fG fU 0 0,fF fN 0,fG fU 0 0,fG fU 0 0]
 b:Bd w.heap.size w wr
theorem mG.next{y0 y1 y2 y3 y4 y5:Bc}(h:mG w x0 x1 x2 x3 x4 x5 wr)(hg:wr.grownBy w' fU)(i:Nat)(v:Bc)(hi:(#[x0,x1,x2,x3,x4,x5]:Array Bc).setIfInBounds i v=#[y0,y1,y2,y3,y4,y5]):mG w y0 y1 y2 y3 y4 y5 (w'.setCell ⟨w.heap.size,i,fU⟩ v):=by
 have a:=fY (h.k.grown hg (by intro h;cases h)) i v;rw[hi]at a;have hs:=h.b.size;refine⟨a,tW (h.z.grown hg (by intro h;cases h)) fu,?_⟩;exact(oQ h.b hg hs (fun j hj=>by cases hj)).setCell (p:=⟨w.heap.size,i,fU⟩) (Ax _) _
theorem bJs{B N:Nat}(e:v.ownBlock=(Aw fU 0 0).ownBlock\/v.ownBlock=gh B)(h:v.ownBlock=gh k)(hB:N<=B):N<=k:=by
 rcases e with e|e
 ·rw[h]at e;cases e
 ·rw[h]at e;injection e with e;omega
theorem mZ{i:Nat}{u:Bc}{a:List Bc}{cs:Array Bc}(h:w.ownsRow base e 1 v n a)(b:gO w g t cs)(c:e≠t):(w.setCell ⟨g,i,fU⟩ u).ownsRow base e 1 v n a:=iW h (iZ h b c)
theorem rn{i:Nat}{u:Bc}{a:List Bc}{cs:Array Bc}(h:wr.ownsRow base e 1 v n a)(hg:wr.grownBy w' fU)(b:gO w' g t cs)(c:e≠t):(w'.setCell ⟨g,i,fU⟩ u).ownsRow base e 1 v n a:=by
 have h1:w'.ownsRow base e 1 v n a:=yW h (fun k _ b=>hg.block k b fz);exact iW h1 (iZ h1 b c)
def dKo(s:gT)(w:Bb)(b:Ending)(w':Bb):Prop:=∃ a g i l,b = fS (.agg #[a,fF fN s.Y,g,fF fN s.U,i,l])/\w'.ownsRow w.heap.size 5 1 a s.L.length (jv s.L)/\w'.ownsRow w.heap.size 52 1 g s.E.length (hH s.E)/\w'.ownsRow w.heap.size 52 1 i s.input.length (hH s.input)/\w'.ownsRow w.heap.size 52 1 l s.a0.length (hH s.a0)/\Bd w.heap.size w w' /\
 (∀ k,g.ownBlock=gh k->l.ownBlock≠gh k/\i.ownBlock≠gh k/\a.ownBlock≠gh k)/\(∀ k,l.ownBlock=gh k->i.ownBlock≠gh k/\a.ownBlock≠gh k)
theorem cXb(g:Array Bc)(W:Bb)(h:Nat)(a b c d e f:Bc)(h2:g.getD 2 undef = fM (gh ⟨h,0,fU⟩))(k:gO W h 33 #[a,b,c,d,e,f]):
  (results Tryz.f18 g).run fZ W = .ok (.agg #[a,b,c,d,e,f]) W:=by
 obtain⟨i,j,l,m,n,o⟩:=iY k;simp only[Ae]at h2;simp[results,results18,go_sem,h2,i,j,l,m,n,o]
theorem tQ(i:gO w g t #[x0,x1,x2,x3,x4,x5])(a b c d e f:Bc):gO ((((((w.setCell ⟨g,0,fU⟩ a).setCell ⟨g,1,fU⟩ b).setCell ⟨g,2,fU⟩ c).setCell ⟨g,3,fU⟩ d).setCell ⟨g,4,fU⟩ e).setCell ⟨g,5,fU⟩ f) g t #[a,b,c,d,e,f]:=by
 have h:=fY (fY (fY (fY (fY (fY i 0 a) 1 b) 2 c) 3 d) 4 e) 5 f
 simpa using h
theorem tJ{B:Nat}(h:Bd B w w')(hg:B<=g)(a b c d e f:Bc):Bd B w ((((((w'.setCell ⟨g,0,fU⟩ a).setCell ⟨g,1,fU⟩ b).setCell ⟨g,2,fU⟩ c).setCell ⟨g,3,fU⟩ d).setCell ⟨g,4,fU⟩ e).setCell ⟨g,5,fU⟩ f):=
 (((((h.setCell (p:=⟨g,0,fU⟩) hg _).setCell (p:=⟨g,1,fU⟩) hg _).setCell (p:=⟨g,2,fU⟩) hg _).setCell (p:=⟨g,3,fU⟩) hg _).setCell (p:=⟨g,4,fU⟩) hg _).setCell (p:=⟨g,5,fU⟩) hg _
theorem nK{i:List Bc}(h:w.ownsRow base e 1 v n i)(j:gO w g t #[x0,x1,x2,x3,x4,x5])(k:e≠t)(a b c d e' f:Bc):((((((w.setCell ⟨g,0,fU⟩ a).setCell ⟨g,1,fU⟩ b).setCell ⟨g,2,fU⟩ c).setCell ⟨g,3,fU⟩ d).setCell ⟨g,4,fU⟩ e').setCell ⟨g,5,fU⟩ f).ownsRow base e 1 v n i:=by
 have q:=iZ h j k;exact iW (iW (iW (iW (iW (iW h q) q) q) q) q) q
theorem dKp(va:Bc)(s:gT)(w:Bb)(h:kf w va s):Be fZ 18 #[va] w (dKo s w):=by
 obtain⟨a,g,i,l,rfl,h1,h2,T,U⟩:=h;obtain⟨V,c1,rfl⟩:=h1.I;obtain⟨J,K,rfl⟩:=h2.I;obtain⟨L,M,rfl⟩:=T.I;obtain⟨N,O,rfl⟩:=U.I;have s1:=h1.len.2.1;have z1:=h1.len.2.2.2.2.1.1;have s2:=h2.len.2.1;have z2:=h2.len.2.2.2.2.1.1;have s3:=T.len.2.1;have z3:=T.len.2.2.2.2.1.1;have s4:=U.len.2.1;have z4:=U.len.2.2.2.2.1.1;obtain⟨n1,W⟩:∃ n,s.L.length=n:=⟨_,rfl⟩;obtain⟨n2,X⟩:∃ n,s.E.length=n:=⟨_,rfl⟩;obtain⟨e,Y⟩:∃ n,s.input.length=n:=⟨_,rfl⟩;obtain⟨c,Z⟩:∃ n,s.a0.length=n:=⟨_,rfl⟩;rw[W]at s1 z1;rw[X]at s2 z2;rw[Y]at s3 z3;rw[Z]at s4 z4;rw[W,X,Y,Z];obtain⟨xo,aw⟩:∃ o,Obj.cells #[fG V n1 c1,fF fN s.Y,fG J n2 K,fF fN s.U,fG L e M,fG N c O] 33=o:=⟨_,rfl⟩
 have P:=fQ (show mG w (fG V n1 c1) (fF fN s.Y) (fG J n2 K) (fF fN s.U) (fG L e M) (fG N c O) ((w.alloc (fR #[fG V n1 c1,fF fN s.Y,fG J n2 K,fF fN s.U,fG L e M,fG N c O] 33)).alloc (fR #[fG fU 0 0,fF fN 0,fG fU 0 0,fF fN 0,fG fU 0 0,fG fU 0 0] 33))from
  ⟨gO.alloc (gO.a4 w _ _) _,gO.X _ _ _ fz,pE w _ _⟩)
 have S1:=fQ (fun(w':Bb) (D:Bd w.heap.size w w')=>s1.C D (Ax _));have S2:=fQ (fun(w':Bb) (D:Bd w.heap.size w w')=>s2.C D (Ax _));have S3:=fQ (fun(w':Bb) (D:Bd w.heap.size w w')=>s3.C D (Ax _));have S4:=fQ (fun(w':Bb) (D:Bd w.heap.size w w')=>s4.C D (Ax _));have q0:(Aw fU 0 0).ownBlock=fU:=rfl;have N1:=fQ W;have N2:=fQ X;have N3:=fQ Y;have N4:=fQ Z;clear h1 h2 T U s1 s2 s3 s4 W X Y Z aw xo;clear q0;go_in;go_wp2_with (at_builtin;refine nQ _ rfl _ (.tmp 4) 31 rfl w.heap.size 5 (fF .u8 0) 1 1 underlying31 cXa rfl fu (.slice fU 0 0) 0 [] rfl (AQ _ _ _ _) V n1 c1 (jv s.L) rfl (by simpa using S1.out _ P.b) (nI _) (by unfold maxLen;omega) fu P.b.size ?_);rintro v w1 o1 g1 e1 _;obtain⟨x,y,rfl,_⟩:=fJ o1;have G:=P.k.grown g1 (by intro h;cases h);have Q:=fQ (P.next g1 0 (fG x n1 y) rfl);have ag:=fQ (mZ (i:=0) (g:=w.heap.size) (u:=(fG x n1 y)) o1 G fy);have E1:=fQ (show ∀ k,(Aw x n1 y).ownBlock=gh k->w.heap.size<=k/\k<w1.heap.size from fun k d=>⟨bJs e1 d (by first|(simp[AK];done)|omega),(o1.lt k d).2⟩);have f1:=ik G 0;obtain⟨u1,k1⟩:∃ u,w1.cell? ⟨w.heap.size,0,fU⟩=gh u:=⟨_,by rw[G.cell 0];rfl⟩;have y1:=G.lt;have m1:w1.cell? ⟨w.heap.size,2,fU⟩=gh (fG J n2 K):=(by rw[G.cell 2];rfl);clear o1 g1 e1 G P;go_wp2_with (at_builtin;refine nQ _ rfl _ (.tmp 8) 30 rfl w.heap.size 52 (fF fO 0) 1 8 underlying30 aYv rfl fu (.slice fU 0 0) 0 [] rfl (AQ _ _ _ _) J n2 K (hH s.E) rfl (by simpa using S2.out _ Q.b) (qN _) (by unfold maxLen;omega) fu Q.b.size ?_);rintro v w2 o2 H e2 _;obtain⟨r,t,rfl,_⟩:=fJ o2;have E:=Q.k.grown H (by intro h;cases h);have R:=fQ (Q.next H 2 (fG r n2 t) rfl);have ah:=fQ (rn (i:=2) (g:=w.heap.size) (u:=(fG r n2 t)) ag.out H E fy);have ai:=fQ (mZ (i:=2) (g:=w.heap.size) (u:=(fG r n2 t)) o2 E fy);have E2:=fQ (show ∀ k,(Aw r n2 t).ownBlock=gh k->w1.heap.size<=k/\k<w2.heap.size from fun k d=>⟨bJs e2 d (by first|(simp;done)|omega),(o2.lt k d).2⟩);have Z2:w1.heap.size<=w2.heap.size:=(by have:=H.size;simpa[AK]using this);have f2:=ik E 2;obtain⟨u2,k2⟩:∃ u,w2.cell? ⟨w.heap.size,2,fU⟩=gh u:=⟨_,by rw[E.cell 2];rfl⟩;have y2:=E.lt;have m2:w2.cell? ⟨w.heap.size,4,fU⟩=gh (fG L e M):=(by rw[E.cell 4];rfl);clear o2 H e2 E Q ag f1 k1 y1 m1 u1;go_wp2_with (at_builtin;refine nQ _ rfl _ (.tmp 12) 30 rfl w.heap.size 52 (fF fO 0) 1 8 underlying30 aYv rfl fu (.slice fU 0 0) 0 [] rfl (AQ _ _ _ _) L e M (hH s.input) rfl (by simpa using S3.out _ R.b) (qN _) (by unfold maxLen;omega) fu R.b.size ?_);rintro v I o3 F e3 _;obtain⟨p,q,rfl,_⟩:=fJ o3;have A:=R.k.grown F (by intro h;cases h);have S:=fQ (R.next F 4 (fG p e q) rfl);have aj:=fQ (rn (i:=4) (g:=w.heap.size) (u:=(fG p e q)) ah.out F A fy)
 have ak:=fQ (rn (i:=4) (g:=w.heap.size) (u:=(fG p e q)) ai.out F A fy);have al:=fQ (mZ (i:=4) (g:=w.heap.size) (u:=(fG p e q)) o3 A fy);have E3:=fQ (show ∀ k,(Aw p e q).ownBlock=gh k->w2.heap.size<=k/\k<I.heap.size from fun k d=>⟨bJs e3 d (by first|(simp;done)|omega),(o3.lt k d).2⟩);have Z3:w2.heap.size<=I.heap.size:=(by have:=F.size;simpa[AK]using this);have f3:=ik A 4;obtain⟨u3,k3⟩:∃ u,I.cell? ⟨w.heap.size,4,fU⟩=gh u:=⟨_,by rw[A.cell 4];rfl⟩;have y3:=A.lt;have m3:I.cell? ⟨w.heap.size,5,fU⟩=gh (fG N c O):=(by rw[A.cell 5];rfl);clear o3 F e3 A R ah ai f2 k2 y2 m2 u2;go_wp2_with (at_builtin;refine nQ _ rfl _ (.tmp 16) 30 rfl w.heap.size 52 (fF fO 0) 1 8 underlying30 aYv rfl fu (.slice fU 0 0) 0 [] rfl (AQ _ _ _ _) N c O (hH s.a0) rfl (by simpa using S4.out _ S.b) (qN _) (by unfold maxLen;omega) fu S.b.size ?_);rintro v w4 o4 B e4 _;obtain⟨j,m,rfl,_⟩:=fJ o4;have C:=S.k.grown B (by intro h;cases h);have f:=fQ (S.next B 5 (fG j c m) rfl);have aa:=fQ (rn (i:=5) (g:=w.heap.size) (u:=(fG j c m)) aj.out B C fy);have ad:=fQ (rn (i:=5) (g:=w.heap.size) (u:=(fG j c m)) ak.out B C fy);have ae:=fQ (rn (i:=5) (g:=w.heap.size) (u:=(fG j c m)) al.out B C fy);have af:=fQ (mZ (i:=5) (g:=w.heap.size) (u:=(fG j c m)) o4 C fy);have E4:=fQ (show ∀ k,(Aw j c m).ownBlock=gh k->I.heap.size<=k/\k<w4.heap.size from fun k d=>⟨bJs e4 d (by first|(simp;done)|omega),(o4.lt k d).2⟩);have f4:=ik C 5;obtain⟨u4,k4⟩:∃ u,w4.cell? ⟨w.heap.size,5,fU⟩=gh u:=⟨_,by rw[C.cell 5];rfl⟩;have y4:=C.lt;clear o4 B e4 C S aj ak al f3 k3 y3 m3 u3;obtain⟨wx,au⟩:=fX (w4.setCell ⟨w.heap.size,5,fU⟩ (fG j c m));rw[au]at f aa ad ae af;obtain⟨r0,r1,r2,r3,r4,r5⟩:=iY f.k;have g0:=ik f.z 0;have g1:=ik f.z 1;have H:=ik f.z 2;have F:=ik f.z 3;have B:=ik f.z 4;have g5:=ik f.z 5;obtain⟨p0,p1,p2,p3,p4,p5⟩:=iY f.z;have ax:=fQ (tQ f.z (fG x n1 y) (fF fN s.Y) (fG r n2 t) (fF fN s.U) (fG p e q) (fG j c m));have ay:=fQ (tJ f.b (show w.heap.size<=w.heap.size+1 by omega) (fG x n1 y) (fF fN s.Y) (fG r n2 t) (fF fN s.U) (fG p e q) (fG j c m));have H1:=fQ (nK aa.out f.z fy (fG x n1 y) (fF fN s.Y) (fG r n2 t) (fF fN s.U) (fG p e q) (fG j c m));have H2:=fQ (nK ad.out f.z fy (fG x n1 y) (fF fN s.Y) (fG r n2 t) (fF fN s.U) (fG p e q) (fG j c m));have H3:=fQ (nK ae.out f.z fy (fG x n1 y) (fF fN s.Y) (fG r n2 t) (fF fN s.U) (fG p e q) (fG j c m));have H4:=fQ (nK af.out f.z fy (fG x n1 y) (fF fN s.Y) (fG r n2 t) (fF fN s.U) (fG p e q) (fG j c m))
 clear f aa ad ae af;go_upto_region 5 with fail;clear f4 k4 y4 au;go_wp2_with fail;refine bodyPost_ret (cXb _ _ (w.heap.size+1) _ _ _ _ _ _ rfl ax.out) rfl ?_
 exact⟨fG x n1 y,fG r n2 t,fG p e q,fG j c m,rfl,by rw[N1.out];exact H1.out,by rw[N2.out];exact H2.out,by rw[N3.out];exact H3.out,by rw[N4.out];exact H4.out,ay.out,
  fun k d=>⟨fun h=>by have:=E2.out k d;have:=E4.out k h;omega,fun h=>by have:=E2.out k d;have:=E3.out k h;omega,fun h=>by have:=E2.out k d;have:=E1.out k h;omega⟩,
  fun k d=>⟨fun h=>by have:=E4.out k d;have:=E3.out k h;omega,fun h=>by have:=E4.out k d;have:=E1.out k h;omega⟩⟩
theorem cWj(v:Bc)(l:List Nat)(w:Bb)(h:BR w v l):Be fZ 47 #[v] w fun e w'=>∃ v',e = fS v'/\w'.ownsRow w.heap.size 5 1 v' l.length (jv l)/\Bd w.heap.size w w':=by
 obtain⟨A,c,rfl,hs,hc,f,hn,_⟩:=h;have ae:∀ (w:Bb) (a:Option Addr) (n c g i:Nat),(binOp .eql 31 (fG a n c) (fG fU g i)).run fZ w = .ok (fH a.isNone) w:=fun w a n c g i=>Lib.run_eql_slice_nil w 31 5 a n c g i underlying31;obtain⟨n,d⟩:=fX l.length;rw[d]at hs hc hn ⊢;rcases A with _|⟨b,o,sp⟩
 ·have m:c=0:=f rfl;subst m;have p:n=0:=fu;subst p;have q:l = []:=List.eq_nil_of_length_eq_zero d;subst q;clear f hs hc hn d;go_in;go_wp2;go_ret;exact⟨_,rfl,AQ _ _ _ _,AW _ _⟩
 ·have r:=fQ (hs.C (w':=w.alloc (fR #[] 5)) ((AW _ _).alloc (Ax _) _) (Ax _));have af:=hn.1;clear hs f hn d;go_in;go_wp2_with (at_builtin;refine qv _ rfl _ (.tmp 6) 31 rfl w.heap.size 5 _ 1 underlying31 cXa rfl _ 0 [] rfl (World.ownsRow_lit w #[] 0 (Ax _) (by unfold maxLen;omega) rfl) _ n c _ rfl r.out (nI _) (by unfold maxLen;omega) fu fz ?_);rintro v' w' j k;have s:=fQ (by simpa using j:w'.ownsRow w.heap.size 5 1 v' n (jv l));have t:=fQ k;clear j k;go_wp2;go_ret;exact⟨v',rfl,s.out,((AW _ _).alloc (Ax _) _).trans t.out⟩
theorem cJc(g:Array Bc)(W:Bb)(h:Nat)(a b c d e f:Bc)(h2:g.getD 2 undef = fM (gh ⟨h,0,fU⟩))(k:gO W h 33 #[a,b,c,d,e,f]):
  (results Tryz.f26 g).run fZ W = .ok (.agg #[a,b,c,d,e,f]) W:=by
 obtain⟨i,j,l,m,n,o⟩:=iY k;simp only[Ae]at h2;simp[results,results26,go_sem,h2,i,j,l,m,n,o]
theorem bQv(va:Bc)(s:gT)(w:Bb)(h:kf w va s):Be fZ 26 #[va] w (dKo s w):=by
 obtain⟨a,g,i,l,rfl,h1,h2,h3,h4⟩:=h;obtain⟨Z,c1,rfl⟩:=h1.I;obtain⟨V,W,rfl⟩:=h2.I;obtain⟨M,O,rfl⟩:=h3.I;obtain⟨H,I,rfl⟩:=h4.I;obtain⟨m1,ai⟩:∃ k,s.L.length=k:=⟨_,rfl⟩;obtain⟨m2,aj⟩:∃ k,s.E.length=k:=⟨_,rfl⟩;obtain⟨f,ak⟩:∃ k,s.input.length=k:=⟨_,rfl⟩;obtain⟨m,al⟩:∃ k,s.a0.length=k:=⟨_,rfl⟩;rw[ai]at h1;rw[aj]at h2;rw[ak]at h3;rw[al]at h4;have an:=fQ ai;have ao:=fQ aj;have aq:=fQ ak;have ar:=fQ al;rw[ai,aj,ak,al];have J:=fQ (show mG w (fG Z m1 c1) (fF fN s.Y) (fG V m2 W) (fF fN s.U) (fG M f O) (fG H m I) ((w.alloc (fR #[fG Z m1 c1,fF fN s.Y,fG V m2 W,fF fN s.U,fG M f O,fG H m I] 33)).alloc (fR #[fG fU 0 0,fF fN 0,fG fU 0 0,fF fN 0,fG fU 0 0,fG fU 0 0] 33))from⟨(gO.a4 _ _ _).alloc _,gO.X _ (N:=w.heap.size+1) _ _ fz,pE _ _ _⟩);have az:=fQ h1;have aA:=fQ h2;have aB:=fQ h3;have aC:=fQ h4;clear h1 h2 h3 h4 ai aj ak al;go_in;go_upto_region 1 with fail;obtain⟨w1,au⟩:=fX ((w.alloc (fR #[fG Z m1 c1,fF fN s.Y,fG V m2 W,fF fN s.U,fG M f O,fG H m I] 33)).alloc (fR #[fG fU 0 0,fF fN 0,fG fU 0 0,fF fN 0,fG fU 0 0,fG fU 0 0] 33));rw[au]at J ⊢;clear au;have c:=fQ (show mG w _ _ _ _ _ _ w1.drew from⟨J.k.drew,J.z.drew,J.b.drew⟩);obtain⟨n,r1,o,r3,p,q⟩:=iY c.k;refine jY (fun _=>True) (fun w'=>w'.cell? ⟨w.heap.size,0,fU⟩=gh (fG Z m1 c1)/\w'.cell? ⟨w.heap.size,2,fU⟩=gh (fG V m2 W)/\w'.cell? ⟨w.heap.size,4,fU⟩=gh (fG M f O)/\w'.cell? ⟨w.heap.size,5,fU⟩=gh (fG H m I)) 13 fx trivial ⟨n,o,p,q⟩ fun d=>?_;clear n r1 o r3 p q;refine ig 0 d fun d=>?_;refine nY (i:=1) (v:=?v1) rfl fx fx fx (fun _ _ _ h=>h) rfl fx fx (Or.inl ⟨by rfl,?hy1⟩) d fun d=>?_
 case hy1=>intro w P;(try dsimp only at P);go_simp;(try with_reducible rfl)
 try simp only[Ab,Aq,Az,Ak]
 refine ig 3 d fun d=>?_;refine nY (i:=4) (v:=?v4) rfl fx fx fx (fun _ _ _ h=>h) rfl fx fx (Or.inl ⟨by rfl,?hy4⟩) d fun d=>?_
 case hy4=>intro w P;(try dsimp only at P);go_simp;(try with_reducible rfl)
 try simp only[Ab,Aq,Az,Ak]
 refine ig 6 d fun d=>?_;refine nY (i:=7) (v:=?v7) rfl fx fx fx (fun _ _ _ h=>h) rfl fx fx (Or.inl ⟨by rfl,?hy7⟩) d fun d=>?_
 case hy7=>intro w P;(try dsimp only at P);go_simp;(try with_reducible rfl)
 try simp only[Ab,Aq,Az,Ak]
 refine ig 9 d fun d=>?_;refine nY (i:=10) (v:=?v10) rfl fx fx fx (fun _ _ _ h=>h) rfl fx fx (Or.inl ⟨by rfl,?hy10⟩) d fun d=>?_
 case hy10=>intro w P;(try dsimp only at P);go_simp;(try with_reducible rfl)
 try simp only[Ab,Aq,Az,Ak]
 refine gX (i:=2) fx rfl fun K e=>?_;go_simp;refine(cWj (fG Z m1 c1) s.L _ (az.C c.b (Ax _))).mono ?_;rintro en wa ⟨v1,rfl,o1,b1⟩;rw[an.out]at o1;obtain⟨r,t,rfl,_⟩:=fJ o1;have u:=fQ o1;have E1:=fQ (fun(j:Nat) (hj:(Aw r m1 t).ownBlock=gh j)=>(o1.lt j hj).2);have P1:=fQ b1;have c:=fQ (show mG w _ _ _ _ _ _ wa from⟨c.k.C b1 c.k.lt,c.z.C b1 c.z.lt,c.b.trans (b1.mono c.b.size)⟩);obtain⟨n,_,o,_,p,q⟩:=iY c.k;refine e.out _ _ ⟨trivial,fun _=>⟨n,o,p,q⟩⟩ fun d=>?_;clear e K o1 b1 n o p q
 try simp only[Ab,Aq,Az,Ak]
 refine ig 12 d fun d=>?_;refine gX (i:=5) fx rfl fun K e=>?_;go_simp;refine(yJ (fG V m2 W) s.E _ (aA.C c.b (Ax _))).mono ?_;rintro en wb ⟨v2,rfl,o2,X⟩;rw[ao.out]at o2;obtain⟨x,y,rfl,_⟩:=fJ o2;have u:=fQ (iJ u.out X (Ax _));have A:=fQ o2;have E2:=fQ (fun(j:Nat) (hj:(Aw x m2 y).ownBlock=gh j)=>(o2.lt j hj).2);have F2:=fQ (fun(j:Nat) (hj:(Aw x m2 y).ownBlock=gh j)=>(o2.lt j hj).1);have P2:=fQ X;have c:=fQ (show mG w _ _ _ _ _ _ wb from⟨c.k.C X c.k.lt,c.z.C X c.z.lt,c.b.trans (X.mono c.b.size)⟩);obtain⟨n,_,o,_,p,q⟩:=iY c.k;refine e.out _ _ ⟨trivial,fun _=>⟨n,o,p,q⟩⟩ fun d=>?_;clear e K o2 X n o p q
 try simp only[Ab,Aq,Az,Ak]
 refine gX (i:=8) fx rfl fun K e=>?_;go_simp;refine(yJ (fG M f O) s.input _ (aB.C c.b (Ax _))).mono ?_;rintro en wc ⟨v3,rfl,o3,Q⟩;rw[aq.out]at o3;obtain⟨B,C,rfl,_⟩:=fJ o3;have u:=fQ (iJ u.out Q (Ax _));have A:=fQ (iJ A.out Q (Ax _));have F:=fQ o3;have E3:=fQ (fun(j:Nat) (hj:(Aw B f C).ownBlock=gh j)=>(o3.lt j hj).2);have F3:=fQ (fun(j:Nat) (hj:(Aw B f C).ownBlock=gh j)=>(o3.lt j hj).1);have P3:=fQ Q;have c:=fQ (show mG w _ _ _ _ _ _ wc from⟨c.k.C Q c.k.lt,c.z.C Q c.z.lt,c.b.trans (Q.mono c.b.size)⟩);obtain⟨n,_,o,_,p,q⟩:=iY c.k;refine e.out _ _ ⟨trivial,fun _=>⟨n,o,p,q⟩⟩ fun d=>?_;clear e K o3 Q n o p q
 try simp only[Ab,Aq,Az,Ak]
 refine gX (i:=11) fx rfl fun K e=>?_;go_simp;refine(yJ (fG H m I) s.a0 _ (aC.C c.b (Ax _))).mono ?_;rintro en wd ⟨v4,rfl,o4,L⟩;rw[ar.out]at o4;obtain⟨D,E,rfl,_⟩:=fJ o4;have u:=fQ (iJ u.out L (Ax _));have A:=fQ (iJ A.out L (Ax _));have F:=fQ (iJ F.out L (Ax _));have G:=fQ o4;have F4:=fQ (fun(j:Nat) (hj:(Aw D m E).ownBlock=gh j)=>(o4.lt j hj).1);have P4:=fQ L;have c:=fQ (show mG w _ _ _ _ _ _ wd from⟨c.k.C L c.k.lt,c.z.C L c.z.lt,c.b.trans (L.mono c.b.size)⟩);obtain⟨n,_,o,_,p,q⟩:=iY c.k;refine e.out _ _ ⟨trivial,fun _=>⟨n,o,p,q⟩⟩ fun d=>?_;clear e K o4 L n o p q
 try simp only[Ab,Aq,Az,Ak]
 have q0:=(iY c.k).1;have f0:=ik c.k 0;refine gX (i:=13) fx rfl fun K e=>?_;go_simp;obtain⟨aw,R⟩:=fX (wd.setCell ⟨w.heap.size,0,fU⟩ (fG r m1 t));have u:=fQ (R ▸ mZ u.out c.k fy);have A:=fQ (R ▸ mZ A.out c.k fy);have F:=fQ (R ▸ mZ F.out c.k fy);have G:=fQ (R ▸ mZ G.out c.k fy);have c:=fQ (show mG w (fG r m1 t) (fF fN s.Y) (fG V m2 W) (fF fN s.U) (fG M f O) (fG H m I) aw from R ▸ c.next (World.grownBy.refl _ _) 0 (fG r m1 t) rfl);rw[R];refine e.out _ _ (SD.after trivial (by rfl)) fun d=>?_;clear e K R q0 f0
 try simp only[Ab,Aq,Az,Ak]
 refine ig 14 d fun d=>?_;have q1:=(iY c.k).2.2.1;have f1:=ik c.k 2;refine gX (i:=15) fx rfl fun K e=>?_;go_simp;obtain⟨ax,S⟩:=fX (aw.setCell ⟨w.heap.size,2,fU⟩ (fG x m2 y));have u:=fQ (S ▸ mZ u.out c.k fy);have A:=fQ (S ▸ mZ A.out c.k fy);have F:=fQ (S ▸ mZ F.out c.k fy);have G:=fQ (S ▸ mZ G.out c.k fy);have c:=fQ (show mG w (fG r m1 t) (fF fN s.Y) (fG x m2 y) (fF fN s.U) (fG M f O) (fG H m I) ax from S ▸ c.next (World.grownBy.refl _ _) 2 (fG x m2 y) rfl);rw[S];refine e.out _ _ (SD.after trivial (by rfl)) fun d=>?_;clear e K S q1 f1
 try simp only[Ab,Aq,Az,Ak]
 refine ig 16 d fun d=>?_;have q2:=(iY c.k).2.2.2.2.1;have f2:=ik c.k 4;refine gX (i:=17) fx rfl fun K e=>?_;go_simp;obtain⟨ay,T⟩:=fX (ax.setCell ⟨w.heap.size,4,fU⟩ (fG B f C));have u:=fQ (T ▸ mZ u.out c.k fy);have A:=fQ (T ▸ mZ A.out c.k fy);have F:=fQ (T ▸ mZ F.out c.k fy);have G:=fQ (T ▸ mZ G.out c.k fy);have c:=fQ (show mG w (fG r m1 t) (fF fN s.Y) (fG x m2 y) (fF fN s.U) (fG B f C) (fG H m I) ay from T ▸ c.next (World.grownBy.refl _ _) 4 (fG B f C) rfl);rw[T];refine e.out _ _ (SD.after trivial (by rfl)) fun d=>?_;clear e K T q2 f2
 try simp only[Ab,Aq,Az,Ak]
 refine ig 18 d fun d=>?_;have q3:=(iY c.k).2.2.2.2.2;have f3:=ik c.k 5;refine gX (i:=19) fx rfl fun K e=>?_;go_simp;obtain⟨aD,U⟩:=fX (ay.setCell ⟨w.heap.size,5,fU⟩ (fG D m E));have u:=fQ (U ▸ mZ u.out c.k fy);have A:=fQ (U ▸ mZ A.out c.k fy);have F:=fQ (U ▸ mZ F.out c.k fy);have G:=fQ (U ▸ mZ G.out c.k fy);have c:=fQ (show mG w (fG r m1 t) (fF fN s.Y) (fG x m2 y) (fF fN s.U) (fG B f C) (fG D m E) aD from U ▸ c.next (World.grownBy.refl _ _) 5 (fG D m E) rfl);rw[U];refine e.out _ _ (SD.after trivial (by rfl)) fun d=>?_;clear e K U q3 f3
 try simp only[Ab,Aq,Az,Ak]
 refine jX fx ?_ _;clear d;obtain⟨n,r1,o,r3,p,q⟩:=iY c.k;have g0:=ik c.z 0;have g1:=ik c.z 1;have g2:=ik c.z 2;have g3:=ik c.z 3;have g4:=ik c.z 4;have g5:=ik c.z 5;obtain⟨p0,p1,p2,p3,p4,p5⟩:=iY c.z;have aE:=fQ (tQ c.z (fG r m1 t) (fF fN s.Y) (fG x m2 y) (fF fN s.U) (fG B f C) (fG D m E));have aF:=fQ (tJ c.b (show w.heap.size<=w.heap.size+1 by omega) (fG r m1 t) (fF fN s.Y) (fG x m2 y) (fF fN s.U) (fG B f C) (fG D m E));have H1:=fQ (nK u.out c.z fy (fG r m1 t) (fF fN s.Y) (fG x m2 y) (fF fN s.U) (fG B f C) (fG D m E));have H2:=fQ (nK A.out c.z fy (fG r m1 t) (fF fN s.Y) (fG x m2 y) (fF fN s.U) (fG B f C) (fG D m E));have H3:=fQ (nK F.out c.z fy (fG r m1 t) (fF fN s.Y) (fG x m2 y) (fF fN s.U) (fG B f C) (fG D m E));have H4:=fQ (nK G.out c.z fy (fG r m1 t) (fF fN s.Y) (fG x m2 y) (fF fN s.U) (fG B f C) (fG D m E));go_wp2_with fail;have z2:=P2.out.size;have z3:=P3.out.size;refine bodyPost_ret (cJc _ _ (w.heap.size+1) _ _ _ _ _ _ rfl aE.out) rfl ?_
 exact⟨fG r m1 t,fG x m2 y,fG B f C,fG D m E,rfl,by rw[an.out];exact iQ H1.out J.b.size,by rw[ao.out];exact iQ H2.out (AV J.b.size P1.out.size),by rw[aq.out];exact iQ H3.out (AV J.b.size (AV P1.out.size P2.out.size)),by rw[ar.out];exact iQ H4.out (AV J.b.size (AV P1.out.size (AV P2.out.size P3.out.size))),aF.out,
  fun k Y=>⟨fun h=>by have:=E2.out k Y;have:=F4.out k h;omega,fun h=>by have:=E2.out k Y;have:=F3.out k h;omega,fun h=>by have:=E1.out k h;have:=F2.out k Y;omega⟩,
  fun k Y=>⟨fun h=>by have:=E3.out k h;have:=F4.out k Y;omega,fun h=>by have:=E1.out k h;have:=F4.out k Y;omega⟩⟩
theorem cQq{p:hU}{s:iM}{g:iu}(hp:iD p)(hs:jh p.J s)(hg:p.J.R[n]? = gh g)(c:l.length=g.a1.length)(b:ij l)(ad:s.a0.length<=4096):ld p (kW p n l s):=by
 unfold kW;by_cases hi:(n:Int)<p.J.G
 ·rw[gz hi];exact { nU:=fun f hf=>(by cases hf),chain:=trivial,depth:=Bw _,st:=hs,mr:=nW,nj:=Bw _,live:=fun _ h=>(by cases h),nf:=fun _=>rfl,fst:=fun d a h=>(by injection h with h;injection h with h1 h2;subst h1;subst h2;exact⟨hi,b,g,hg,c⟩),fin:=fun h=>(by cases h),go:=fun _=>⟨rfl,rfl⟩,a0:=(by show s.a0.length<=4096+9*0;omega) }
 ·rw[gy hi];have h1:=(gw hg).1;have h2:=hp.len;have h3:=kY hp.J;obtain⟨q,hq⟩:∃ q,p.b0[n - p.J.G.toNat]? = gh q:=⟨_,AJ fu⟩;have e:=(hp.row _ _ hq).1;simp only[hq,hg];exact { nU:=fun f hf=>(by rw[List.mem_singleton.1 hf];exact⟨hq,Ag Nat.one_pos e.n1,rj _ _,yK _ (pZ _ _ b)⟩),chain:=trivial,depth:=fz,st:=hs,mr:=nW,nj:=Bw _,live:=fun _ _ h=>(by cases h),nf:=fun h=>gH rfl h,fst:=fun d a h=>(by cases h),fin:=fun h=>(by cases h),go:=fun _=>⟨rfl,rfl⟩,a0:=(by show s.a0.length<=4096+9*0;omega) }
theorem dJr{p:hU}{x:jP}{f:iP}{rest:List iP}{c:gP}(A:mn):(lp p x f rest c A).first=x.first:=by
 cases A with
 | go k=>rfl
 | vals l s=>rfl
 | trap e s=>rfl
 | ret l=>cases rest <;> rfl
 | call n=>
  unfold lp;by_cases h:16<=rest.length+1
  ·simp only[gz h,uX]
  ·simp only[gy h]
   cases p.b0[n - p.J.G.toNat]? with
   | none=>rfl
   | some q=>cases p.J.R[n]? <;> rfl
theorem cJd{p:hU}(x:jP):(kJ p x).first=x.first:=by
 unfold kJ
 split
 ·rfl
 ·unfold nR
  cases hf:x.first with
  | some q=>obtain⟨n,a⟩:=q;rfl
  | none=>
   simp only[hf]
   cases hs:x.st with
   | nil=>first|(simp only;done)|rfl
   | cons f rest=>
    simp only
    cases hc:f.r.K[f.k]? with
    | none=>first|exact hf|rfl
    | some c=>exact dJr _
theorem bVq{p:hU}:∀ (i:Nat) (x:jP),(jH p i x).first=x.first
 | 0,_=>rfl
 | i+1,x=>(bVq i (kJ p x)).trans (cJd x)
theorem cQr(p:hU)(n:Nat)(l:List Nat)(s:iM):(kW p n l s).b1=0:=by
 unfold kW
 split
 ·rfl
 ·split <;> rfl
theorem eXo{p:hU}{dc wd:Nat}{g:iu}{a:List Nat}{s s2:iM}{e2:Int}(hp:iD p)(b:∀ (i:Nat) q,p.b0[i]? = Option.some q->∀ c∈q.K,c.n<18446744073709551616)(hs:jh p.J s)(hg:p.J.R[n]? = gh g)(d:a.length=g.a1.length)(e:ij a)(f:s.a0.length<=4096)(h:j6 p 8 0 n g a s s2 e2 dc wd l):
  (∀ i,i<=qQ p n dc->ld p (jH p i (kW p n a s)))/\(∀ i,i<qQ p n dc->(jH p i (kW p n a s)).over=gm)/\(jH p (qQ p n dc) (kW p n a s)).over=gj/\(∀ i,i<=qQ p n dc->(jH p i (kW p n a s)).b1=i)/\(∀ i,(jH p i (kW p n a s)).first≠fU->(kW p n a s).first≠fU):=by
 obtain⟨h1,h2,_⟩:=bVw hg h;refine⟨fun i _=>cQt hp b i (cQq hp hs hg d e f),h2,by rw[h1],fun i hi=>?_,fun i hf=>by rw[bVq]at hf;exact hf⟩;rw[bVv i (fun j hj=>h2 j (Ag hj hi)),cQr,Nat.zero_add]
def kt(C:jo)(x:jk)(s2:iM)(e2:Int)(dc wd:Nat)(l:List Nat)(w:Bb)(a:Ending)(w':Bb):Prop:=
 ∃ (v:Bc) (x':jk),a = fS v/\iB C x' w'/\MK C x x' w w'/\x'.s=s2/\x'.e=e2/\x'.a7=x.a7+dc/\x'.jt=max x.jt (x.ji+wd)/\x'.ji=x.ji/\x'.d=x.d/\(∃ A n c,v = fG A n c) /\
  (e2=0->w'.ownsRow w.heap.size 52 1 v l.length (hH l)/\ij l)
structure kU (x:jk) (n:Nat):Prop where
 a7:x.a7+n<=1000000000000
 a0:x.s.a0.length+9*n<=1000000000
 oa:x.ji<=x.jt
 wmx:x.jt<=1000000
 s6:x.ji<=4096*x.d
 dle:x.d<=16
structure lO (C:jo) (x0:jk) (r:gR) (R:jD) (wB:Bb) (vb rb:Nat) (p q t s:Bc) (k:Nat) (x1:jk) (V:List Nat) (R':jD) (wr:Bb):Prop where
 m:iB C x1 wr
 mq:MK C x0 x1 wB wr
 ev:Ev C.p C.lost x0.d r k V x1.s R'
 tc:x1.a7+R'.a7=x0.a7+R.a7
 ts:R'.s=R.s
 te:R'.e=R.e
 s7:R'.out=R.out
 tw:max x1.jt (x1.ji+R'.kO)=max x0.jt (x0.ji+R.kO)
 e0:x1.e=0
 d:x1.d=x0.d
 wc:x1.ji=x0.ji
 b:kU x1 R'.a7
 vk:gO wr vb 52 (hH V).toArray
 vl:V.length=r.M.toNat
 v64:ij V
 vo:¬js C x1 vb
 vlo:C.w0.heap.size<=vb
 rk:gO wr rb 89 #[p,q,fF fN r.M,t,s]
 ro:¬js C x1 rb
 ok:jh C.p.J x1.s
 k:k<r.K.length
theorem lO.pos{C:jo}{x0:jk}{r:gR}{R:jD}{t:Bc}{x1:jk}{R':jD}(h:lO C x0 r R wB vb rb p q t s k x1 V R' wr):1<=R'.a7:=by
 cases h.ev <;> simp <;> omega
theorem bKw{C:jo}{x0 x1 x2:jk}{r:gR}{R R':jD}{t v:Bc}(I:lO C x0 r R wB vb rb p q t s k x1 V R' wr)(M:iB C x2 w')(K:MK C x0 x2 wB w')(hs:R'.s=x2.s)(he:R'.e=x2.e)(hc:x2.a7=x1.a7+R'.a7)(a:x2.jt=max x1.jt (x1.ji+R'.kO))(b:x2.ji=x1.ji)(hd:x2.d=x1.d)
  (hv:∃ A n c,v = fG A n c) (f:R'.e=0->w'.ownsRow wB.heap.size 52 1 v R'.out.length (hH R'.out)/\ij R'.out):kt C x0 R.s R.e R.a7 R.kO R.out wB (fS v) w':=by
 refine⟨v,x2,rfl,M,K,hs.symm.trans I.ts,he.symm.trans I.te,?_,?_,b.trans I.wc,hd.trans I.d,hv,fun g=>?_⟩
 ·have:=I.tc;omega
 ·rw[a];exact I.tw
 ·have:=f (I.te.trans g)
  rwa[I.s7]at this
theorem cXi{C:jo}{x0 x1 x2:jk}{r:gR}{R R' R2:jD}{k2 dc wd:Nat}{t:Bc}{a:List Nat}(I:lO C x0 r R wB vb rb p q t s k x1 V R' wr)(M:iB C x2 w')(K:MK C x0 x2 wB w')(ev:Ev C.p C.lost x0.d r k2 a x2.s R2)(f:R'=⟨R2.out,R2.s,R2.e,1+dc+R2.a7,max wd R2.kO⟩)
  (hc:x2.a7=x1.a7+1+dc) (g:x2.jt=max x1.jt (x1.ji+wd)) (c:x2.ji=x1.ji) (hd:x2.d=x1.d) (he:x2.e=0) (hl:x2.s.a0.length<=x1.s.a0.length+9*(1+dc)) (h:x2.jt<=1000000) (i:gO w' vb 52 (hH a).toArray) (j:a.length=r.M.toNat) (l:ij a) (m:¬js C x2 vb) (n:gO w' rb 89 #[p,q,fF fN r.M,t,s]) (o:¬js C x2 rb) (u:jh C.p.J x2.s) (v:k2<r.K.length) :
  lO C x0 r R wB vb rb p q t s k2 x2 a R2 w':=by
 have t:=I.tc;have tb:=I.b;rw[f]at t tb;have t:x1.a7+(1+dc+R2.a7)=x0.a7+R.a7:=t;have tb:kU x1 (1+dc+R2.a7):=tb;have tw:=I.tw;rw[f]at tw;have tw:max x1.jt (x1.ji+max wd R2.kO)=max x0.jt (x0.ji+R.kO):=tw;have ts:=I.ts;have te:=I.te;have s7:=I.s7;rw[f]at ts te s7;refine⟨M,K,ev,fu,ts,te,s7,?_,he,hd.trans I.d,c.trans I.wc,⟨?_,?_,?_,h,?_,?_⟩,i,j,l,m,I.vlo,n,o,u,v⟩
 ·rw[g,c];omega
 ·have:=tb.a7;omega
 ·have:=tb.a0;omega
 ·have:=tb.oa;rw[g,c];omega
 ·have:=tb.s6;rw[c,hd];exact this
 ·have:=tb.dle;rw[hd];exact this
theorem oJ(t:Int)(n:Nat)(w:Bb):Be fZ 53 #[fF fN t,fF fO n] w fun e w'=>e = fS (fH (iK t n))/\w=w':=by
 by_cases h1:t=126
 ·have c:(t == 126)=gj:=(by simp[h1]);have a:=fQ (show iK t n=gj by simp[iK,h1]);clear h1;go_in;go_wp2;go_ret;rw[a.out];exact⟨rfl,rfl⟩
 ·have c:(t == 126)=gm:=(by simp[h1]);by_cases h2:t=127
  ·have d:(t == 127)=gj:=(by simp[h2]);by_cases b:n<4294967296
   ·have f:decide ((n:Int)<4294967296)=gj:=fw;have a:=fQ (show iK t n=gj by simp[iK,h2,b]);clear h1 h2;go_in;go_wp2;go_ret;rw[a.out];exact⟨rfl,rfl⟩
   ·have f:decide ((n:Int)<4294967296)=gm:=fw;have a:=fQ (show iK t n=gm by simp[iK,h2,b]);clear h1 h2;go_in;go_wp2;go_ret;rw[a.out];exact⟨rfl,rfl⟩
  ·have d:(t == 127)=gm:=(by simp[h2]);have a:=fQ (show iK t n=gm by simp[iK,h1,h2]);clear h1 h2;go_in;go_wp2;go_ret;rw[a.out];exact⟨rfl,rfl⟩
theorem oN(w:Bb):Be fZ 137 #[fF fN 127] w fun e w'=>e = fS (fF fN 32)/\w=w':=by
 go_in;go_wp2;go_ret;exact⟨rfl,rfl⟩
theorem oO(w:Bb):Be fZ 137 #[fF fN 126] w fun e w'=>e = fS (fF fN 64)/\w=w':=by
 go_in;go_wp2;go_ret;exact⟨rfl,rfl⟩
theorem aVa(b:Bool)(w:Bb):Be fZ 138 #[fH b] w fun e w'=>e = fS (fF fO (b01 b))/\w=w':=by
 cases b with
 | true=>
  go_in;go_wp2;go_ret;exact⟨rfl,rfl⟩
 | false=>
  go_in;go_wp2;go_ret;exact⟨rfl,rfl⟩
theorem mR(z:Int)(w:Bb):Be fZ 143 #[fF fO z,fF fN 64] w fun e w'=>e = fS (fF fO z)/\w=w':=by
 go_in;go_wp2;go_ret;exact⟨rfl,rfl⟩
theorem fXz{z:Int}(a:0<=z)(hz:z<18446744073709551616):bits .and fO z 4294967295=z % 4294967296:=by
 obtain⟨x,rfl⟩:=Int.eq_ofNat_of_zero_le a;rw[show(4294967295:Int)=((2 ^ 32 - 1:Nat):Int)from rfl,bits_and_u64_nat x (2 ^ 32 - 1) fu fy,Nat.and_two_pow_sub_one_eq_mod];simp
theorem mS(z:Int)(w:Bb)(a:0<=z)(b:z<18446744073709551616):Be fZ 143 #[fF fO z,fF fN 32] w fun e w'=>e = fS (fF fO (z % 4294967296))/\w=w':=by
 have c:=fQ (fXz a b);go_in;go_wp2;go_ret;rw[<-c.out];exact⟨rfl,rfl⟩
theorem fVz(z:Int):wrap64 (IntKind.u64.wrap (z*4294967296)) / 4294967296=wrap32 z:=by rw[Aj];unfold wrap64 wrap32;omega
theorem fWa(z:Int):wrap64 (IntKind.u64.wrap (z*281474976710656)) / 281474976710656=IntKind.i16.wrap z:=by
 have a:z*281474976710656 % 18446744073709551616=281474976710656*(z % 65536):=by
  rw[Int.mul_comm z 281474976710656,show(18446744073709551616:Int)=281474976710656*65536 from rfl,Int.mul_emod_mul_of_pos _ _ fy]
 rw[Aj,a];have b:0<=z % 65536:=Int.emod_nonneg _ fy;have h1:z % 65536<65536:=Int.emod_lt_of_pos _ fy;unfold wrap64;simp only[BX,show(2:Int) ^ IntKind.i16.bits=65536 from rfl,show(2:Int) ^ (IntKind.i16.bits - 1)=32768 from rfl];generalize z % 65536=r at b h1 ⊢
 split
 ·rename_i hs;have c:32768<=r:=(by simpa[Ah]using hs);omega
 ·rename_i hs;have c:r<32768:=(by simpa[Ah]using hs);omega
theorem sg8(z:Int):wrap64 (IntKind.u64.wrap (z*72057594037927936)) / 72057594037927936=IntKind.i8.wrap z:=by
 have a:z*72057594037927936 % 18446744073709551616=72057594037927936*(z % 256):=by
  rw[Int.mul_comm z 72057594037927936,show(18446744073709551616:Int)=72057594037927936*256 from rfl,Int.mul_emod_mul_of_pos _ _ fy]
 rw[Aj,a];have b:0<=z % 256:=Int.emod_nonneg _ fy;have h1:z % 256<256:=Int.emod_lt_of_pos _ fy;unfold wrap64;simp only[BX,show(2:Int) ^ IntKind.i8.bits=256 from rfl,show(2:Int) ^ (IntKind.i8.bits - 1)=128 from rfl];generalize z % 256=r at b h1 ⊢
 split
 ·rename_i hs;have c:128<=r:=(by simpa[Ah]using hs);omega
 ·rename_i hs;have c:r<128:=(by simpa[Ah]using hs);omega
theorem ry{k:IntKind}{a b:Int}(h:a=b):Ending.returned (fF k a) = fS (fF k b):=by rw[h]
theorem aWy(z:Int)(w:Bb)(h0:0<=z)(hz:z<18446744073709551616):Be fZ 144 #[fF fO z,fF fN 64] w fun e w'=>e = fS (fF fN (wrap64 z))/\w=w':=by
 go_in;go_wp2;go_ret;exact⟨rfl,rfl⟩
theorem rz(z:Int)(w:Bb)(h0:0<=z)(hz:z<18446744073709551616):Be fZ 144 #[fF fO z,fF fN 32] w fun e w'=>e = fS (fF fN (wrap32 z))/\w=w':=by
 go_in;go_wp2;go_ret;exact⟨ry (fVz z),rfl⟩
theorem cXv(z:Int)(w:Bb)(h0:0<=z)(hz:z<18446744073709551616):Be fZ 144 #[fF fO z,fF fN 16] w fun e w'=>e = fS (fF fN (IntKind.i16.wrap z))/\w=w':=by
 go_in;go_wp2;go_ret;exact⟨ry (fWa z),rfl⟩
theorem cKo(z:Int)(w:Bb)(h0:0<=z)(hz:z<18446744073709551616):Be fZ 144 #[fF fO z,fF fN 8] w fun e w'=>e = fS (fF fN (IntKind.i8.wrap z))/\w=w':=by
 go_in;go_wp2;go_ret;exact⟨ry (sg8 z),rfl⟩
theorem cXw{x y:Int}(hk:k<10)(c:gO w g 4 ((sY a b x y).map Value.bool).toArray):w.cell? ⟨g,k,fU⟩=gh (fH ((sY a b x y).getD k gm)):=by
 rw[c.cell k];simp only[List.getElem?_toArray,List.getElem?_map];rw[AJ (by simp[sY];omega),List.getD_eq_getElem?_getD,AJ (by simp[sY];omega)];rfl
theorem dWo(k a b:Nat)(w:Bb)(f:k<10)(ha:a<18446744073709551616)(hb:b<18446744073709551616):Be fZ 140 #[fF fN k,fF fO a,fF fO b,fF fN 64] w fun e w'=>e = fS (fF fO (b01 ((sY a b (wrap64 a) (wrap64 b)).getD k gm)))/\Bd w.heap.size w w':=by
 have hc:=fun(w:Bb)=>cXw (a:=a) (b:=b) (x:=wrap64 a) (y:=wrap64 b) f (gO.a4 w 4 _);have g:=fQ hc;have ad:(k:Int)<10:=fu;clear hc;go_in;go_wp2_with fail;refine gu (aWy (a:Int) _ fu fu) ?_;go_wp2_with fail;refine gu (aWy (b:Int) _ fu fu) ?_;obtain⟨r,d⟩:=fX ((sY a b (wrap64 a) (wrap64 b)).getD k gm);have c:=g.out w;rw[d]at c;have h:=fQ d;generalize i:wrap64 (a:Int)=x at c ⊢;generalize j:wrap64 (b:Int)=y at c ⊢;simp only[sY,BJ,BZ,BK]at c;clear i j g d;go_wp2_with fail;refine gu (aVa r _) ?_;go_wp2;go_ret;exact⟨ry (by rw[h.out]),(AW _ _).alloc (Ax _) _⟩
theorem dWp(k a b:Nat)(w:Bb)(f:k<10)(ha:a<18446744073709551616)(hb:b<18446744073709551616):Be fZ 140 #[fF fN k,fF fO a,fF fO b,fF fN 32] w fun e w'=>e = fS (fF fO (b01 ((sY a b (wrap32 a) (wrap32 b)).getD k gm)))/\Bd w.heap.size w w':=by
 have hc:=fun(w:Bb)=>cXw (a:=a) (b:=b) (x:=wrap32 a) (y:=wrap32 b) f (gO.a4 w 4 _);have g:=fQ hc;have ad:(k:Int)<10:=fu;clear hc;go_in;go_wp2_with fail;refine gu (rz (a:Int) _ fu fu) ?_;go_wp2_with fail;refine gu (rz (b:Int) _ fu fu) ?_;obtain⟨r,d⟩:=fX ((sY a b (wrap32 a) (wrap32 b)).getD k gm);have c:=g.out w;rw[d]at c;have h:=fQ d;generalize i:wrap32 (a:Int)=x at c ⊢;generalize j:wrap32 (b:Int)=y at c ⊢;simp only[sY,BJ,BZ,BK]at c;clear i j g d;go_wp2_with fail;refine gu (aVa r _) ?_;go_wp2;go_ret;exact⟨ry (by rw[h.out]),(AW _ _).alloc (Ax _) _⟩
theorem oP:wrap64 9223372036854775808 = -9223372036854775808:=by unfold wrap64;omega
theorem oR:wrap32 2147483648 = -2147483648:=by unfold wrap32;omega
theorem kQ(z x:Int)(w:Bb)(a:0<=z)(b:z<18446744073709551616)(c:wrap64 z=x):Be fZ 144 #[fF fO z,fF fN 64] w fun e w'=>e = fS (fF fN x)/\w=w':=by
 subst c;exact aWy z w a b
theorem kX(z x:Int)(w:Bb)(a:0<=z)(b:z<18446744073709551616)(c:wrap32 z=x):Be fZ 144 #[fF fO z,fF fN 32] w fun e w'=>e = fS (fF fN x)/\w=w':=by
 subst c;exact rz z w a b
theorem nZ(z:Int):IntKind.u64.wrap (wrap64 z) % 4294967296=z % 4294967296:=by rw[oW];omega
theorem nX(z:Int):IntKind.u64.wrap z % 4294967296=z % 4294967296:=by rw[Aj];omega
theorem nV(z:Int):0<=IntKind.u64.wrap z/\IntKind.u64.wrap z<18446744073709551616:=by rw[Aj];omega
theorem bJy(k a b:Nat)(w:Bb)(l:k=0\/k=1\/k=2\/k=3)(ha:a<18446744073709551616)(hb:b<18446744073709551616):Be fZ 163 #[fF fN k,fF fO a,fF fO b,fF fN 64] w fun e w'=>e = fS (fI #[fF fO (iX 18446744073709551616 (-9223372036854775808) k a b (wrap64 a) (wrap64 b)).1,fF fN (iX 18446744073709551616 (-9223372036854775808) k a b (wrap64 a) (wrap64 b)).2])/\w=w':=by
 have m : -9223372036854775808<=wrap64 (a:Int)/\wrap64 (a:Int)<=9223372036854775807:=(by unfold wrap64;omega);have n : -9223372036854775808<=wrap64 (b:Int)/\wrap64 (b:Int)<=9223372036854775807:=(by unfold wrap64;omega);have i:wrap64 (b:Int)=0->b=0:=(by unfold wrap64;omega);obtain⟨x,f⟩:=fX (wrap64 (a:Int));obtain⟨y,g⟩:=fX (wrap64 (b:Int));rw[f]at m;rw[g]at n i;rw[f,g];replace f:=fQ f;replace g:=fQ g;obtain⟨ag,ah⟩:=m;obtain⟨hy1,ai⟩:=n;by_cases c:b=0
 ·have o:((b:Int) == 0)=gj:=(by simp[c]);have d:=fQ (show iX 18446744073709551616 (-9223372036854775808) k a b x y=(0,33) by simp[iX,c]);clear c i l;go_in;go_wp2_with fail;refine gu (kQ (a:Int) x _ fu fu f.out) ?_;go_wp2_with fail;refine(kQ (b:Int) y _ fu fu g.out).mono ?_;rintro e w1 ⟨rfl,rfl⟩;go_wp2;go_ret2;rw[d.out];exact⟨rfl,rfl⟩
 have o:((b:Int) == 0)=gm:=fw;have af:¬y=0:=fun e=>c (i e);have an:0<b:=fu;by_cases h:y = -1
 ·have y1:(y == -1)=gj:=(by simp[h]);by_cases j:x = -9223372036854775808
  ·have x1:(x == -9223372036854775808)=gj:=(by simp[j]);rcases l with rfl|rfl|rfl|rfl
   ·have d:=fQ (show iX 18446744073709551616 (-9223372036854775808) ((0:Nat):Int) a b x y=(0,34)from by simp[iX,c,h,j]);clear c i h j;go_in;go_wp2_with fail;refine gu (kQ (a:Int) x _ fu fu f.out) ?_;go_wp2_with fail;refine gu (kQ (b:Int) y _ fu fu g.out) ?_;go_wp2_with fail;refine gu (kQ 9223372036854775808 (-9223372036854775808) _ fu fu oP) ?_;go_wp2;go_ret2;rw[d.out];exact⟨rfl,rfl⟩
   ·have d:=fQ (show iX 18446744073709551616 (-9223372036854775808) ((1:Nat):Int) a b x y=((a:Int) / b,0)from by unfold iX;rw[gy c,gy fy,gz (by rfl)]);clear c i h j;go_in;go_wp2_with fail;refine gu (kQ (a:Int) x _ fu fu f.out) ?_;go_wp2_with fail;refine gu (kQ (b:Int) y _ fu fu g.out) ?_;go_wp2_with fail;refine gu (kQ 9223372036854775808 (-9223372036854775808) _ fu fu oP) ?_;go_wp2;go_ret2;rw[d.out];exact⟨hJ (by first|rfl|(rw[Aj];exact wQ fu)),rfl⟩
   ·have d:=fQ (show iX 18446744073709551616 (-9223372036854775808) ((2:Nat):Int) a b x y=(0,0)from by unfold iX;rw[gy c,gy fy,gy fy,gz (by rfl),h,Int.tmod_neg,Int.tmod_one];rfl);clear c i h j;go_in;go_wp2_with fail;refine gu (kQ (a:Int) x _ fu fu f.out) ?_;go_wp2_with fail;refine gu (kQ (b:Int) y _ fu fu g.out) ?_;go_wp2_with fail;refine gu (kQ 9223372036854775808 (-9223372036854775808) _ fu fu oP) ?_;go_wp2;go_ret2;rw[d.out];exact⟨rfl,rfl⟩
   ·have d:=fQ (show iX 18446744073709551616 (-9223372036854775808) ((3:Nat):Int) a b x y=((a:Int) % b,0)from by unfold iX;rw[gy c,gy fy,gy fy,gy fy]);clear c i h j;go_in;go_wp2_with fail;refine gu (kQ (a:Int) x _ fu fu f.out) ?_;go_wp2_with fail;refine gu (kQ (b:Int) y _ fu fu g.out) ?_;go_wp2_with fail;refine gu (kQ 9223372036854775808 (-9223372036854775808) _ fu fu oP) ?_;go_wp2;go_ret2;rw[d.out];exact⟨hJ (by first|rfl|(rw[Aj];exact wJ fu)),rfl⟩
  ·have x1:(x == -9223372036854775808)=gm:=(by simp[j]);rcases l with rfl|rfl|rfl|rfl
   ·have d:=fQ (show iX 18446744073709551616 (-9223372036854775808) ((0:Nat):Int) a b x y=((x.tdiv y) % 18446744073709551616,0)from by unfold iX;rw[gy c,gz (by rfl),gy (by simp[j])]);clear c i h j;go_in;go_wp2_with fail;refine gu (kQ (a:Int) x _ fu fu f.out) ?_;go_wp2_with fail;refine gu (kQ (b:Int) y _ fu fu g.out) ?_;go_wp2_with fail;refine gu (kQ 9223372036854775808 (-9223372036854775808) _ fu fu oP) ?_;go_wp2_with fail;refine gu (mR _ _) ?_;go_wp2;go_ret2;rw[d.out];exact⟨hJ (by first|exact oW _|exact Aj _|exact nZ _|exact nX _),rfl⟩
   ·have d:=fQ (show iX 18446744073709551616 (-9223372036854775808) ((1:Nat):Int) a b x y=((a:Int) / b,0)from by unfold iX;rw[gy c,gy fy,gz (by rfl)]);clear c i h j;go_in;go_wp2_with fail;refine gu (kQ (a:Int) x _ fu fu f.out) ?_;go_wp2_with fail;refine gu (kQ (b:Int) y _ fu fu g.out) ?_;go_wp2_with fail;refine gu (kQ 9223372036854775808 (-9223372036854775808) _ fu fu oP) ?_;go_wp2;go_ret2;rw[d.out];exact⟨hJ (by first|rfl|(rw[Aj];exact wQ fu)),rfl⟩
   ·have d:=fQ (show iX 18446744073709551616 (-9223372036854775808) ((2:Nat):Int) a b x y=((x.tmod y) % 18446744073709551616,0)from by unfold iX;rw[gy c,gy fy,gy fy,gz (by rfl)]);clear c i h j;go_in;go_wp2_with fail;refine gu (kQ (a:Int) x _ fu fu f.out) ?_;go_wp2_with fail;refine gu (kQ (b:Int) y _ fu fu g.out) ?_;go_wp2_with fail;refine gu (kQ 9223372036854775808 (-9223372036854775808) _ fu fu oP) ?_;go_wp2_with fail;refine gu (mR _ _) ?_;go_wp2;go_ret2;rw[d.out];exact⟨hJ (by first|exact oW _|exact Aj _|exact nZ _|exact nX _),rfl⟩
   ·have d:=fQ (show iX 18446744073709551616 (-9223372036854775808) ((3:Nat):Int) a b x y=((a:Int) % b,0)from by unfold iX;rw[gy c,gy fy,gy fy,gy fy]);clear c i h j;go_in;go_wp2_with fail;refine gu (kQ (a:Int) x _ fu fu f.out) ?_;go_wp2_with fail;refine gu (kQ (b:Int) y _ fu fu g.out) ?_;go_wp2_with fail;refine gu (kQ 9223372036854775808 (-9223372036854775808) _ fu fu oP) ?_;go_wp2;go_ret2;rw[d.out];exact⟨hJ (by first|rfl|(rw[Aj];exact wJ fu)),rfl⟩
 ·have y1:(y == -1)=gm:=(by simp[h]);rcases l with rfl|rfl|rfl|rfl
  ·have d:=fQ (show iX 18446744073709551616 (-9223372036854775808) ((0:Nat):Int) a b x y=((x.tdiv y) % 18446744073709551616,0)from by unfold iX;rw[gy c,gz (by rfl),gy (by simp[h])]);clear c i h;go_in;go_wp2_with fail;refine gu (kQ (a:Int) x _ fu fu f.out) ?_;go_wp2_with fail;refine gu (kQ (b:Int) y _ fu fu g.out) ?_;go_wp2_with fail;refine gu (mR _ _) ?_;go_wp2;go_ret2;rw[d.out];exact⟨hJ (by first|exact oW _|exact Aj _|exact nZ _|exact nX _),rfl⟩
  ·have d:=fQ (show iX 18446744073709551616 (-9223372036854775808) ((1:Nat):Int) a b x y=((a:Int) / b,0)from by unfold iX;rw[gy c,gy fy,gz (by rfl)]);clear c i h;go_in;go_wp2_with fail;refine gu (kQ (a:Int) x _ fu fu f.out) ?_;go_wp2_with fail;refine gu (kQ (b:Int) y _ fu fu g.out) ?_;go_wp2;go_ret2;rw[d.out];exact⟨hJ (by first|rfl|(rw[Aj];exact wQ fu)),rfl⟩
  ·have d:=fQ (show iX 18446744073709551616 (-9223372036854775808) ((2:Nat):Int) a b x y=((x.tmod y) % 18446744073709551616,0)from by unfold iX;rw[gy c,gy fy,gy fy,gz (by rfl)]);clear c i h;go_in;go_wp2_with fail;refine gu (kQ (a:Int) x _ fu fu f.out) ?_;go_wp2_with fail;refine gu (kQ (b:Int) y _ fu fu g.out) ?_;go_wp2_with fail;refine gu (mR _ _) ?_;go_wp2;go_ret2;rw[d.out];exact⟨hJ (by first|exact oW _|exact Aj _|exact nZ _|exact nX _),rfl⟩
  ·have d:=fQ (show iX 18446744073709551616 (-9223372036854775808) ((3:Nat):Int) a b x y=((a:Int) % b,0)from by unfold iX;rw[gy c,gy fy,gy fy,gy fy]);clear c i h;go_in;go_wp2_with fail;refine gu (kQ (a:Int) x _ fu fu f.out) ?_;go_wp2_with fail;refine gu (kQ (b:Int) y _ fu fu g.out) ?_;go_wp2;go_ret2;rw[d.out];exact⟨hJ (by first|rfl|(rw[Aj];exact wJ fu)),rfl⟩
theorem bJz(k a b:Nat)(w:Bb)(l:k=0\/k=1\/k=2\/k=3)(ha:a<4294967296)(hb:b<4294967296):Be fZ 163 #[fF fN k,fF fO a,fF fO b,fF fN 32] w fun e w'=>e = fS (fI #[fF fO (iX 4294967296 (-2147483648) k a b (wrap32 a) (wrap32 b)).1,fF fN (iX 4294967296 (-2147483648) k a b (wrap32 a) (wrap32 b)).2])/\w=w':=by
 have m : -2147483648<=wrap32 (a:Int)/\wrap32 (a:Int)<=2147483647:=(by unfold wrap32;omega);have n : -2147483648<=wrap32 (b:Int)/\wrap32 (b:Int)<=2147483647:=(by unfold wrap32;omega);have i:wrap32 (b:Int)=0->b=0:=(by unfold wrap32;omega);obtain⟨x,f⟩:=fX (wrap32 (a:Int));obtain⟨y,g⟩:=fX (wrap32 (b:Int));rw[f]at m;rw[g]at n i;rw[f,g];replace f:=fQ f;replace g:=fQ g;obtain⟨ag,ah⟩:=m;obtain⟨hy1,ai⟩:=n;by_cases c:b=0
 ·have o:((b:Int) == 0)=gj:=(by simp[c]);have d:=fQ (show iX 4294967296 (-2147483648) k a b x y=(0,33) by simp[iX,c]);clear c i l;go_in;go_wp2_with fail;refine gu (kX (a:Int) x _ fu fu f.out) ?_;go_wp2_with fail;refine(kX (b:Int) y _ fu fu g.out).mono ?_;rintro e w1 ⟨rfl,rfl⟩;go_wp2;go_ret2;rw[d.out];exact⟨rfl,rfl⟩
 have o:((b:Int) == 0)=gm:=fw;have af:¬y=0:=fun e=>c (i e);have an:0<b:=fu;by_cases h:y = -1
 ·have y1:(y == -1)=gj:=(by simp[h]);by_cases j:x = -2147483648
  ·have x1:(x == -2147483648)=gj:=(by simp[j]);rcases l with rfl|rfl|rfl|rfl
   ·have d:=fQ (show iX 4294967296 (-2147483648) ((0:Nat):Int) a b x y=(0,34)from by simp[iX,c,h,j]);clear c i h j;go_in;go_wp2_with fail;refine gu (kX (a:Int) x _ fu fu f.out) ?_;go_wp2_with fail;refine gu (kX (b:Int) y _ fu fu g.out) ?_;go_wp2_with fail;refine gu (kX 2147483648 (-2147483648) _ fu fu oR) ?_;go_wp2;go_ret2;rw[d.out];exact⟨rfl,rfl⟩
   ·have d:=fQ (show iX 4294967296 (-2147483648) ((1:Nat):Int) a b x y=((a:Int) / b,0)from by unfold iX;rw[gy c,gy fy,gz (by rfl)]);clear c i h j;go_in;go_wp2_with fail;refine gu (kX (a:Int) x _ fu fu f.out) ?_;go_wp2_with fail;refine gu (kX (b:Int) y _ fu fu g.out) ?_;go_wp2_with fail;refine gu (kX 2147483648 (-2147483648) _ fu fu oR) ?_;go_wp2;go_ret2;rw[d.out];exact⟨hJ (by first|rfl|(rw[Aj];exact wQ fu)),rfl⟩
   ·have d:=fQ (show iX 4294967296 (-2147483648) ((2:Nat):Int) a b x y=(0,0)from by unfold iX;rw[gy c,gy fy,gy fy,gz (by rfl),h,Int.tmod_neg,Int.tmod_one];rfl);clear c i h j;go_in;go_wp2_with fail;refine gu (kX (a:Int) x _ fu fu f.out) ?_;go_wp2_with fail;refine gu (kX (b:Int) y _ fu fu g.out) ?_;go_wp2_with fail;refine gu (kX 2147483648 (-2147483648) _ fu fu oR) ?_;go_wp2;go_ret2;rw[d.out];exact⟨rfl,rfl⟩
   ·have d:=fQ (show iX 4294967296 (-2147483648) ((3:Nat):Int) a b x y=((a:Int) % b,0)from by unfold iX;rw[gy c,gy fy,gy fy,gy fy]);clear c i h j;go_in;go_wp2_with fail;refine gu (kX (a:Int) x _ fu fu f.out) ?_;go_wp2_with fail;refine gu (kX (b:Int) y _ fu fu g.out) ?_;go_wp2_with fail;refine gu (kX 2147483648 (-2147483648) _ fu fu oR) ?_;go_wp2;go_ret2;rw[d.out];exact⟨hJ (by first|rfl|(rw[Aj];exact wJ fu)),rfl⟩
  ·have x1:(x == -2147483648)=gm:=(by simp[j]);rcases l with rfl|rfl|rfl|rfl
   ·have d:=fQ (show iX 4294967296 (-2147483648) ((0:Nat):Int) a b x y=((x.tdiv y) % 4294967296,0)from by unfold iX;rw[gy c,gz (by rfl),gy (by simp[j])]);clear c i h j;go_in;go_wp2_with fail;refine gu (kX (a:Int) x _ fu fu f.out) ?_;go_wp2_with fail;refine gu (kX (b:Int) y _ fu fu g.out) ?_;go_wp2_with fail;refine gu (kX 2147483648 (-2147483648) _ fu fu oR) ?_;go_wp2_with fail;refine gu (mS _ _ (nV _).1 (nV _).2) ?_;go_wp2;go_ret2;rw[d.out];exact⟨hJ (by first|exact oW _|exact Aj _|exact nZ _|exact nX _),rfl⟩
   ·have d:=fQ (show iX 4294967296 (-2147483648) ((1:Nat):Int) a b x y=((a:Int) / b,0)from by unfold iX;rw[gy c,gy fy,gz (by rfl)]);clear c i h j;go_in;go_wp2_with fail;refine gu (kX (a:Int) x _ fu fu f.out) ?_;go_wp2_with fail;refine gu (kX (b:Int) y _ fu fu g.out) ?_;go_wp2_with fail;refine gu (kX 2147483648 (-2147483648) _ fu fu oR) ?_;go_wp2;go_ret2;rw[d.out];exact⟨hJ (by first|rfl|(rw[Aj];exact wQ fu)),rfl⟩
   ·have d:=fQ (show iX 4294967296 (-2147483648) ((2:Nat):Int) a b x y=((x.tmod y) % 4294967296,0)from by unfold iX;rw[gy c,gy fy,gy fy,gz (by rfl)]);clear c i h j;go_in;go_wp2_with fail;refine gu (kX (a:Int) x _ fu fu f.out) ?_;go_wp2_with fail;refine gu (kX (b:Int) y _ fu fu g.out) ?_;go_wp2_with fail;refine gu (kX 2147483648 (-2147483648) _ fu fu oR) ?_;go_wp2_with fail;refine gu (mS _ _ (nV _).1 (nV _).2) ?_;go_wp2;go_ret2;rw[d.out];exact⟨hJ (by first|exact oW _|exact Aj _|exact nZ _|exact nX _),rfl⟩
   ·have d:=fQ (show iX 4294967296 (-2147483648) ((3:Nat):Int) a b x y=((a:Int) % b,0)from by unfold iX;rw[gy c,gy fy,gy fy,gy fy]);clear c i h j;go_in;go_wp2_with fail;refine gu (kX (a:Int) x _ fu fu f.out) ?_;go_wp2_with fail;refine gu (kX (b:Int) y _ fu fu g.out) ?_;go_wp2_with fail;refine gu (kX 2147483648 (-2147483648) _ fu fu oR) ?_;go_wp2;go_ret2;rw[d.out];exact⟨hJ (by first|rfl|(rw[Aj];exact wJ fu)),rfl⟩
 ·have y1:(y == -1)=gm:=(by simp[h]);rcases l with rfl|rfl|rfl|rfl
  ·have d:=fQ (show iX 4294967296 (-2147483648) ((0:Nat):Int) a b x y=((x.tdiv y) % 4294967296,0)from by unfold iX;rw[gy c,gz (by rfl),gy (by simp[h])]);clear c i h;go_in;go_wp2_with fail;refine gu (kX (a:Int) x _ fu fu f.out) ?_;go_wp2_with fail;refine gu (kX (b:Int) y _ fu fu g.out) ?_;go_wp2_with fail;refine gu (mS _ _ (nV _).1 (nV _).2) ?_;go_wp2;go_ret2;rw[d.out];exact⟨hJ (by first|exact oW _|exact Aj _|exact nZ _|exact nX _),rfl⟩
  ·have d:=fQ (show iX 4294967296 (-2147483648) ((1:Nat):Int) a b x y=((a:Int) / b,0)from by unfold iX;rw[gy c,gy fy,gz (by rfl)]);clear c i h;go_in;go_wp2_with fail;refine gu (kX (a:Int) x _ fu fu f.out) ?_;go_wp2_with fail;refine gu (kX (b:Int) y _ fu fu g.out) ?_;go_wp2;go_ret2;rw[d.out];exact⟨hJ (by first|rfl|(rw[Aj];exact wQ fu)),rfl⟩
  ·have d:=fQ (show iX 4294967296 (-2147483648) ((2:Nat):Int) a b x y=((x.tmod y) % 4294967296,0)from by unfold iX;rw[gy c,gy fy,gy fy,gz (by rfl)]);clear c i h;go_in;go_wp2_with fail;refine gu (kX (a:Int) x _ fu fu f.out) ?_;go_wp2_with fail;refine gu (kX (b:Int) y _ fu fu g.out) ?_;go_wp2_with fail;refine gu (mS _ _ (nV _).1 (nV _).2) ?_;go_wp2;go_ret2;rw[d.out];exact⟨hJ (by first|exact oW _|exact Aj _|exact nZ _|exact nX _),rfl⟩
  ·have d:=fQ (show iX 4294967296 (-2147483648) ((3:Nat):Int) a b x y=((a:Int) % b,0)from by unfold iX;rw[gy c,gy fy,gy fy,gy fy]);clear c i h;go_in;go_wp2_with fail;refine gu (kX (a:Int) x _ fu fu f.out) ?_;go_wp2_with fail;refine gu (kX (b:Int) y _ fu fu g.out) ?_;go_wp2;go_ret2;rw[d.out];exact⟨hJ (by first|rfl|(rw[Aj];exact wJ fu)),rfl⟩
section
open Go.Lib
def kS(W a n:Nat):Nat:=a % 2 ^ (W - n)*2 ^ n+a / 2 ^ (W - n)
theorem bQm(hn:n<=W):2 ^ W=2 ^ (W - n)*2 ^ n:=by rw[<-BW];congr 1;omega
theorem cZe(hn:n<=W)(ha:a<2 ^ W):a / 2 ^ (W - n)<2 ^ n:=by
 rw[Nat.div_lt_iff_lt_mul (By _),Bz,<-bQm hn];exact ha
theorem bKf(hn:n<=W)(ha:a<2 ^ W):(a*2 ^ n % 2 ^ W) ||| (a / 2 ^ (W - n))=kS W a n:=by
 have h1:a*2 ^ n % 2 ^ W=a % 2 ^ (W - n)*2 ^ n:=(by rw[bQm hn];exact Nat.mul_mod_mul_right ..);rw[h1,kS,Bz (a % 2 ^ (W - n)),Af (cZe hn ha)]
theorem dYk(hn:n<=W)(ha:a<2 ^ W):(a / 2 ^ n) ||| (a*2 ^ (W - n) % 2 ^ W)=kS W a (W - n):=by
 have:=bKf (W:=W) (a:=a) (n:=W - n) fu ha;rw[show W - (W - n)=n from by omega]at this;rw[Nat.or_comm];exact this
theorem dYl(hn:n<=W)(ha:a<2 ^ W):kS W a n<2 ^ W:=by
 have h1:=cZe hn ha;have h2:a % 2 ^ (W - n)<2 ^ (W - n):=Ac _ (By _);have b:(a % 2 ^ (W - n)+1)*2 ^ n<=2 ^ (W - n)*2 ^ n:=Bq _ h2;rw[Bx,Nat.one_mul,<-bQm hn]at b;unfold kS;omega
theorem cZf(ha:a<2 ^ W):kS W a 0=a:=by simp[kS,AZ ha,Bv ha]
end
theorem cXx(hn:n+1<=W)(ha:a<2 ^ W):kS W (kS W a n) 1=kS W a (n+1):=by
 have d:2 ^ (W - n)=2 ^ (W - (n+1))*2:=(by rw[<-BV];congr 1;omega);have e2:2 ^ (W - 1)=2 ^ (W - (n+1))*2 ^ n:=(by rw[<-BW];congr 1;omega);have b:=cZe (n:=n) fu ha;have c:0<2 ^ (W - (n+1)):=BY fy;have e:0<2 ^ n:=BY fy;unfold kS;rw[e2,d,show 2 ^ (n+1)=2 ^ n*2 from BV ..];rw[d]at b;generalize 2 ^ (W - (n+1))=P at c b ⊢;generalize 2 ^ n=Q at e b ⊢;rw[show a % (P*2)=a % P+P*(a / P % 2)from Nat.mod_mul,show a / (P*2)=a / P / 2 from(Bj ..).symm];rw[<-Bj]at b;have f:a % P<P:=Ac _ c;generalize a % P=h at f ⊢;generalize a / P=t at b ⊢
 have g:h*Q+t / 2<P*Q:=by
  have:(h+1)*Q<=P*Q:=Bq _ f;rw[Bx]at this;omega
 have i:(h+P*(t % 2))*Q+t / 2=(P*Q)*(t % 2)+(h*Q+t / 2):=by
  rw[Bx,Nat.mul_right_comm P (t % 2) Q];omega
 rw[i,Nat.mul_add_mod,AZ g,Nat.mul_add_div (Nat.mul_pos c e),Bv g];rw[Ba,<-Nat.mul_assoc,Bx];omega
theorem eYg(c:Nat)(hc:c<2):x*2 ||| c=x*2+c:=by
 have:=Af (i:=1) (b:=c) fu x;rw[Ba]at this;rw[Bz x 2,this]
theorem fZa(hx:x<18446744073709551616):bits .or fO (IntKind.u64.wrap ((x:Int)*2)) ((x:Int) / 9223372036854775808)=((kS 64 x 1:Nat):Int):=by
 rw[Aj,show((x:Int)*2) % 18446744073709551616=((x*2 % 2 ^ 64:Nat):Int) by omega,show(x:Int) / 9223372036854775808=((x / 2 ^ (64 - 1):Nat):Int) by omega];rw[bits_or_u64_nat _ _ fu fu,<-bKf (W:=64) fy fu]
theorem fZb(hx:x<4294967296):bits .or fO ((x:Int)*2) ((x:Int) / 2147483648) % 4294967296=((kS 32 x 1:Nat):Int):=by
 rw[show((x:Int)*2)=((x*2:Nat):Int) by omega,show(x:Int) / 2147483648=((x / 2147483648:Nat):Int) by omega];rw[bits_or_u64_nat _ _ fu fu,eYg _ fu];unfold kS;omega
def eKq(W a n:Nat)(av i:Bc):Prop:=∃ k:Nat,k<=n/\i = fF fN k/\av = fF fO ((kS W a k:Nat):Int)
theorem cXy(a n:Nat)(w:Bb)(hn:n<=64)(ha:a<18446744073709551616):Be fZ 162 #[fF fO a,fF fN n,fF fN 64] w fun e w'=>e = fS (fF fO ((kS 64 a n:Nat):Int))/\w=w':=by
 have b:=fQ (show a<2 ^ 64 from ha);go_in;go_wp2_with fail;go_loop [0,7] (fun av i=>eKq 64 a n av i) (fun _ i=>n+1 - (intOf i).toNat)
 case atStart=>exact⟨0,fu,rfl,by rw[cZf b.out]⟩
 case round=>
  obtain⟨k,hk,rfl,rfl⟩:=hrel;by_cases f:k<n
  ·have c:=dYl (W:=64) (n:=k) fu b.out;have d:=fQ (cXx (n:=k) (W:=64) fu b.out);generalize kS 64 a k=x at c d ⊢;go_wp2_with fail;refine gu (mR _ _) ?_;go_wp2;refine⟨⟨k+1,fu,fz,?_⟩,fB⟩;rw[<-d.out,<-fZa c]
  ·obtain rfl:k=n:=fu;go_wp2;go_ret;exact⟨rfl,rfl⟩
theorem cXz(a n:Nat)(w:Bb)(hn:n<=32)(ha:a<4294967296):Be fZ 162 #[fF fO a,fF fN n,fF fN 32] w fun e w'=>e = fS (fF fO ((kS 32 a n:Nat):Int))/\w=w':=by
 have b:=fQ (show a<2 ^ 32 from ha);go_in;go_wp2_with fail;go_loop [0,7] (fun av i=>eKq 32 a n av i) (fun _ i=>n+1 - (intOf i).toNat)
 case atStart=>exact⟨0,fu,rfl,by rw[cZf b.out]⟩
 case round=>
  obtain⟨k,hk,rfl,rfl⟩:=hrel;by_cases f:k<n
  ·have c:=dYl (W:=32) (n:=k) fu b.out;have d:=fQ (cXx (n:=k) (W:=32) fu b.out);generalize kS 32 a k=x at c d ⊢;go_wp2_with fail;refine(mS _ _ ?_ ?_).mono ?_
   ·exact(aKq _ _ _).1
   ·exact(aKq _ _ _).2
   rintro e w1 ⟨rfl,rfl⟩;go_wp2;refine⟨⟨k+1,fu,fz,?_⟩,fB⟩;rw[<-d.out,<-fZb c]
  ·obtain rfl:k=n:=fu;go_wp2;go_ret;exact⟨rfl,rfl⟩
end Go.Proofs.YtabibkpfgmolkaaGreatDoor
namespace Go.Proofs.YtabibkpfgmolkaaGreatDoor
variable {a b n k W g base vb rb x:Nat}{w wr wB w':Bb}{v x0 x1 x2 x3 x4 x5 p q s:Bc}{l V:List Nat}{t e:TypeId}
theorem fJm(ha:a<18446744073709551616)(c:b<18446744073709551616):bits .or fO (a:Int) (b:Int)=((a ||| b:Nat):Int):=bits_or_u64_nat a b ha c
theorem fKo{b:Nat}(n:Nat)(hn:n<=64)(ha:a<18446744073709551616):bits .or fO (IntKind.u64.wrap ((a:Int)*2 ^ n)) ((a:Int) / 2 ^ (64 - n))=((kS 64 a n:Nat):Int):=by
 have c:IntKind.u64.wrap ((a:Int)*2 ^ n)=((a*2 ^ n % 2 ^ 64:Nat):Int):=(by rw[Aj];simp);have e2:(a:Int) / 2 ^ (64 - n)=((a / 2 ^ (64 - n):Nat):Int):=fz;rw[c,e2,fJm (Ac _ fy) (AY (Ad _ _) ha),bKf hn ha]
theorem fKp{b:Nat}(n:Nat)(hn:n<=64)(ha:a<18446744073709551616):bits .or fO ((a:Int) / 2 ^ n) (IntKind.u64.wrap ((a:Int)*2 ^ (64 - n)))=((kS 64 a (64 - n):Nat):Int):=by
 have c:IntKind.u64.wrap ((a:Int)*2 ^ (64 - n))=((a*2 ^ (64 - n) % 2 ^ 64:Nat):Int):=(by rw[Aj];simp);have e2:(a:Int) / 2 ^ n=((a / 2 ^ n:Nat):Int):=fz;rw[c,e2,fJm (AY (Ad _ _) ha) (Ac _ fy),dYk hn ha]
theorem fZc(ha:a<4294967296)(c:b<4294967296):bits .and fP (a:Int) (b:Int)=bits .and fO (a:Int) (b:Int):=by
 rw[bits_and_u32_nat a b ha c,bits_and_u64_nat a b fu fu]
theorem cYi(ha:a<4294967296)(hb:b<4294967296):bits .or fP (a:Int) (b:Int)=((a ||| b:Nat):Int):=by
 have hx:a ||| b<2 ^ 32:=Nat.or_lt_two_pow fu fu
 have h1:(BitVec.ofInt 32 (a:Int)).toNat=a:=by
  rw[BitVec.ofInt_natCast,BitVec.toNat_ofNat];exact AZ fu
 have h2:(BitVec.ofInt 32 (b:Int)).toNat=b:=by
  rw[BitVec.ofInt_natCast,BitVec.toNat_ofNat];exact AZ fu
 show IntKind.u32.wrap ((BitVec.ofInt 32 (a:Int) ||| BitVec.ofInt 32 (b:Int)).toNat:Int)=_;rw[BitVec.toNat_or,h1,h2,Ay];omega
theorem fZd(ha:a<4294967296)(hb:b<4294967296):bits .xor fP (a:Int) (b:Int)=((a ^^^ b:Nat):Int):=by
 have hx:a ^^^ b<2 ^ 32:=Nat.xor_lt_two_pow fu fu
 have h1:(BitVec.ofInt 32 (a:Int)).toNat=a:=by
  rw[BitVec.ofInt_natCast,BitVec.toNat_ofNat];exact AZ fu
 have h2:(BitVec.ofInt 32 (b:Int)).toNat=b:=by
  rw[BitVec.ofInt_natCast,BitVec.toNat_ofNat];exact AZ fu
 show IntKind.u32.wrap ((BitVec.ofInt 32 (a:Int) ^^^ BitVec.ofInt 32 (b:Int)).toNat:Int)=_;rw[BitVec.toNat_xor,h1,h2,Ay];omega
theorem fZe(n:Nat)(hn:n<=32)(ha:a<4294967296):bits .or fP (IntKind.u32.wrap ((a:Int)*2 ^ n)) ((a:Int) / 2 ^ (32 - n))=((kS 32 a n:Nat):Int):=by
 have b:IntKind.u32.wrap ((a:Int)*2 ^ n)=((a*2 ^ n % 2 ^ 32:Nat):Int):=(by rw[Ay];simp);have e2:(a:Int) / 2 ^ (32 - n)=((a / 2 ^ (32 - n):Nat):Int):=fz;rw[b,e2,cYi (Ac _ fy) (AY (Ad _ _) ha),bKf hn ha]
theorem fZf(n:Nat)(hn:n<=32)(ha:a<4294967296):bits .or fP ((a:Int) / 2 ^ n) (IntKind.u32.wrap ((a:Int)*2 ^ (32 - n)))=((kS 32 a (32 - n):Nat):Int):=by
 have b:IntKind.u32.wrap ((a:Int)*2 ^ (32 - n))=((a*2 ^ (32 - n) % 2 ^ 32:Nat):Int):=(by rw[Ay];simp);have e2:(a:Int) / 2 ^ n=((a / 2 ^ n:Nat):Int):=fz;rw[b,e2,cYi (AY (Ad _ _) ha) (Ac _ fy),dYk hn ha]
theorem dWq(k:IntKind)(W a b n:Nat)(x:Int):(oX k W a b n x).getD 11 0=k.wrap (x / 2 ^ n):=by simp[oX]
def jQ(W d:Int)(k:Int)(a b:Nat)(w:Bb)(e:Ending)(w':Bb):Prop:=e = fS (fI #[fF fO (gY 3 d k a b).1,fF fN (gY 3 d k a b).2])/\w=w'
theorem fZg{a b:Nat}(ha:a<18446744073709551616)(hb:b<18446744073709551616):gY 3 126 0 a b=(IntKind.u64.wrap (a+b),0):=by
 have e:gY 3 126 0 a b=((oX fO 64 a b (b % 64) (wrap64 a)).getD 0 0,0):=(by simp[gY]);rw[e];rfl
theorem fZh(w:Bb)(ha:a<18446744073709551616)(d:b<18446744073709551616):Be fZ 142 #[fF fN 0,fF fO a,fF fO b,fF fN 64] w (jQ 64 126 0 a b w):=by
 have c:=fQ (@fZg a b ha d);unfold jQ;rw[c.out];obtain⟨n,hn⟩:=fX (b % 64);have aa:n<64:=fu;have ad:(b:Int) % 64=(n:Int):=fu;clear hn c;go_in;go_wp2_with fail;refine gu (mR _ _) ?_;go_wp2;go_ret2;exact⟨hJ (by first|rfl|exact nX _|exact nZ _|exact(Aj _)),rfl⟩
theorem fZi{a b:Nat}(ha:a<18446744073709551616)(hb:b<18446744073709551616):gY 3 126 1 a b=(IntKind.u64.wrap (a - b),0):=by
 have e:gY 3 126 1 a b=((oX fO 64 a b (b % 64) (wrap64 a)).getD 1 0,0):=(by simp[gY]);rw[e];rfl
theorem fZj(w:Bb)(ha:a<18446744073709551616)(d:b<18446744073709551616):Be fZ 142 #[fF fN 1,fF fO a,fF fO b,fF fN 64] w (jQ 64 126 1 a b w):=by
 have c:=fQ (@fZi a b ha d);unfold jQ;rw[c.out];obtain⟨n,hn⟩:=fX (b % 64);have aa:n<64:=fu;have ad:(b:Int) % 64=(n:Int):=fu;clear hn c;go_in;go_wp2_with fail;refine gu (mR _ _) ?_;go_wp2;go_ret2;exact⟨hJ (by first|rfl|exact nX _|exact nZ _|exact(Aj _)),rfl⟩
theorem fZk{a b:Nat}(ha:a<18446744073709551616)(hb:b<18446744073709551616):gY 3 126 2 a b=(IntKind.u64.wrap (a*b),0):=by
 have e:gY 3 126 2 a b=((oX fO 64 a b (b % 64) (wrap64 a)).getD 2 0,0):=(by simp[gY]);rw[e];rfl
theorem fZl(w:Bb)(ha:a<18446744073709551616)(d:b<18446744073709551616):Be fZ 142 #[fF fN 2,fF fO a,fF fO b,fF fN 64] w (jQ 64 126 2 a b w):=by
 have c:=fQ (@fZk a b ha d);unfold jQ;rw[c.out];obtain⟨n,hn⟩:=fX (b % 64);have aa:n<64:=fu;have ad:(b:Int) % 64=(n:Int):=fu;clear hn c;go_in;go_wp2_with fail;refine gu (mR _ _) ?_;go_wp2;go_ret2;exact⟨hJ (by first|rfl|exact nX _|exact nZ _|exact(Aj _)),rfl⟩
theorem fZm(w:Bb)(ha:a<18446744073709551616)(d:b<18446744073709551616):Be fZ 142 #[fF fN 3,fF fO a,fF fO b,fF fN 64] w (jQ 64 126 3 a b w):=by
 have c:=fQ (show gY 3 126 3 a b=iX 18446744073709551616 (-9223372036854775808) ((0:Nat):Int) a b (wrap64 a) (wrap64 b) by simp[gY]);unfold jQ;rw[c.out];obtain⟨n,hn⟩:=fX (b % 64);have aa:n<64:=fu;have ad:(b:Int) % 64=(n:Int):=fu;clear hn c;go_in;go_wp2_with fail;refine gu (bJy 0 a b _ fu ha d) ?_;go_wp2;go_ret2;exact⟨rfl,rfl⟩
theorem fZn(w:Bb)(ha:a<18446744073709551616)(d:b<18446744073709551616):Be fZ 142 #[fF fN 4,fF fO a,fF fO b,fF fN 64] w (jQ 64 126 4 a b w):=by
 have c:=fQ (show gY 3 126 4 a b=iX 18446744073709551616 (-9223372036854775808) ((1:Nat):Int) a b (wrap64 a) (wrap64 b) by simp[gY]);unfold jQ;rw[c.out];obtain⟨n,hn⟩:=fX (b % 64);have aa:n<64:=fu;have ad:(b:Int) % 64=(n:Int):=fu;clear hn c;go_in;go_wp2_with fail;refine gu (bJy 1 a b _ fu ha d) ?_;go_wp2;go_ret2;exact⟨rfl,rfl⟩
theorem fZo(w:Bb)(ha:a<18446744073709551616)(d:b<18446744073709551616):Be fZ 142 #[fF fN 5,fF fO a,fF fO b,fF fN 64] w (jQ 64 126 5 a b w):=by
 have c:=fQ (show gY 3 126 5 a b=iX 18446744073709551616 (-9223372036854775808) ((2:Nat):Int) a b (wrap64 a) (wrap64 b) by simp[gY]);unfold jQ;rw[c.out];obtain⟨n,hn⟩:=fX (b % 64);have aa:n<64:=fu;have ad:(b:Int) % 64=(n:Int):=fu;clear hn c;go_in;go_wp2_with fail;refine gu (bJy 2 a b _ fu ha d) ?_;go_wp2;go_ret2;exact⟨rfl,rfl⟩
theorem fZp(w:Bb)(ha:a<18446744073709551616)(d:b<18446744073709551616):Be fZ 142 #[fF fN 6,fF fO a,fF fO b,fF fN 64] w (jQ 64 126 6 a b w):=by
 have c:=fQ (show gY 3 126 6 a b=iX 18446744073709551616 (-9223372036854775808) ((3:Nat):Int) a b (wrap64 a) (wrap64 b) by simp[gY]);unfold jQ;rw[c.out];obtain⟨n,hn⟩:=fX (b % 64);have aa:n<64:=fu;have ad:(b:Int) % 64=(n:Int):=fu;clear hn c;go_in;go_wp2_with fail;refine gu (bJy 3 a b _ fu ha d) ?_;go_wp2;go_ret2;exact⟨rfl,rfl⟩
theorem fZq{a b:Nat}(ha:a<18446744073709551616)(hb:b<18446744073709551616):gY 3 126 7 a b=(bits .and fO a b,0):=by
 have e:gY 3 126 7 a b=((oX fO 64 a b (b % 64) (wrap64 a)).getD 7 0,0):=(by simp[gY]);rw[e];rfl
theorem fZr(w:Bb)(ha:a<18446744073709551616)(d:b<18446744073709551616):Be fZ 142 #[fF fN 7,fF fO a,fF fO b,fF fN 64] w (jQ 64 126 7 a b w):=by
 have c:=fQ (@fZq a b ha d);unfold jQ;rw[c.out];obtain⟨n,hn⟩:=fX (b % 64);have aa:n<64:=fu;have ad:(b:Int) % 64=(n:Int):=fu;clear hn c;go_in;go_wp2;go_ret2;exact⟨hJ (by first|rfl|exact nX _|exact nZ _|exact(Aj _)),rfl⟩
theorem fZs{a b:Nat}(ha:a<18446744073709551616)(hb:b<18446744073709551616):gY 3 126 8 a b=(bits .or fO a b,0):=by
 have e:gY 3 126 8 a b=((oX fO 64 a b (b % 64) (wrap64 a)).getD 8 0,0):=(by simp[gY]);rw[e];rfl
theorem fZt(w:Bb)(ha:a<18446744073709551616)(d:b<18446744073709551616):Be fZ 142 #[fF fN 8,fF fO a,fF fO b,fF fN 64] w (jQ 64 126 8 a b w):=by
 have c:=fQ (@fZs a b ha d);unfold jQ;rw[c.out];obtain⟨n,hn⟩:=fX (b % 64);have aa:n<64:=fu;have ad:(b:Int) % 64=(n:Int):=fu;clear hn c;go_in;go_wp2;go_ret2;exact⟨hJ (by first|rfl|exact nX _|exact nZ _|exact(Aj _)),rfl⟩
theorem fZu{a b:Nat}(ha:a<18446744073709551616)(hb:b<18446744073709551616):gY 3 126 9 a b=(bits .xor fO a b,0):=by
 have e:gY 3 126 9 a b=((oX fO 64 a b (b % 64) (wrap64 a)).getD 9 0,0):=(by simp[gY]);rw[e];rfl
theorem fZv(w:Bb)(ha:a<18446744073709551616)(d:b<18446744073709551616):Be fZ 142 #[fF fN 9,fF fO a,fF fO b,fF fN 64] w (jQ 64 126 9 a b w):=by
 have c:=fQ (@fZu a b ha d);unfold jQ;rw[c.out];obtain⟨n,hn⟩:=fX (b % 64);have aa:n<64:=fu;have ad:(b:Int) % 64=(n:Int):=fu;clear hn c;go_in;go_wp2;go_ret2;exact⟨hJ (by first|rfl|exact nX _|exact nZ _|exact(Aj _)),rfl⟩
theorem eYh{a b:Nat}(ha:a<18446744073709551616)(hb:b<18446744073709551616):gY 3 126 10 a b=(IntKind.u64.wrap (a*2 ^ (b % 64)),0):=by
 have e:gY 3 126 10 a b=((oX fO 64 a b (b % 64) (wrap64 a)).getD 10 0,0):=(by simp[gY]);rw[e];rfl
theorem eYi(w:Bb)(ha:a<18446744073709551616)(d:b<18446744073709551616):Be fZ 142 #[fF fN 10,fF fO a,fF fO b,fF fN 64] w (jQ 64 126 10 a b w):=by
 have c:=fQ (@eYh a b ha d);unfold jQ;rw[c.out];obtain⟨n,hn⟩:=fX (b % 64);have aa:n<64:=fu;have ad:(b:Int) % 64=(n:Int):=fu;rw[hn];clear hn c;go_in;go_wp2_with fail;refine gu (mR _ _) ?_;go_wp2;go_ret2;exact⟨hJ (by first|rfl|exact nX _|exact nZ _|exact(Aj _)),rfl⟩
theorem eYj{a b:Nat}(ha:a<18446744073709551616)(hb:b<18446744073709551616):gY 3 126 11 a b=(IntKind.u64.wrap (wrap64 a / 2 ^ (b % 64)),0):=by
 have e:gY 3 126 11 a b=((oX fO 64 a b (b % 64) (wrap64 a)).getD 11 0,0):=by
  simp only[gY];rw[gz trivial,gy fy,gy fy];rfl
 rw[e,dWq]
theorem eYk(w:Bb)(ha:a<18446744073709551616)(d:b<18446744073709551616):Be fZ 142 #[fF fN 11,fF fO a,fF fO b,fF fN 64] w (jQ 64 126 11 a b w):=by
 have c:=fQ (@eYj a b ha d);unfold jQ;rw[c.out];obtain⟨n,hn⟩:=fX (b % 64);have aa:n<64:=fu;have ad:(b:Int) % 64=(n:Int):=fu;rw[hn];clear hn c;go_in;go_wp2_with fail;refine gu (aWy (a:Int) _ fu fu) ?_;go_wp2_with fail;refine gu (mR _ _) ?_;go_wp2;go_ret2;exact⟨hJ (by first|rfl|exact nX _|exact nZ _|exact(Aj _)),rfl⟩
theorem eYl{a b:Nat}(ha:a<18446744073709551616)(hb:b<18446744073709551616):gY 3 126 12 a b=((a:Int) / 2 ^ (b % 64),0):=by
 have e:gY 3 126 12 a b=((oX fO 64 a b (b % 64) (wrap64 a)).getD 12 0,0):=(by simp[gY]);rw[e];rfl
theorem eYm(w:Bb)(ha:a<18446744073709551616)(d:b<18446744073709551616):Be fZ 142 #[fF fN 12,fF fO a,fF fO b,fF fN 64] w (jQ 64 126 12 a b w):=by
 have c:=fQ (@eYl a b ha d);unfold jQ;rw[c.out];obtain⟨n,hn⟩:=fX (b % 64);have aa:n<64:=fu;have ad:(b:Int) % 64=(n:Int):=fu;rw[hn];clear hn c;go_in;go_wp2;go_ret2;exact⟨hJ (by first|rfl|exact nX _|exact nZ _|exact(Aj _)),rfl⟩
theorem eYn{a b:Nat}(ha:a<18446744073709551616)(hb:b<18446744073709551616):gY 3 126 13 a b=(((kS 64 a (b % 64):Nat):Int),0):=by
 have e:gY 3 126 13 a b=((oX fO 64 a b (b % 64) (wrap64 a)).getD 13 0,0):=(by simp[gY]);rw[e]
 exact gG (·,0) (fKo (b:=b) (b % 64) fu ha)
theorem eYo(w:Bb)(ha:a<18446744073709551616)(d:b<18446744073709551616):Be fZ 142 #[fF fN 13,fF fO a,fF fO b,fF fN 64] w (jQ 64 126 13 a b w):=by
 have c:=fQ (@eYn a b ha d);unfold jQ;rw[c.out];obtain⟨n,hn⟩:=fX (b % 64);have aa:n<64:=fu;have ad:(b:Int) % 64=(n:Int):=fu;rw[hn];clear hn c;go_in;go_wp2_with fail;refine gu (cXy a n _ fu ha) ?_;go_wp2;go_ret2;exact⟨hJ (by first|rfl|exact nX _|exact nZ _|exact(Aj _)),rfl⟩
theorem eYp{a b:Nat}(ha:a<18446744073709551616)(hb:b<18446744073709551616):gY 3 126 14 a b=(((kS 64 a (64 - b % 64):Nat):Int),0):=by
 have e:gY 3 126 14 a b=((oX fO 64 a b (b % 64) (wrap64 a)).getD 14 0,0):=(by simp[gY]);rw[e]
 exact gG (·,0) (fKp (b:=b) (b % 64) fu ha)
theorem eYq(w:Bb)(ha:a<18446744073709551616)(d:b<18446744073709551616):Be fZ 142 #[fF fN 14,fF fO a,fF fO b,fF fN 64] w (jQ 64 126 14 a b w):=by
 have c:=fQ (@eYp a b ha d);unfold jQ;rw[c.out];obtain⟨n,hn⟩:=fX (b % 64);have aa:n<64:=fu;have ad:(b:Int) % 64=(n:Int):=fu;rw[hn];clear hn c;go_in;have hs:(64:Int) - (n:Int)=((64 - n:Nat):Int):=fu;go_wp2_with fail;refine gu (cXy a (64 - n) _ fu ha) ?_;go_wp2;go_ret2;exact⟨hJ (by first|rfl|exact nX _|exact nZ _|exact(Aj _)),rfl⟩
theorem eYr(k a b:Nat)(w:Bb)(hk:k<15)(ha:a<18446744073709551616)(c:b<18446744073709551616):Be fZ 142 #[fF fN k,fF fO a,fF fO b,fF fN 64] w (jQ 64 126 k a b w):=by
 have hc:k=0\/k=1\/k=2\/k=3\/k=4\/k=5\/k=6\/k=7\/k=8\/k=9\/k=10\/k=11\/k=12\/k=13\/k=14:=fu;rcases hc with rfl|rfl|rfl|rfl|rfl|rfl|rfl|rfl|rfl|rfl|rfl|rfl|rfl|rfl|rfl
 ·exact fZh w ha c
 ·exact fZj w ha c
 ·exact fZl w ha c
 ·exact fZm w ha c
 ·exact fZn w ha c
 ·exact fZo w ha c
 ·exact fZp w ha c
 ·exact fZr w ha c
 ·exact fZt w ha c
 ·exact fZv w ha c
 ·exact eYi w ha c
 ·exact eYk w ha c
 ·exact eYm w ha c
 ·exact eYo w ha c
 ·exact eYq w ha c
theorem fZw{a b:Nat}(ha:a<4294967296)(hb:b<4294967296):gY 3 127 0 a b=(((a:Int)+b) % 4294967296,0):=by
 have e:gY 3 127 0 a b=((oX fP 32 a b (b % 32) (wrap32 a)).getD 0 0,0):=(by simp[gY]);rw[e]
 exact gG (·,0) (Ay _)
theorem fZx(w:Bb)(ha:a<4294967296)(d:b<4294967296):Be fZ 142 #[fF fN 0,fF fO a,fF fO b,fF fN 32] w (jQ 32 127 0 a b w):=by
 have c:=fQ (@fZw a b ha d);unfold jQ;rw[c.out];obtain⟨n,hn⟩:=fX (b % 32);have aa:n<32:=fu;have ad:(b:Int) % 32=(n:Int):=fu;clear hn c;go_in;go_wp2_with fail;refine gu (mS _ _ (by first|omega|exact(nV _).1) (by first|omega|exact(nV _).2)) ?_;go_wp2;go_ret2;exact⟨hJ (by first|rfl|exact nX _|exact nZ _|exact(Aj _)),rfl⟩
theorem fZy{a b:Nat}(ha:a<4294967296)(hb:b<4294967296):gY 3 127 1 a b=(((a:Int) - b) % 4294967296,0):=by
 have e:gY 3 127 1 a b=((oX fP 32 a b (b % 32) (wrap32 a)).getD 1 0,0):=(by simp[gY]);rw[e]
 exact gG (·,0) (Ay _)
theorem fZz(w:Bb)(ha:a<4294967296)(d:b<4294967296):Be fZ 142 #[fF fN 1,fF fO a,fF fO b,fF fN 32] w (jQ 32 127 1 a b w):=by
 have c:=fQ (@fZy a b ha d);unfold jQ;rw[c.out];obtain⟨n,hn⟩:=fX (b % 32);have aa:n<32:=fu;have ad:(b:Int) % 32=(n:Int):=fu;clear hn c;go_in;go_wp2_with fail;refine gu (mS _ _ (by first|omega|exact(nV _).1) (by first|omega|exact(nV _).2)) ?_;go_wp2;go_ret2;exact⟨hJ (by first|rfl|exact nX _|exact nZ _|exact(Aj _)),rfl⟩
theorem fJa{a b:Nat}(ha:a<4294967296)(hb:b<4294967296):gY 3 127 2 a b=(((a:Int)*b) % 4294967296,0):=by
 have e:gY 3 127 2 a b=((oX fP 32 a b (b % 32) (wrap32 a)).getD 2 0,0):=(by simp[gY]);rw[e]
 exact gG (·,0) (Ay _)
theorem fJb(w:Bb)(ha:a<4294967296)(d:b<4294967296):Be fZ 142 #[fF fN 2,fF fO a,fF fO b,fF fN 32] w (jQ 32 127 2 a b w):=by
 have c:=fQ (@fJa a b ha d);unfold jQ;rw[c.out];obtain⟨n,hn⟩:=fX (b % 32);have aa:n<32:=fu;have ad:(b:Int) % 32=(n:Int):=fu;clear hn c;go_in;go_wp2_with fail;refine gu (mS _ _ (by first|omega|exact(nV _).1) (by first|omega|exact(nV _).2)) ?_;go_wp2;go_ret2;exact⟨hJ (by first|rfl|exact nX _|exact nZ _|exact(Aj _)),rfl⟩
theorem fJc(w:Bb)(ha:a<4294967296)(d:b<4294967296):Be fZ 142 #[fF fN 3,fF fO a,fF fO b,fF fN 32] w (jQ 32 127 3 a b w):=by
 have c:=fQ (show gY 3 127 3 a b=iX 4294967296 (-2147483648) ((0:Nat):Int) a b (wrap32 a) (wrap32 b) by simp[gY]);unfold jQ;rw[c.out];obtain⟨n,hn⟩:=fX (b % 32);have aa:n<32:=fu;have ad:(b:Int) % 32=(n:Int):=fu;clear hn c;go_in;go_wp2_with fail;refine gu (bJz 0 a b _ fu ha d) ?_;go_wp2;go_ret2;exact⟨rfl,rfl⟩
theorem fJd(w:Bb)(ha:a<4294967296)(d:b<4294967296):Be fZ 142 #[fF fN 4,fF fO a,fF fO b,fF fN 32] w (jQ 32 127 4 a b w):=by
 have c:=fQ (show gY 3 127 4 a b=iX 4294967296 (-2147483648) ((1:Nat):Int) a b (wrap32 a) (wrap32 b) by simp[gY]);unfold jQ;rw[c.out];obtain⟨n,hn⟩:=fX (b % 32);have aa:n<32:=fu;have ad:(b:Int) % 32=(n:Int):=fu;clear hn c;go_in;go_wp2_with fail;refine gu (bJz 1 a b _ fu ha d) ?_;go_wp2;go_ret2;exact⟨rfl,rfl⟩
theorem fJe(w:Bb)(ha:a<4294967296)(d:b<4294967296):Be fZ 142 #[fF fN 5,fF fO a,fF fO b,fF fN 32] w (jQ 32 127 5 a b w):=by
 have c:=fQ (show gY 3 127 5 a b=iX 4294967296 (-2147483648) ((2:Nat):Int) a b (wrap32 a) (wrap32 b) by simp[gY]);unfold jQ;rw[c.out];obtain⟨n,hn⟩:=fX (b % 32);have aa:n<32:=fu;have ad:(b:Int) % 32=(n:Int):=fu;clear hn c;go_in;go_wp2_with fail;refine gu (bJz 2 a b _ fu ha d) ?_;go_wp2;go_ret2;exact⟨rfl,rfl⟩
theorem fJf(w:Bb)(ha:a<4294967296)(d:b<4294967296):Be fZ 142 #[fF fN 6,fF fO a,fF fO b,fF fN 32] w (jQ 32 127 6 a b w):=by
 have c:=fQ (show gY 3 127 6 a b=iX 4294967296 (-2147483648) ((3:Nat):Int) a b (wrap32 a) (wrap32 b) by simp[gY]);unfold jQ;rw[c.out];obtain⟨n,hn⟩:=fX (b % 32);have aa:n<32:=fu;have ad:(b:Int) % 32=(n:Int):=fu;clear hn c;go_in;go_wp2_with fail;refine gu (bJz 3 a b _ fu ha d) ?_;go_wp2;go_ret2;exact⟨rfl,rfl⟩
theorem fJg{a b:Nat}(ha:a<4294967296)(c:b<4294967296):gY 3 127 7 a b=(bits .and fO a b,0):=by
 have e:gY 3 127 7 a b=((oX fP 32 a b (b % 32) (wrap32 a)).getD 7 0,0):=(by simp[gY]);rw[e]
 exact gG (·,0) (fZc ha c)
theorem fJh(w:Bb)(ha:a<4294967296)(d:b<4294967296):Be fZ 142 #[fF fN 7,fF fO a,fF fO b,fF fN 32] w (jQ 32 127 7 a b w):=by
 have c:=fQ (@fJg a b ha d);unfold jQ;rw[c.out];obtain⟨n,hn⟩:=fX (b % 32);have aa:n<32:=fu;have ad:(b:Int) % 32=(n:Int):=fu;clear hn c;go_in;go_wp2;go_ret2;exact⟨hJ (by first|rfl|exact nX _|exact nZ _|exact(Aj _)),rfl⟩
theorem fJi{a b:Nat}(ha:a<4294967296)(c:b<4294967296):gY 3 127 8 a b=(bits .or fO a b,0):=by
 have e:gY 3 127 8 a b=((oX fP 32 a b (b % 32) (wrap32 a)).getD 8 0,0):=(by simp[gY]);rw[e]
 exact gG (·,0) ((cYi ha c).trans (bits_or_u64_nat a b fu fu).symm)
theorem fJj(w:Bb)(ha:a<4294967296)(d:b<4294967296):Be fZ 142 #[fF fN 8,fF fO a,fF fO b,fF fN 32] w (jQ 32 127 8 a b w):=by
 have c:=fQ (@fJi a b ha d);unfold jQ;rw[c.out];obtain⟨n,hn⟩:=fX (b % 32);have aa:n<32:=fu;have ad:(b:Int) % 32=(n:Int):=fu;clear hn c;go_in;go_wp2;go_ret2;exact⟨hJ (by first|rfl|exact nX _|exact nZ _|exact(Aj _)),rfl⟩
theorem fJk{a b:Nat}(ha:a<4294967296)(c:b<4294967296):gY 3 127 9 a b=(bits .xor fO a b,0):=by
 have e:gY 3 127 9 a b=((oX fP 32 a b (b % 32) (wrap32 a)).getD 9 0,0):=(by simp[gY]);rw[e]
 exact gG (·,0) ((fZd ha c).trans (bits_xor_u64_nat a b fu fu).symm)
theorem fJl(w:Bb)(ha:a<4294967296)(d:b<4294967296):Be fZ 142 #[fF fN 9,fF fO a,fF fO b,fF fN 32] w (jQ 32 127 9 a b w):=by
 have c:=fQ (@fJk a b ha d);unfold jQ;rw[c.out];obtain⟨n,hn⟩:=fX (b % 32);have aa:n<32:=fu;have ad:(b:Int) % 32=(n:Int):=fu;clear hn c;go_in;go_wp2;go_ret2;exact⟨hJ (by first|rfl|exact nX _|exact nZ _|exact(Aj _)),rfl⟩
theorem eYs{a b:Nat}(ha:a<4294967296)(hb:b<4294967296):gY 3 127 10 a b=(((a:Int)*2 ^ (b % 32)) % 4294967296,0):=by
 have e:gY 3 127 10 a b=((oX fP 32 a b (b % 32) (wrap32 a)).getD 10 0,0):=(by simp[gY]);rw[e]
 exact gG (·,0) (Ay _)
theorem eYt(w:Bb)(ha:a<4294967296)(d:b<4294967296):Be fZ 142 #[fF fN 10,fF fO a,fF fO b,fF fN 32] w (jQ 32 127 10 a b w):=by
 have c:=fQ (@eYs a b ha d);unfold jQ;rw[c.out];obtain⟨n,hn⟩:=fX (b % 32);have aa:n<32:=fu;have ad:(b:Int) % 32=(n:Int):=fu;rw[hn];clear hn c;go_in;go_wp2_with fail;refine gu (mS _ _ (by first|omega|exact(nV _).1) (by first|omega|exact(nV _).2)) ?_;go_wp2;go_ret2;exact⟨hJ (by first|rfl|exact nX _|exact nZ _|exact(Aj _)),rfl⟩
theorem eYu{a b:Nat}(ha:a<4294967296)(hb:b<4294967296):gY 3 127 11 a b=((wrap32 a / 2 ^ (b % 32)) % 4294967296,0):=by
 have e:gY 3 127 11 a b=((oX fP 32 a b (b % 32) (wrap32 a)).getD 11 0,0):=by
  simp only[gY];rw[gy fy,gy fy,gy fy];rfl
 rw[e,dWq];rw[Ay]
theorem eYv(w:Bb)(ha:a<4294967296)(d:b<4294967296):Be fZ 142 #[fF fN 11,fF fO a,fF fO b,fF fN 32] w (jQ 32 127 11 a b w):=by
 have c:=fQ (@eYu a b ha d);unfold jQ;rw[c.out];obtain⟨n,hn⟩:=fX (b % 32);have aa:n<32:=fu;have ad:(b:Int) % 32=(n:Int):=fu;rw[hn];clear hn c;go_in;go_wp2_with fail;refine gu (rz (a:Int) _ fu fu) ?_;go_wp2_with fail;refine gu (mS _ _ (by first|omega|exact(nV _).1) (by first|omega|exact(nV _).2)) ?_;go_wp2;go_ret2;exact⟨hJ (by first|rfl|exact nX _|exact nZ _|exact(Aj _)),rfl⟩
theorem eYw{a b:Nat}(ha:a<4294967296)(hb:b<4294967296):gY 3 127 12 a b=((a:Int) / 2 ^ (b % 32),0):=by
 have e:gY 3 127 12 a b=((oX fP 32 a b (b % 32) (wrap32 a)).getD 12 0,0):=(by simp[gY]);rw[e];rfl
theorem eYx(w:Bb)(ha:a<4294967296)(d:b<4294967296):Be fZ 142 #[fF fN 12,fF fO a,fF fO b,fF fN 32] w (jQ 32 127 12 a b w):=by
 have c:=fQ (@eYw a b ha d);unfold jQ;rw[c.out];obtain⟨n,hn⟩:=fX (b % 32);have aa:n<32:=fu;have ad:(b:Int) % 32=(n:Int):=fu;rw[hn];clear hn c;go_in;go_wp2;go_ret2;exact⟨hJ (by first|rfl|exact nX _|exact nZ _|exact(Aj _)),rfl⟩
theorem eYy{a b:Nat}(ha:a<4294967296)(hb:b<4294967296):gY 3 127 13 a b=(((kS 32 a (b % 32):Nat):Int),0):=by
 have e:gY 3 127 13 a b=((oX fP 32 a b (b % 32) (wrap32 a)).getD 13 0,0):=(by simp[gY]);rw[e]
 exact gG (·,0) (fZe (b % 32) fu ha)
theorem eYz(w:Bb)(ha:a<4294967296)(d:b<4294967296):Be fZ 142 #[fF fN 13,fF fO a,fF fO b,fF fN 32] w (jQ 32 127 13 a b w):=by
 have c:=fQ (@eYy a b ha d);unfold jQ;rw[c.out];obtain⟨n,hn⟩:=fX (b % 32);have aa:n<32:=fu;have ad:(b:Int) % 32=(n:Int):=fu;rw[hn];clear hn c;go_in;go_wp2_with fail;refine gu (cXz a n _ fu ha) ?_;go_wp2;go_ret2;exact⟨hJ (by first|rfl|exact nX _|exact nZ _|exact(Aj _)),rfl⟩
theorem fQa{a b:Nat}(ha:a<4294967296)(hb:b<4294967296):gY 3 127 14 a b=(((kS 32 a (32 - b % 32):Nat):Int),0):=by
 have e:gY 3 127 14 a b=((oX fP 32 a b (b % 32) (wrap32 a)).getD 14 0,0):=(by simp[gY]);rw[e]
 exact gG (·,0) (fZf (b % 32) fu ha)
theorem fQb(w:Bb)(ha:a<4294967296)(d:b<4294967296):Be fZ 142 #[fF fN 14,fF fO a,fF fO b,fF fN 32] w (jQ 32 127 14 a b w):=by
 have c:=fQ (@fQa a b ha d);unfold jQ;rw[c.out];obtain⟨n,hn⟩:=fX (b % 32);have aa:n<32:=fu;have ad:(b:Int) % 32=(n:Int):=fu;rw[hn];clear hn c;go_in;have hs:(32:Int) - (n:Int)=((32 - n:Nat):Int):=fu;go_wp2_with fail;refine gu (cXz a (32 - n) _ fu ha) ?_;go_wp2;go_ret2;exact⟨hJ (by first|rfl|exact nX _|exact nZ _|exact(Aj _)),rfl⟩
theorem fQc(k a b:Nat)(w:Bb)(hk:k<15)(ha:a<4294967296)(c:b<4294967296):Be fZ 142 #[fF fN k,fF fO a,fF fO b,fF fN 32] w (jQ 32 127 k a b w):=by
 have hc:k=0\/k=1\/k=2\/k=3\/k=4\/k=5\/k=6\/k=7\/k=8\/k=9\/k=10\/k=11\/k=12\/k=13\/k=14:=fu;rcases hc with rfl|rfl|rfl|rfl|rfl|rfl|rfl|rfl|rfl|rfl|rfl|rfl|rfl|rfl|rfl
 ·exact fZx w ha c
 ·exact fZz w ha c
 ·exact fJb w ha c
 ·exact fJc w ha c
 ·exact fJd w ha c
 ·exact fJe w ha c
 ·exact fJf w ha c
 ·exact fJh w ha c
 ·exact fJj w ha c
 ·exact fJl w ha c
 ·exact eYt w ha c
 ·exact eYv w ha c
 ·exact eYx w ha c
 ·exact eYz w ha c
 ·exact fQb w ha c
end Go.Proofs.YtabibkpfgmolkaaGreatDoor

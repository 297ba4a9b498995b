/- Lemmas for the claim, part 7. Conditions: none. -/
import Derived.Test.YtabibkpfgmolkaaGreatDoorPt06
import Derived.Deep.AppendLies
import Derived.Deep.RegionLaw
import Derived.LoopIn
import Derived.LoopNIn
import Derived.OwnWalkIn
import Derived.RangeFuncBound
import Derived.RangeFuncNested
import Derived.Shelf.RegionOpen
import Derived.StillTailTactics
set_option maxRecDepth 100000
set_option maxHeartbeats 16000000
set_option linter.unusedVariables false
set_option linter.unusedSimpArgs false
open Go.Lib renaming hid→fQ
open Go.Proofs.Tryz renaming prog→fZ
open Go.Proofs.Tryz
open Go.RowKit
open Nat renaming le_refl→Aj,lt_of_lt_of_le→Ax,le_trans→AJ,div_div_eq_div_mul→Ad,lt_of_le_of_lt→Bq,add_sub_cancel→Bx,div_le_self→BX,reduceAdd→BK,reduceSub→BV,sub_self→BY,pow_succ→Ba,zero_add→Bb,zero_le→Bc
open Go.RowKit.Below renaming heap_setCell→Aq,refl→Az
open List renaming replicate→Ak,getElem?_eq_getElem→Av,mem_of_getElem?→AZ,length_cons→AW,eq_nil_of_length_eq_zero→AY,getD_eq_getElem?_getD→Aa,drop_eq_getElem_cons→Ab,length_nil→Ae,append_toArray→Ai,append_assoc→Bz,size_toArray→Bv,push_toArray→Bw,take_length→By,cons_append→BJ,nil_append→BQ,length_set→BZ
open Go.World renaming setCell→Aw,ownsRow_nil→Ac,cell?_of_block→Af,grownBy_alloc→Bj,ownsRow_lit→Bk
open Go.Value renaming slice→Ay,int→BW
open Int renaming eq_ofNat_of_zero_le→AQ,toNat_natCast→AX
open UInt8 renaming toNat→AK
open Array renaming replicate→AV,replicate_succ→Ag,replicate_zero→Ah
open Go renaming World→Bd,Value→Be,Calls→Bg
open Go.RowKit renaming Below→Bf
open Go.Value renaming int->fF,slice->fG,bool->fH,tuple->fI,pointer->fM
open Go.IntKind renaming i64->fN,u64->fO,u8->fP
open Go.Obj renaming cells->fR
open Go.Ending renaming returned->fS
open Or renaming inl->fT,inr->fU
open Option renaming none->gh,some->gj
open Bool renaming true->gm,false->gn
namespace Go.Proofs.YtabibkpfgmolkaaGreatDoor
variable {w w' w0:Bd}{k g n a:Nat}{ks:List Int}{l:List Nat}{e:TypeId}{v:Be}
def sO(C:iO)(X:iL)(x':jP)(w:Bd)(a:Ending)(w':Bd):Prop:=a = fS (fI #[])/\∃ X',gU C X' w'/\KK X X' w w'/\X'.x=x'
theorem aWp(C:iO)(X:iL)(vo:Be)(l:List Nat)(e:Int)(w:Bd)(h:gU C X w)(j:UR w vo l)(hf:∀ k,vo.ownBlock=gj k->X.a8 k=8):Bg fZ 29 #[fM (gj ⟨C.mm,0,gh⟩),vo,fF fN e] w (sO C X (uX X.x X.x.s l e) w):=by
 have m0:=h.fWi;have ad:w.cell? ⟨C.cb,12,gh⟩=gj X.sv:=h.cell 12;have ae:w.cell? ⟨C.cb,14,gh⟩=gj (fF fN X.x.e):=h.cell 14;have af:w.cell? ⟨C.cb,16,gh⟩=gj (fH X.x.over):=h.cell 16;have f12:=ik h.cb 12;have f14:=ik h.cb 14;have f16:=ik h.cb 16;have a:=((h.gQb gm).gQa e).gQc;have nl:X.a8 C.cb≠0:=gU.nl h.tojl;have f:=(((KK.refl X w).set (y:={ X with x:={ X.x with over:=gm } }) (g:=C.cb) 16 (fH gm) (fT nl) rfl).set (y:={ X with x:={ X.x with over:=gm,e:=e } }) (g:=C.cb) 14 (fF fN e) (fT nl) rfl).set (y:={ X with sv:=fG gh 0 0,ps:=[],x:={ X.x with over:=gm,e:=e,st:=[] } }) (g:=C.cb) 12 (fG gh 0 0) (fT nl) rfl;have m:((((w.setCell ⟨C.cb,16,gh⟩ (fH gm)).setCell ⟨C.cb,14,gh⟩ (fF fN e)).setCell ⟨C.cb,12,gh⟩ (fG gh 0 0))).heap.size=w.heap.size:=(by simp[Aw]);obtain⟨A,c,rfl⟩:=j.I
 have ne8:∀ k,(Ay A l.length c).ownBlock=gj k->k≠C.cb:=fun k d e=>by
  have:=hf k d;rw[e,h.cl]at this;cases this
 have n:UR ((((w.setCell ⟨C.cb,16,gh⟩ (fH gm)).setCell ⟨C.cb,14,gh⟩ (fF fN e)).setCell ⟨C.cb,12,gh⟩ (fG gh 0 0))) (fG A l.length c) l:=j.heap f.size (fun k d ag=>((Aq _ _ _ _ (ne8 k d)).trans (Aq _ _ _ _ (ne8 k d))).trans (Aq _ _ _ _ (ne8 k d)));obtain⟨t,o⟩:=fX (((((w.setCell ⟨C.cb,16,gh⟩ (fH gm)).setCell ⟨C.cb,14,gh⟩ (fF fN e)).setCell ⟨C.cb,12,gh⟩ (fG gh 0 0))));rw[o]at a f n m;have q:=fQ o;have p:=fQ a;have r:=fQ f;have u:=fQ n;have v:=fQ hf;have m1:=a.fWi;have ah:t.cell? ⟨C.cb,13,gh⟩=gj X.ov:=a.cell 13;have f13:=ik a.cb 13;clear a f n hf h j o m ne8;by_cases b:e=0
 ·have z:(e == 0)=gm:=(by simp[b]);have i:=fQ b;clear b;go_in;go_wp2_with fail;go_region;rw[q.out];go_wp2;go_end0;refine⟨rfl,{ X with sv:=fG gh 0 0,ps:=[],ov:=fG A l.length c,x:={ X.x with over:=gm,e:=e,st:=[],out:=l } },(p.gQd (fG A l.length c) l u.out v.out).drew,(r.set (y:={ X with sv:=fG gh 0 0,ps:=[],x:={ X.x with over:=gm,e:=e,st:=[] } }) (g:=C.cb) _ _ (fT (gU.nl p.tojl)) rfl).drew.to rfl,?_⟩;unfold uX;rw[gz i.out,i.out]
 ·have z:(e == 0)=gn:=(by simp[b]);have i:=fQ b;clear b;go_in;go_wp2_with fail;go_region;rw[q.out];go_wp2;go_end0;refine⟨rfl,_,p.drew,r.drew,?_⟩;unfold uX;rw[gy i.out]
def mF(ks:List Int)(l:List Nat)(k:Nat):List Nat:=ie (ks.take k) (l.take k)++l.drop k
theorem dJu(ks:List Int)(l:List Nat):mF ks l 0=l:=by simp[mF,ie]
theorem aYq(h:ks.length=l.length)(a:k<=l.length):(ie (ks.take k) (l.take k)).length=k:=by
 rw[pY _ _ (by simp[h]),List.length_take,Nat.min_eq_left a]
theorem eVt(h:ks.length=l.length)(hk:k<l.length):(mF ks l k)[k]? = l[k]?:=by
 unfold mF;rw[List.getElem?_append_right (by rw[aYq h fu];exact Aj _),aYq h fu,BY,List.getElem?_drop,Nat.add_zero]
theorem dJv(h:ks.length=l.length):mF ks l l.length=ie ks l:=by
 unfold mF;rw[<-h,By,h,By,List.drop_length,List.append_nil]
theorem dJw(h:ks.length=l.length){x:Nat}{t:Int}(b:ks[k]? = gj t)(a:l[k]? = gj x):(mF ks l k).set k (oY t x)=mF ks l (k+1):=by
 have c:=(gw a).1;have ad:=(gw a).2;have d:=aYq h (k:=k) fu;unfold mF;rw[List.set_append_right _ _ fu,d,BY,aKz b a,Ab c,Bz];rfl
theorem dJx(h:ks.length=l.length){x:Nat}{t:Int}(b:ks[k]? = gj t)(a:l[k]? = gj x)(he:oY t x=x):mF ks l k=mF ks l (k+1):=by
 have c:=(gw a).1;have d:=(gw a).2;unfold mF;rw[aKz b a,he,Ab c,d,Bz];rfl
theorem yJ(v:Be)(l:List Nat)(w:Bd)(h:UR w v l):Bg fZ 27 #[v] w fun e w'=>∃ v',e = fS v'/\w'.ownsRow w.heap.size 52 1 v' l.length (hH l)/\Bf w.heap.size w w':=by
 obtain⟨A,c,rfl,hs,hc,f,hn,_⟩:=h;have ae:∀ (w:Bd) (a:Option Addr) (n c g i:Nat),(binOp .eql 30 (fG a n c) (fG gh g i)).run fZ w = .ok (fH a.isNone) w:=fun w a n c g i=>Lib.run_eql_slice_nil w 30 52 a n c g i underlying30;obtain⟨n,d⟩:=fX l.length;rw[d]at hs hc hn ⊢;rcases A with _|⟨b,o,sp⟩
 ·have m:c=0:=f rfl;subst m;have p:n=0:=fu;subst p;have q:l = []:=AY d;subst q;clear f hs hc hn d;go_in;go_wp2;go_ret;exact⟨_,rfl,Ac _ _ _ _,Az _ _⟩
 ·have r:=fQ (hs.C (w':=w.alloc (fR #[] 52)) ((Az _ _).alloc (Aj _) _) (Aj _));have af:=hn.1;clear hs f hn d;go_in;go_wp2_with (at_builtin;refine qv _ rfl _ (.tmp 6) 30 rfl w.heap.size 52 _ 8 underlying30 tX rfl _ 0 [] rfl (Bk w #[] 0 (Aj _) (by unfold maxLen;omega) rfl) _ n c _ rfl r.out (qN _) (by unfold maxLen;omega) fu fz ?_);rintro v' w' j k;have s:=fQ (by simpa using j:w'.ownsRow w.heap.size 52 1 v' n (hH l));have t:=fQ k;clear j k;go_wp2;go_ret;exact⟨_,rfl,s.out,((Az _ _).alloc (Aj _) _).trans t.out⟩
theorem pH(vk v:Be)(ks:List Int)(l:List Nat)(w:Bd)(f:IR w vk ks)(j:UR w v l)(he:ks.length=l.length):Bg fZ 48 #[vk,v] w (bJx ks l w):=by
 obtain⟨A1,c1,rfl⟩:=f.I;have z:=fQ f;have G:l.length<=17592186043904:=(by obtain⟨_,_,_,_,_,_,h,_⟩:=j;exact h.1);have A:ij l:=(by obtain⟨_,_,_,_,_,_,_,h⟩:=j;exact h);have c:=fQ he;have H:=fQ j;obtain⟨n,hn⟩:=fX l.length;have d:=fQ hn;have I:=fQ A;rw[hn]at G;rw[he,hn]at z ⊢;unfold bJx;rw[hn];clear f j he hn A;go_in;go_wp2_with fail;refine(yJ _ l _ H.out).mono ?_;rintro e w1 ⟨v1,rfl,h1,h2⟩;rw[d.out]at h1;have B:=fQ h2;have C:w1.ownsRow w.heap.size 52 1 v1 n (hH (mF ks l 0)):=(by rw[dJu];exact h1);obtain⟨J,K,rfl,ao⟩:=fJ h1;have D:=fQ C;clear h1 C h2;go_wp2_with fail;go_loopw [12] (fun i wr=>∃ k:Nat,k<=n/\i = fF fN k/\Hid (wr.ownsRow w.heap.size 52 1 (fG J n K) n (hH (mF ks l k)))/\Hid (Bf w.heap.size w wr)) (fun i _=>n - (intOf i).toNat)
 case atStart=>exact⟨0,fu,rfl,D,B⟩
 case round=>
  clear D B;obtain⟨k,f,rfl,IOh,m⟩:=hrel;by_cases r:k<n
  ·have t2:(k:Int)<n:=fu;obtain⟨t,s⟩:∃ t,ks[k]? = gj t:=⟨_,Av (by rw[c.out,d.out];exact r)⟩;obtain⟨x,q⟩:∃ x,l[k]? = gj x:=⟨_,Av (by rw[d.out];exact r)⟩;obtain⟨b,o,rfl,hb,hc⟩:=(z.C m.out (Aj _)).cell s;obtain⟨g,c3,u,aq,M,_⟩:=lZ IOh.out fu;injection u with u _ N;subst u;subst N;have O:=I.out x (AZ q)
   have ar:wr.cell? ⟨g,k,gh⟩=gj (fF fO (x:Int)):=by
    rw[IOh.out.cellAt k fu];have:=eVt c.out (k:=k) (by rw[d.out];exact r);simp[hH,this,q]
   have au:wr.frozen? ⟨g,k,gh⟩=gn:=IOh.out.frozenAt _;have E:=fQ s;have F:=fQ q;clear s q;by_cases a:t=127
   ·have P:(t == 127)=gm:=(by simp[a]);have hand:=sm O;have y:=fQ (show oY t x=x % 4294967296 by unfold oY;rw[gz a]);clear a;go_wp2;refine⟨⟨k+1,fu,fz,fQ ?_,fQ (m.out.setCell (p:=⟨g,k,gh⟩) M _)⟩,fB⟩;rw[<-dJw c.out E.out F.out,y.out,<-qO];exact(IOh.out.stored k _).1
   ·have P:(t == 127)=gn:=(by simp[a]);have y:=fQ (show oY t x=x by unfold oY;rw[gy a]);clear a;go_wp2;refine⟨⟨k+1,fu,fz,fQ ?_,m⟩,fB⟩;rw[<-dJx c.out E.out F.out y.out];exact IOh.out
  ·have L:decide ((k:Int)<n)=gn:=fw;have Q:k=n:=fu;subst Q;go_wp2;go_ret;refine⟨_,rfl,?_,m.out⟩;have:=dJv c.out;rw[d.out]at this;rw[<-this];exact IOh.out
theorem bQx(x:Int)(w:Bd):Bg fZ 91 #[fF fN x] w fun e w'=>e = fS (fF fN (if x=35 then 38 else x))/\w=w':=by
 by_cases h:x=35
 ·have h1:(x == 35)=gm:=(by simp[h]);rw[gz h];clear h;go_in;go_wp2;go_ret;exact⟨rfl,rfl⟩
 ·have h1:(x == 35)=gn:=(by simp[h]);rw[gy h];clear h;go_in;go_wp2;go_ret;exact⟨rfl,rfl⟩
theorem aYo:∀ (os:List Int) (a V:List Nat),iS (os.take a.length) (a.take a.length) V=iS os a V
 | [],a,V=>by cases a <;> rfl
 | o :: os,[],V=>rfl
 | o :: os,n :: a,V=>by
  simp only[AW,List.take_succ_cons,iS];exact aYo os a _
def xY(X:iL)(f:iP)(rest:List iP)(V:List Nat):iL:={ X with x:={ X.x with st:={ f with V:=V } :: rest } }
def fXc(C:iO)(X:iL)(f:iP)(rest:List iP)(V:List Nat)(w:Bd)(a:Ending)(w':Bd):Prop:=a = fS (fI #[])/\gU C (xY X f rest V) w'/\KK X (xY X f rest V) w w'
theorem sJ(C:iO)(X:iL)(f:iP)(rest:List iP)(g cS:Nat)(vc:Be)(c:gP)(vo:Be)(l:List Nat)(w:Bd)(h:gU C X w)(N:X.x.st=f :: rest)(O:X.sv = fG (gj ⟨g,0,gh⟩) (rest.length+1) cS)
  (hc:jz C.w0 vc c) (r:UR w vo l) (A:∀ k,vo.ownBlock=gj k->X.a8 k≠10+rest.length) (P:∀ o∈c.O,0<=o/\o<(f.V.length:Int)) (hle:l.length<=c.O.length) :
  Bg fZ 60 #[fM (gj ⟨g,rest.length*3,gh⟩),vc,vo] w (fXc C X f rest (iS c.O l f.V) w):=by
 obtain⟨B,cb,D,rfl,az,_,s,_⟩:=hc;obtain⟨A1,c1,rfl⟩:=r.I;obtain⟨E,F,rfl⟩:=s.I;obtain⟨m,q⟩:=fX l.length;obtain⟨Q,t⟩:=fX c.O.length;have u:=(Az w.heap.size w).alloc (Aj _) (fR #[fF fN c.op,fF fO (c.n:Int),B,fG E c.O.length F,D] 86);have G:=fQ (h.C u);have H:=fQ (gO.a4 w 86 #[fF fN c.op,fF fO (c.n:Int),B,fG E c.O.length F,D]);have R:=fQ (gU.a6 h.tojl (Aj w.heap.size));have T:=fQ r;rw[q]at A;have aA:=fQ A;have U:=fQ s.ir;have aB:=fQ P;have aC:=fQ N;have aD:=fQ O;have W:=fQ q;have aE:=fQ t;rw[q,t]at hle;have ah:=r.len.2.2.2.2.1.1;rw[t]at u H G U ⊢;rw[q]at T ah ⊢;clear h N O s r A P q t az;go_in;go_wp2_with fail;go_loopw [10] (fun i wr=>∃ k:Nat,k<=m/\i = fF fN k/\Hid (gU C (xY X f rest (iS (c.O.take k) (l.take k) f.V)) wr/\KK X (xY X f rest (iS (c.O.take k) (l.take k) f.V)) (w.alloc (fR #[fF fN c.op,fF fO (c.n:Int),B,fG E Q F,D] 86)) wr/\∀ j,X.a8 j≠10+rest.length->j<w.heap.size->wr.heap[j]? = w.heap[j]?)) (fun i _=>m - (intOf i).toNat)
 case atStart=>
  refine⟨0,fu,rfl,fQ ?_⟩
  have e:xY X f rest (iS (c.O.take 0) (l.take 0) f.V)=X:=by
   have:iS (c.O.take 0) (l.take 0) f.V=f.V:=rfl;rw[this];unfold xY;have h2:=aC.out;cases X;rename_i x _ _ _ _ _ _ _;cases x;simp at h2 ⊢;rw[h2]
  rw[e];exact⟨G.out,KK.refl _ _,fun j _ hj=>u.block j hj⟩
 case round=>
  obtain⟨k,hk,rfl,I⟩:=hrel;by_cases aF:k<m
  ·have t2:(k:Int)<m:=fu;have t3:(k:Int)<Q:=fu;obtain⟨y,J⟩:∃ y,l[k]? = gj y:=⟨_,Av (by rw[W.out];exact aF)⟩;obtain⟨o,z⟩:∃ o,c.O[k]? = gj o:=⟨_,Av (by rw[aE.out];omega)⟩;have aG:=aB.out o (AZ z);obtain⟨on,rfl⟩:=AQ aG.1;have aH:on<f.V.length:=fu;obtain⟨p,d,K⟩:=I.out;obtain⟨g',c',v,vs,a,e2,Y,e4,e5,e6,e7,e8,e9,e10,Z⟩:=gU.top p.tojl (f:={ f with V:=iS (c.O.take k) (l.take k) f.V }) (rest:=rest) rfl;have a:X.sv=_:=a;rw[aD.out]at a;injection a with a _ _;injection a with a;injection a with a;subst a;have L:(iS (c.O.take k) (l.take k) f.V).length=f.V.length:=rh _ _ _;have e10:wr.ownsRow C.w0.heap.size 52 1 v (iS (c.O.take k) (l.take k) f.V).length (hH (iS (c.O.take k) (l.take k) f.V)):=e10;rw[L]at e10;obtain⟨pg,pc,rfl,aN,aO,aP⟩:=lZ e10 fu;obtain⟨pv,aQ⟩:=aWd e10 aH;have aR:wr.frozen? ⟨pg,on,gh⟩=gn:=e10.frozenAt _;have K3:=(d.a9 H.out R.out).cell 3;simp at K3;obtain⟨b,ob,rfl,hb,s⟩:=(T.heap (AJ u.size d.size) (fun j hj M=>K j (aA.out j hj) M)).cell J;obtain⟨b2,aS,rfl,aT,aI⟩:=(U.C p.bel (Aj _)).cell z;have ay:(xY X f rest (iS (c.O.take k) (l.take k) f.V)).a8 pg=10+rest.length:=Z pg rfl;have aJ:=fQ p;have aK:=fQ d;have aL:=fQ K;have HY:=fQ J;have HO:=fQ z;have HP:=fQ Y;have aM:=fQ L;clear I p d K J z Y e10 e4 e5 Z G L;go_wp2_with fail;go_region;go_wp2;refine⟨⟨k+1,fu,fz,fQ ?_⟩,fB⟩;rw[sG _ _ _ _ _ _ HO.out HY.out,AX];have hP:=HP.out;rw[<-aM.out]at hP;have S:=aJ.fYq (f:={ f with V:=iS (c.O.take k) (l.take k) f.V }) (rest:=rest) rfl hP on y;refine⟨S.drew,(aK.set (y:=xY X f rest (iS (c.O.take k) (l.take k) f.V)) (g:=pg) _ _ (fT (by rw[ay];omega)) rfl).drew.to rfl,fun j hj M=>(Aq _ _ _ _ (fun e=>hj (by have:j=pg:=e;rw[this];exact ay))).trans (aL.out j hj M)⟩
  ·have t1:decide ((k:Int)<m)=gn:=fw;have ak:m=k:=fu;subst ak;go_wp2;go_end0;obtain⟨p,d,_⟩:=I.out;rw[<-W.out,aYo]at p d;exact⟨rfl,p,KK.trans (KK.jN ((Az w.heap.size w).alloc (Aj _) _)) d⟩
theorem cWm:(fZ.info? 83).map (fun i=>(i.zero,i.size,i.bytes))=gj (gj (.agg #[fM gh,fF fN 0,fG gh 0 0]),3,40):=fx
structure EnI (w w2:Bd) (P k:Nat) (q:gR) (L:List Nat) (wr:Bd):Prop where
 own:wr.ownsRow w.heap.size 52 1 (fG (gj ⟨w.heap.size,0,gh⟩) P P) P (hH (iS (q.params.take k) (L.take k) (Ak P 0)))
 bel:Bf w.heap.size w wr
 oth:∀ j,j≠w.heap.size->wr.heap[j]? = w2.heap[j]?
 size:wr.heap.size=w2.heap.size
theorem fKa{a b c:Be}(k:gO w g e #[a,b,c]):w.cell? ⟨g,0,gh⟩=gj a/\w.cell? ⟨g,1,gh⟩=gj b/\w.cell? ⟨g,2,gh⟩=gj c:=
 ⟨by simpa using k.cell 0,by simpa using k.cell 1,by simpa using k.cell 2⟩
theorem fKb{c N:Nat}(h:v.ownBlock=gj a\/a=N):(Ay (gj ⟨a,0,gh⟩) n c).ownBlock=v.ownBlock\/(Ay (gj ⟨a,0,gh⟩) n c).ownBlock=gj N:=by
 rcases h with h|h
 ·exact fT h.symm
 ·exact fU (by rw[h];rfl)
theorem rm{r:Option Nat}(h:w.drew.grownBy w' r):w.grownBy w' r:=⟨h.os,h.tape,h.output,h.size,h.block⟩
theorem fKc{base:Nat}{size:Nat}{a:List Be}(h:w.ownsRow base e size v n a):w.drew.ownsRow base e size v n a:=h
theorem fVo(C:iO)(f:iP)(A:Option Addr)(n c:Nat):∀ u∈yQ C f (fG A n c),u.oneCell'=gm:=by
 intro u a;simp only[yQ,List.mem_cons,List.mem_nil_iff,or_false]at a;rcases a with rfl|rfl|rfl <;> rfl
theorem eVn{C:iO}{X:iL}{f:iP}{w wr d:Bd}{pv:Be}{AS:Option Addr}{L cS a cap:Nat}{O:Obj}(n:gU C { X with a8:=mY X.a8 pv (10+X.x.st.length) } wr)(l:KK X { X with a8:=mY X.a8 pv (10+X.x.st.length) } w wr)(h:X.sv = fG AS L cS)(o:X.x.st.length=L)
  (p:wr.ownsRow C.w0.heap.size 52 1 pv f.V.length (hH f.V)) (q:d.ownsRow C.w0.heap.size 83 3 (fG (gj ⟨a,0,gh⟩) (L+1) cap) (L+1) (iz C X.x.st X.ps++yQ C f pv)) (hgrow:(wr.alloc O).drew.grownBy d (Ay AS L cS).ownBlock) (r:(Ay AS L cS).ownBlock=gj a\/a=wr.heap.size+1) :
  sO C X { X.x with st:=f :: X.x.st } w (fS (fI #[])) (d.setCell ⟨C.cb,12,gh⟩ (fG (gj ⟨a,0,gh⟩) (L+1) cap)):=by
 have i:=(Az wr.heap.size wr).alloc (Aj _) O;have h1:=n.C i;have hg:=rm hgrow;have m:(Ay (gj ⟨a,0,gh⟩) (L+1) cap).ownBlock=(Ay AS L cS).ownBlock\/(Ay (gj ⟨a,0,gh⟩) (L+1) cap).ownBlock=gj (wr.alloc O).heap.size:=fKb (by simpa using r);have j:∀ k,(Ay AS L cS).ownBlock=gj k->mY X.a8 pv (10+X.x.st.length) k=7:=fun k b=>h1.l7 k (by show X.sv.ownBlock=_;rw[h];exact b)
 have s:(Ay AS L cS).ownBlock≠gj C.cb:=fun e=>by
  have h8:=j _ e;have h9:mY X.a8 pv (10+X.x.st.length) C.cb=1:=h1.cl;omega
 have h2:=h1.tojl.gQh (v':=fG (gj ⟨a,0,gh⟩) (L+1) cap) (pv:=pv) (f:=f) (by show World.ownsRow _ _ _ _ _ (X.x.st.length+1) _;rw[o];exact q) (by show World.grownBy _ _ X.sv.ownBlock;rw[h];exact hg) (by show _=X.sv.ownBlock\/_;rw[h];exact m) (lJ p O) (fun k b=>zJ b);have t:=h2.fYb (h1.cb.grown hg s) 12 (fG (gj ⟨a,0,gh⟩) (L+1) cap) (by simp[ja]);refine⟨rfl,_,t,?_,rfl⟩;have u:=(l.C i).grown hg (fun k b=>fT (by rw[show({ X with a8:=mY X.a8 pv (10+X.x.st.length) }:iL).a8 k=7 from j k b];decide))
 have k2:=u.lH (v:=fG (gj ⟨a,0,gh⟩) (L+1) cap) (c:=7) (fun k b=>by
  rcases m with e|e
  ·exact fU (by rw[show({ X with a8:=mY X.a8 pv (10+X.x.st.length) }:iL).a8 k=7 from j k (by rw[<-e];exact b)];decide)
  ·rw[b]at e;injection e with e
   exact fT (by rw[e];exact AJ l.size i.size))
 have z:=gU.nl h2;exact(k2.set (y:={ X with a8:=mY (mY X.a8 pv (10+X.x.st.length)) (fG (gj ⟨a,0,gh⟩) (L+1) cap) 7 }) (g:=C.cb) 12 _ (fT z) rfl).to rfl
theorem eXn(P:Nat):hH (Ak P 0)=Ak P (fF fO 0):=by simp[hH]
theorem bVp(C:iO)(X:iL)(n m i:Nat)(g:iu)(q:gR)(va:Be)(a:List Nat)(w:Bd)(h:gU C X w)(r:KC C)(hg:C.p.J.R[n]? = gj g)(R:C.p.J.G=(m:Int))(hi:n=m+i)(hq:C.p.b0[i]? = gj q)(ha:UR w va a)(F:a.length=g.a1.length)(hd:X.x.st.length<=15):
  Bg fZ 31 #[fM (gj ⟨C.mm,0,gh⟩),fF fN n,va] w (sO C X { X.x with st:=⟨i,q,0,jb q (ie g.a1 a)⟩ :: X.x.st } w):=by
 have B:=(r.ok.row _ _ hq).1;obtain⟨nf,cf,hf⟩:=r.adr (fun e=>by rw[e]at hq;simp at hq)
 have aK:q.a2=g:=by
  have h1:=(r.ok.row _ _ hq).2;rw[R,AX,<-hi,hg]at h1;injection h1 with h1;exact h1.symm
 obtain⟨P,S⟩:=AQ B.p1;have bE:P<=4096:=(by have:=B.p2;omega);obtain⟨sb,so,ns,cs,sp,sq,aL,ba,bb,s1,s2,s3,s4,_⟩:=r.a2 h.bel hg;obtain⟨rp,rq,rs,ru,y0,y1,y2,y3,y4,y5,_,_,G,_⟩:=r.row h.bel hq;rw[S]at y3;have m0:=h.fWi;have c0:w.cell? ⟨C.cb,0,gh⟩=gj (fG (gj ⟨sb,so,gh⟩) ns cs):=(by rw[h.cell 0];simp[ja,aL]);have c1:w.cell? ⟨C.cb,1,gh⟩=gj (fF fN m):=(by rw[h.cell 1];simp[ja,R]);have c5:w.cell? ⟨C.cb,5,gh⟩=gj (fG (gj ⟨C.zf,C.jU,gh⟩) nf cf):=(by rw[h.cell 5];simp[ja,hf]);have yb:=h.cb.lt;have ym:=h.mm.lt
 have bF:i<nf:=by
  obtain⟨a',b',d',f',e,_,_,_,h4⟩:=r.rows;injection e with e;injection e with e;simp only[List.cons.injEq,and_true]at e;obtain⟨_,_,_,_,_,e6⟩:=e;rw[<-e6,hf]at h4;rw[h4.kj.1];exact(gw hq).1
 have bc:(i:Int)<(nf:Int):=fu;have bd:IntKind.i64.wrap ((n:Int) - (m:Int))=(i:Int):=(by rw[show(n:Int) - (m:Int)=(i:Int) by omega];exact IntWalk.i64_in _ fu);have be:(n:Int)<(ns:Int):=fu;obtain⟨K,T⟩:=fX a.length;have aM:(ie g.a1 a).length=K:=(by rw[pY _ _ F.symm,T]);have U:q.params.length=K:=(by rw[B.par,aK,<-F,T]);have bG:K<=8:=(by have:=(oL r.ok.J hg).1;omega);obtain⟨A2,c2,bf⟩:=G.I;subst bf;rw[U]at y4 G;obtain⟨A1,bH,rfl⟩:=s4.I;have mk:=nL (P:=fZ) 30 52 (fF fO 0) 8 underlying30 tX rfl P fu fu;have H:=fQ h;have HA:=fQ ha;have aN:=fQ F;have V:=fQ aM;have bg:=fQ U;have bj:=fQ B;have W:=fQ S;have bk:=fQ s4;have bm:=fQ G.ir;clear h ha F aM U B S s4 G hg hq aK aL hf T R hi ba r;go_in;go_wp2_with fail;go_quiet (fail);obtain⟨b,u⟩:=fX (w.drewN nq)
 have q0:∀ a,b.cell? a=w.cell? a:=fun a=>by rw[<-u];rfl
 have qs:b.heap.size=w.heap.size:=(by rw[<-u];rfl);rw[<-q0]at m0 c0 c1 c5 s2 s3 y1 y2 y3 y4 y5;rw[<-qs]at yb ym s1 y0;have s:=fQ (show gU C X b by rw[<-u];exact H.drewN nq);have Y:=fQ (show KK X X w b by rw[<-u];exact KK.jN (fK (Az _ _) nq));have aO:=fQ (show UR b va a by rw[<-u];exact HA.out);rw[u];clear u q0 qs H HA;have aP:=(Az b.heap.size b).alloc (Aj _) (fR (AV P (fF fO 0)) 52);have I:=aP.alloc fz (fR #[fM (gj ⟨C.zf,C.jU+i*5,gh⟩),fF fN 0,fG (gj ⟨b.heap.size,0,gh⟩) P P] 83);have aQ:=fQ ((gO.a4 b 52 (AV P (fF fO 0))).alloc (fR #[fM (gj ⟨C.zf,C.jU+i*5,gh⟩),fF fN 0,fG (gj ⟨b.heap.size,0,gh⟩) P P] 83));have aR:=fQ (gO.X (b.alloc (fR (AV P (fF fO 0)) 52)) (N:=b.heap.size+1) 83 #[fM (gj ⟨C.zf,C.jU+i*5,gh⟩),fF fN 0,fG (gj ⟨b.heap.size,0,gh⟩) P P] fz);have aS:=fQ I;have aT:=fQ (bk.ir.C (s.bel.trans (I.mono s.bel.size)) (Aj _));have aU:=fQ (aO.C I (Aj _));have aV:((b.alloc (fR (AV P (fF fO 0)) 52)).alloc (fR #[fM (gj ⟨C.zf,C.jU+i*5,gh⟩),fF fN 0,fG (gj ⟨b.heap.size,0,gh⟩) P P] 83)).heap.size=b.heap.size+2:=fz;have Z:=fQ aV;clear aP I aV;go_wp2_with fail;refine(pH _ _ g.a1 a _ aT.out aU.out aN.symm).mono ?_;rintro e J ⟨v3,rfl,D,A⟩;rw[<-pY g.a1 a aN.symm,V.out]at D;rw[Z.out]at D A;obtain⟨A3,c3,rfl,bI⟩:=fJ D;have aW:=fQ (aS.trans (A.mono fu));have an:=fQ (aQ.C A fu);have ao:=fQ (aR.C A fu);have aB:=fQ D;have bJ:b.heap.size+2<=J.heap.size:=(by have:=A.size;rw[Z.out]at this;exact this);clear D A aQ aR aS aT aU Z aO;go_wp2_with fail;go_loopw [53] (fun v wr=>∃ k:Nat,k<=K/\v = fF fN k/\Hid (EnI b J P k q (ie g.a1 a) wr)) (fun v _=>K - (intOf v).toNat)
 case atStart=>
  refine⟨0,fu,rfl,fQ ⟨?_,aW.out,fun _ _=>rfl,rfl⟩⟩
  have e:hH (iS (q.params.take 0) ((ie g.a1 a).take 0) (Ak P 0))=(AV P (BW fO 0)).toList:=by
   show hH (Ak P 0)=_;rw[eXn];simp
  rw[e];exact gO.own an.out (Aj _) fz (by unfold maxLen;omega)
 case round=>
  obtain⟨k,hk,rfl,d⟩:=hrel;have bn:J.heap.size=wr.heap.size:=d.out.size.symm;have K3:gO wr (b.heap.size+1) 83 _:=(d.out.oth _ fu).trans ao.out;obtain⟨p0,p1,p2⟩:=fKa K3;by_cases aX:k<K
  ·have t2:(k:Int)<K:=fu;obtain⟨y,hy⟩:∃ y,(ie g.a1 a)[k]? = gj y:=⟨_,Av (by rw[V.out];exact aX)⟩;obtain⟨o,M⟩:∃ o,q.params[k]? = gj o:=⟨_,Av (by rw[bg.out];exact aX)⟩
   have aC:0<=o/\o<(P:Int):=by
    have h1:=bj.pin;unfold within at h1;rw[List.all_eq_true]at h1;have:=h1 o (AZ M);rw[W.out]at this
    simpa using this
   obtain⟨on,rfl⟩:=AQ aC.1;have bo:on<P:=fu;have bL:wr.cell? ⟨C.zf,C.jU+i*5+3,gh⟩=gj (fG A2 K c2):=(d.out.bel.cell (p:=⟨C.zf,_,gh⟩) y0).trans y4;obtain⟨pv,bN⟩:=aWd d.out.own bo;have bO:wr.frozen? ⟨b.heap.size,on,gh⟩=gn:=d.out.own.frozenAt _;obtain⟨b2,bQ,rfl,bT,bp⟩:=(bm.C (s.bel.trans (d.out.bel.mono s.bel.size)) (Aj _)).cell M;obtain⟨E,bU,aD,bV,bW,_⟩:=lZ aB.out fu;injection aD with aD _ aE;subst aD;subst aE
   have bX:wr.cell? ⟨E,k,gh⟩=gj (fF fO (y:Int)):=by
    have h5:J.cell? ⟨E,k,gh⟩=gj (fF fO (y:Int)):=by
     rw[aB.cellAt k fu];simp[hH,hy]
    exact(Af (a:=⟨E,k,gh⟩) (d.out.oth E fu)).trans h5
   have HY:=fQ hy;have HO:=fQ M;have bZ:(on:Int)<(P:Int):=aC.2;clear hy M aC bn;go_wp2_with fail;go_region;go_wp2;refine⟨⟨k+1,fu,fz,fQ ⟨?_,(d.out.bel.setCell (p:=⟨b.heap.size,on,gh⟩) (Aj _) _).drew,fun j hj=>(Aq _ _ _ _ hj).trans (d.out.oth j hj),?_⟩⟩,fB⟩
   ·rw[sG _ _ _ _ _ _ HO.out HY.out,AX,<-qO];exact(d.out.own.stored on _).1
   ·exact(show(wr.setCell ⟨b.heap.size,on,gh⟩ (fF fO (y:Int))).heap.size=wr.heap.size by simp[Aw]).trans d.out.size
  ·have t1:decide ((k:Int)<K)=gn:=fw;have aF:k=K:=fu;subst aF;have ad:=aYo q.params (ie g.a1 a) (Ak P 0);rw[V.out]at ad;have aq:iS q.params (ie g.a1 a) (Ak P 0)=jb q (ie g.a1 a):=(by unfold jb;rw[W.out,AX]);have O:=d.out.own;rw[ad,aq]at O;have l:=s.C d.out.bel
   have ae:∀ j,(Ay (gj ⟨b.heap.size,0,gh⟩) P P).ownBlock=gj j->X.a8 j=0/\C.w0.heap.size<=j/\j<wr.heap.size:=fun j hj=>by
    injection hj with hj;subst hj;exact⟨gU.a6 s.tojl (Aj _),s.bel.size,(O.lt _ rfl).2⟩
   have HX:=l.lH (fG (gj ⟨b.heap.size,0,gh⟩) P P) (10+X.x.st.length) ae;have aY:=((Y.C d.out.bel).lH (v:=fG (gj ⟨b.heap.size,0,gh⟩) P P) (c:=10+X.x.st.length) (fun j hj=>fT (by injection hj with hj;rw[<-hj];exact Y.out.size)));obtain⟨AS,cS,z,bq⟩:=fJ l.stk;have Q:=l.stk;obtain⟨L,hL⟩:=fX X.x.st.length;rw[hL]at z bq Q hd;rw[z]at Q;have b0:=l.fWi;have b1:wr.cell? ⟨C.cb,12,gh⟩=gj (fG AS L cS):=(by rw[l.cell 12];simp[ja,z]);have b3:=l.cb.lt;have b4:=l.mm.lt;obtain⟨i0,br,bs,bt,aG⟩:=info_parts cWm;have KB:=l.cb.alloc (fR #[fM (gj ⟨C.zf,C.jU+i*5,gh⟩),fF fN 0,fG (gj ⟨b.heap.size,0,gh⟩) P P] 83);have aH:=fQ KB
   have aZ:(Ay AS L cS).ownBlock≠gj C.cb:=by
    intro e;have:=l.l7 C.cb (by rw[z];exact e);rw[l.cl]at this;cases this
   have aI:=fQ aZ
   have a1:(Ay AS L cS).ownBlock≠gj C.mm:=by
    intro e;have:=l.l7 C.mm (by rw[z];exact e);rw[l.ml]at this;cases this
   have a6:=fQ a1;have a7:=fQ (l.mm.alloc (fR #[fM (gj ⟨C.zf,C.jU+i*5,gh⟩),fF fN 0,fG (gj ⟨b.heap.size,0,gh⟩) P P] 83));have bu:=fQ (lJ Q (fR #[fM (gj ⟨C.zf,C.jU+i*5,gh⟩),fF fN 0,fG (gj ⟨b.heap.size,0,gh⟩) P P] 83));have bw:=fQ HX;have aJ:=fQ aY;have a8:(jb q (ie g.a1 a)).length=P:=(by rw[rj,W.out,AX]);have bz:=fQ (show wr.ownsRow C.w0.heap.size 52 1 (fG (gj ⟨b.heap.size,0,gh⟩) P P) (jb q (ie g.a1 a)).length (hH (jb q (ie g.a1 a))) by rw[a8];exact iQ O s.bel.size);have bA:=fQ z;have bB:=fQ hL;have b5:=l.bel.size;clear HX aY l a8 O Q z hL KB aZ a1 aq ad ae d s Y aW an ao aB K3 y1 y2 y3 y4 y5 s2 s3 c0 c1 c5 m0;go_wp2_with fail
   go_region_law
    ((refine step_append_lies _ (by rfl) _ _ _ (by rfl) C.w0.heap.size 83 i0 _ 3 40 underlying65 br bs bt aG rfl fu _ L (iz C X.x.st X.ps) (by rfl) (fKc bu.out) ⟨wr.heap.size,0,gh⟩ 1 1 [fM (gj ⟨C.zf,C.jU+i*5,gh⟩),fF fN 0,fG (gj ⟨b.heap.size,0,gh⟩) P P] (by rfl) (by rfl) (World.news_of_block (cs:=#[fM (gj ⟨C.zf,C.jU+i*5,gh⟩),fF fN 0,fG (gj ⟨b.heap.size,0,gh⟩) P P]) (t:=83) (fr:=(0,0)) (gO.X _ _ _ fz)) (fVo C ⟨i,q,0,[]⟩ (gj ⟨b.heap.size,0,gh⟩) P P) fu (by unfold maxLen;omega) fu fw (wr.heap.size+1) fz ?_;intro gg cap w5 ar hgrow bC bD;have b6:w5.cell? ⟨C.cb,12,gh⟩=gj X.sv:=(aH.grown (rm hgrow) aI.out).cell 12;have f12:=ik (aH.grown (rm hgrow) aI.out) 12;have km:w5.cell? ⟨C.mm,0,gh⟩=gj (fM (gj ⟨C.cb,0,gh⟩)):=(a7.grown (rm hgrow) a6.out).cell 0))
   all_goals
    go_end0;exact eVn (f:=⟨i,q,0,jb q (ie g.a1 a)⟩) bw.out aJ.out bA.out bB.out bz.out ar hgrow bC
theorem aJu(A:Option Addr)(n c addr a:Nat)(w:Bd)(hn:n<=140737488355328):
  Bg fZ 59 #[fG A n c,fF fO addr,fF fO a] w fun e w'=>e = fS (fH (qJ n addr a))/\w=w':=by
 by_cases h1:addr<=1099511627776
 ·have d:decide ((addr:Int)<=1099511627776)=gm:=fw;by_cases h2:a<=1099511627776
  ·have f:decide ((a:Int)<=1099511627776)=gm:=fw;have b:=fQ (show qJ n addr a=decide (addr+a<=n) by simp[qJ,h1,h2]);go_in;go_wp2;go_ret;rw[b.out];refine⟨?_,rfl⟩;show Ending.returned (fH (decide ((addr:Int)+(a:Int)<=(n:Int))))=_
   congr 2
   rw[Bool.eq_iff_iff];simp;omega
  ·have f:decide ((a:Int)<=1099511627776)=gn:=fw;have b:=fQ (show qJ n addr a=gn by simp[qJ,h1,h2]);clear h1 h2;go_in;go_wp2;go_ret;rw[b.out];exact⟨rfl,rfl⟩
 ·have d:decide ((addr:Int)<=1099511627776)=gn:=fw;have b:=fQ (show qJ n addr a=gn by simp[qJ,h1]);clear h1;go_in;go_wp2;go_ret;rw[b.out];exact⟨rfl,rfl⟩
theorem sP(A:Option Addr)(n c addr off:Nat)(k wd:Int)(st h:Bool)(w:Bd)(hn:n<=140737488355328)(i:0<=wd)(ad:wd<=8)(ha:addr<18446744073709551616)(ho:off<18446744073709551616):
  Bg fZ 120 #[fG A n c,.agg #[fF fN k,fF fN wd,fH st,fH h],fF fO addr,fF fO off] w fun e w'=>
   e = fS (fI #[fF fN (mJ n wd addr off).1,fF fN (mJ n wd addr off).2])/\Bf w.heap.size w w':=by
 have f:Bf w.heap.size w (w.alloc (fR #[fF fN k,fF fN wd,fH st,fH h] 171)):=(Az _ _).alloc (Aj _) _;obtain⟨a,rfl⟩:=AQ i;by_cases h1:4294967295<addr
 ·have j:decide ((4294967295:Int)<(addr:Int))=gm:=fw;have b:=fQ (show mJ n a addr off=(0,1) by simp[mJ,h1]);clear h1;go_in;go_wp2;go_ret2;rw[b.out];exact⟨rfl,f⟩
 ·have j:decide ((4294967295:Int)<(addr:Int))=gn:=fw;by_cases h2:4294967295<off
  ·have l:decide ((4294967295:Int)<(off:Int))=gm:=fw;have b:=fQ (show mJ n a addr off=(0,1) by simp[mJ,h2]);clear h2;go_in;go_wp2;go_ret2;rw[b.out];exact⟨rfl,f⟩
  ·have l:decide ((4294967295:Int)<(off:Int))=gn:=by simp;omega
   cases d:qJ n (addr+off) a with
   | true=>
    have b:=fQ (show mJ n a addr off=(((addr+off:Nat):Int),0) by simp[mJ,h1,h2,d]);have g:=fQ d;have hle:addr+off<=n:=(by simp[qJ]at d;omega);clear d;go_in;go_wp2_with fail;rw[show((addr:Int)+(off:Int))=((addr+off:Nat):Int)from by omega];refine gu (aJu A n c (addr+off) a _ hn) ?_;rw[g.out];go_wp2_with fail;go_ret2;rw[b.out];refine⟨?_,f⟩;simp
   | false=>
    have b:=fQ (show mJ n a addr off=(0,35) by simp[mJ,h1,h2,d]);have g:=fQ d;clear d;go_in;go_wp2_with fail;rw[show((addr:Int)+(off:Int))=((addr+off:Nat):Int)from by omega];refine gu (aJu A n c (addr+off) a _ hn) ?_;rw[g.out];go_wp2_with fail;go_ret2;rw[b.out];exact⟨rfl,f⟩
section
open Go.Shelf
attribute [local go_sem] Oper.semAt_some
abbrev Pl:=Nat×UInt8
def plV(x:Pl):Array Be:=#[fF fN (x.1:Int),fF fP (x.2.toNat:Int)]
def came(f:Nat->Pl)(k:Nat):List Pl:=(List.range k).map f
theorem bWl(f:Nat->Pl)(k:Nat):came f (k+1)=came f k ++ [f k]:=by simp[came,List.range_succ]
theorem cJo(f:Nat->Pl)(k:Nat):(came f k).length=k:=by simp[came]
def Kb(b a:Nat)(A B:Bd):Prop:=Bf b A B/\B.cell? ⟨a,0,gh⟩=A.cell? ⟨a,0,gh⟩
theorem Kb.refl(a b:Nat)(A:Bd):Kb a b A A:=⟨Az _ _,rfl⟩
theorem Kb.trans{a b:Nat}{A B C:Bd}(h:Kb a b A B)(c:Kb a b B C):Kb a b A C:=⟨h.1.trans c.1,c.2.trans h.2⟩
theorem Kb.put{c:Nat}(hn:c<=w.heap.size)(hB:a<w.heap.size)(W:Bd)(l:Nat)(o b:Obj)(d:w.heap.size<=l)(h:W.heap[l]? = gj o)(h1:o.isCells=gn)(h2:o.isWalk=gn):Kb c a W (W.putObj l b):=by
 refine⟨belowK_b hn W l o b d h h1 h2,Af (w:=W) ?_⟩;show(W.heap.setIfInBounds l b)[a]? = W.heap[a]?;rw[Array.getElem?_setIfInBounds_ne fu]
theorem eJi(F:Fence)(n:Nat)(t:F.fn 145)(u:F.round=gh)(hn:1<=n)(l c d b off len cap:Nat)(f:Nat->UInt8)(aa:len<=140737488355328)(w:b<d)(J m:List Pl->Bd->Prop)
    (o:∀ pre x W,J pre W->pre.length<len->YieldAt F (n - 1) fZ l (plV x) W fun e a=>
      (e = fS (fH gm)/\J (pre ++ [x]) a/\Kb d c W a)\/(e = fS (fH gn)/\m (pre ++ [x]) a))
    (W:Bd) (y:W.cell? ⟨c,0,gh⟩=gj (fG (gj ⟨b,off,gh⟩) len cap)) (hc:∀ j,j<len->W.cell? ⟨b,off+j,gh⟩=gj (fF fP ((f j).toNat:Int))) (z:J [] W) :
    CallsIn F n fZ 145 #[.func (.yield l) #[] #[],fM (gj ⟨c,0,gh⟩)] W fun e a=>(∃ v,e = fS v) /\
      ((∃ q,q=came (fun j=>(len - 1 - j,f (len - 1 - j))) len/\J q a)\/(∃ pre,(∃ k,k<=len/\pre=came (fun j=>(len - 1 - j,f (len - 1 - j))) k)/\m pre a)):=by
  refine callsIn_of_wp func145 rfl t ?_ u;simp only[ntmps145,Bv,AW,Ae,BK,BV,Ag,Ah,Bw,Ai,BQ,BJ];have A:=fQ hc;have B:=fQ o;clear hc o
  gi_wp2
  gi_loopw [3] (fun i wr=>∃ k:Nat,k<=len/\i = fF fN ((len:Int) - 1 - k)/\J (came (fun j=>(len - 1 - j,f (len - 1 - j))) k) wr/\Kb d c W wr)
    (fun i _=>(intOf i+1).toNat)
  case atStart=>exact⟨0,Bc _,fz,z,Kb.refl _ _ _⟩
  case round=>
    obtain⟨k,hk,rfl,r,g⟩:=hrel;have aq:wr.cell? ⟨c,0,gh⟩=gj (fG (gj ⟨b,off,gh⟩) len cap):=g.2.trans y;by_cases C:k<len
    · obtain⟨j,hj⟩:=fX (len - 1 - k)
      have h:(len:Int) - 1 - k=(j:Int):=fu;have D:j<len:=fu;obtain⟨fn,tmps,assign,body,E,G⟩:=B.out _ (j,f j) wr r (by rw[cJo];exact C);simp only[plV]at E;have ar:wr.cell? ⟨b,off+j,gh⟩=gj (fF fP ((f j).toNat:Int)):=(g.1.cell (p:=⟨b,off+j,gh⟩) w).trans (A.out j D);rw[h];have s:=fQ hj;have H:=fQ h;clear hj h
      gi_wp2
      refine G.mono ?_;rintro e W3 (⟨rfl,I,K⟩|⟨rfl,L⟩)
      · gi_wp2
        go_roundw
        case rel=>exact⟨k+1,fu,by have:=H.out;go_num,by rw[bWl,s.out];exact I,g.trans K⟩
        case measure=>simp[intOf]
      · gi_wp2
        refine bodyPost_ret (results_none rfl _ _ _) rfl ?_;exact⟨⟨_,rfl⟩,fU ⟨_,⟨k+1,fu,by rw[bWl,s.out]⟩,L⟩⟩
    · obtain rfl:k=len:=by omega
      gi_wp2
      go_end0;exact⟨⟨_,rfl⟩,fT ⟨_,rfl,r⟩⟩
theorem cXp(a:Option Addr)(len cap:Nat)(w:Bd):
  Bg fZ 121 #[fG a len cap] w fun e w'=>e = fS (.func (.func 145) #[] #[fM (gj ⟨w.heap.size,0,gh⟩)])/\w.alloc (fR #[fG a len cap] 31)=w':=by
 go_in;go_wp2;go_ret;exact⟨rfl,rfl⟩
def pI(l:List UInt8):List Pl:=came (fun j=>(l.length - 1 - j,l.getD (l.length - 1 - j) 0)) l.length
theorem cYe(F:Fence)(n:Nat)(h:F.fn 145)(i:F.round=gh)(hn:1<=n)(a c b off cap:Nat)(l:List UInt8)(k:l.length<=140737488355328)(w:Bd)(m:a<w.heap.size)(o:c<=w.heap.size)
  (hc:w.cell? ⟨a,0,gh⟩=gj (fG (gj ⟨b,off,gh⟩) l.length cap)) (d:b<c) (r:∀ j,j<l.length->w.cell? ⟨b,off+j,gh⟩=gj (fF fP ((l.getD j 0).toNat:Int))) :
  SeqStopsK F n fZ 145 #[fM (gj ⟨a,0,gh⟩)] plV (Kb c a) (fun f=>f=pI l) (fun _=>True) l.length w:=fun q J s W g _ _ t u=>by
 have v:=(g.cell (p:=⟨a,0,gh⟩) m).trans hc;refine(eJi F n h i hn q a c b off l.length cap (fun j=>l.getD j 0) k d J s t W v (fun j hj=>(g.cell (p:=⟨b,off+j,gh⟩) (Ax d o)).trans (r j hj)) u).mono ?_;rintro e W' ⟨he,⟨f,rfl,hj⟩|⟨pre,_,hj⟩⟩
 ·exact⟨he,fT ⟨_,rfl,hj⟩⟩
 ·exact⟨he,fU ⟨_,trivial,hj⟩⟩
end
section
open Go.Shelf
attribute [local go_sem] Oper.semAt_some
def nC(a:List Pl):Int:=a.foldl (fun q x=>bits .or fO (IntKind.u64.wrap (q*256)) (x.2.toNat:Int)) 0
theorem cYf(a:List Pl)(x:Pl):nC (a ++ [x])=bits .or fO (IntKind.u64.wrap (nC a*256)) (x.2.toNat:Int):=by simp[nC]
theorem cKk(W:Bd)(v:Be)(t:TypeId):(W.alloc (fR #[v] t)).cell? ⟨W.heap.size,0,gh⟩=gj v/\(W.alloc (fR #[v] t)).frozen? ⟨W.heap.size,0,gh⟩=gn:=
 ⟨cell_of_row _ W.heap.size 0 #[v] t (0,0) (heap_alloc_new W _),frozen_of_row _ W.heap.size 0 #[v] t (heap_alloc_new W _)⟩
theorem eJk{W:Bd}{a:Addr}(o:Obj)(h:W.cell? a=gj v/\W.frozen? a=gn):(W.alloc o).cell? a=gj v/\(W.alloc o).frozen? a=gn:=
 ⟨cell_kept h.1 (Bj W o gh) (fun r e=>by cases e),(frozen_kept h.1 (Bj W o gh) (fun r e=>by cases e)).trans h.2⟩
theorem eWn(b o n c addr off at_ a:Nat)(op k:Int)(f:Bool)(l:List UInt8)(w:Bd)(y:acc op=gj (k,(a:Int),gn,f))(hn:n<=140737488355328)
    (ha:addr<18446744073709551616) (S:off<18446744073709551616) (T:b<w.heap.size) (ay:n<=c) (hp:mJ n a addr off=((at_:Int),0))
    (F:l.length=a) (az:at_+a<=n) (G:∀ j,j<a->w.cell? ⟨b,o+at_+j,gh⟩=gj (fF fP ((l.getD j 0).toNat:Int))) :
    CallsIn Fence.wide 10 fZ 92 #[fG (gj ⟨b,o,gh⟩) n c,fF fN op,fF fO addr,fF fO off] w fun e w'=>e = fS (fI #[fF fO (vW k a f (nC (pI l))),fF fN 0])/\Bf w.heap.size w w':=by
  obtain⟨H,I,_,_⟩:=mK y;have aA:1<=a:=fu;have aB:a<=8:=fu;have aC:=oz y;have J:=fQ hp;have L:=fQ G;have z:=fQ F;have HK:=fQ H;have aD:=fQ I;clear hp G y F H I;refine callsIn_of_wp_marks func92 rfl trivial ?_ rfl;simp only[ntmps92,Bv,AW,Ae,BK,BV,Ag,Ah,Bw,Ai,BQ,BJ]
  gi_wp2_with fail
  refine⟨trivial,?_⟩;refine(callsIn_wide.2 (pJ _)).mono ?_;rintro e w1 ⟨rfl,rfl⟩
  gi_wp2_with fail
  refine⟨trivial,?_⟩;refine(callsIn_wide.2 (sP _ n c addr off k a false f _ hn (by omega) (by omega) ha S)).mono ?_;rintro e w1 ⟨rfl,i⟩;rw[J.out];obtain⟨m,U⟩:=cKz i;have aE:w.heap.size+1+1<=w1.heap.size:=(by have:=i.size;simpa using this);have M:=fQ (show Bf w.heap.size w w1 from(((Az _ _).alloc (Aj _) _).alloc fz _).trans (i.mono fw));clear i;have C:w.heap.size+1<w1.heap.size:=fu;have an:at_+a - at_=a:=fu;have ao:¬c=at_:=fu
  gi_wp2_with fail
  refine⟨trivial,?_⟩;refine(callsIn_wide.2 (cXp _ a (c - at_) _)).mono ?_;rintro e w2 ⟨rfl,rfl⟩
  gi_wp2_with fail
  have N:=fQ (show Bf w.heap.size w ((w1.alloc (fR #[fF fO 0] 52)).alloc (fR #[fG (gj ⟨b,o+at_,gh⟩) a (c - at_)] 31))from(M.alloc fu _).alloc fw _);have O:=cKk w1 (fF fO 0) 52;have c1:=cKk (w1.alloc (fR #[fF fO 0] 52)) (fG (gj ⟨b,o+at_,gh⟩) a (c - at_)) 31;simp only[World.size_alloc]at c1
  apply wpIn_rangeFunc_ownF rfl fu (gf:=145) (lb:=#[fM (gj ⟨w1.heap.size+1,0,gh⟩)]) rfl trivial (enters_of func145 fx rfl)
    (cYe Fence.wide (10 - 1) trivial rfl fu (w1.heap.size+1) w1.heap.size b (o+at_) (c - at_) l (by rw[z.out];omega) _ fz fw (by rw[z.out];exact c1.1) fu
      (fun j hj=>(N.cell (p:=⟨b,o+at_+j,gh⟩) T).trans (L.out j (by rw[<-z.out];exact hj)))) Kb.trans (Kb.put fw fz) (Az _ _) (fun _=>rfl)
    (fun pre W=>(W.cell? ⟨w1.heap.size,0,gh⟩=gj (fF fO (nC pre))/\W.frozen? ⟨w1.heap.size,0,gh⟩=gn)/\Bf w1.heap.size w1 W)
    (fun _ _ _=>False)
    (OwnFrom.and (Own.from (fun s A B row hs hg P=>⟨cell_kept hs.1 hg P,(frozen_kept hs.1 hg P).trans hs.2⟩) _) (ownFrom_below (Aj _) fw))
    (fun _ _ _ _ _ hs _ _=>hs)
    ⟨eJk _ O,((Az _ _).alloc (Aj _) _).alloc fz _⟩
  case hassign=>
    intro l x W K E;simp only[plV]
    gi_wp2
    exact E
  case hbody=>
    rintro l pre x W ⟨⟨hc,hf⟩,d⟩ _
    gi_wp2
    have aF:(x.2.toNat:Int)<256:=(by have:=x.2.toNat_lt;omega);refine⟨KeepsOthers.setCell _ _ _,⟨(Az w1.heap.size W).setCell (p:=⟨w1.heap.size,0,gh⟩) (Aj _) _,?_⟩,⟨?_,by rw[World.frozen?_setCell];exact hf⟩,d.setCell (p:=⟨w1.heap.size,0,gh⟩) (Aj _) _⟩
    · apply World.cell?_setCell_other;simp
    · rw[cYf,show IntKind.u64.wrap (x.2.toNat:Int)=(x.2.toNat:Int)from qZ fu]
      exact World.cell?_setCell_same' _ _ _ (by rw[hc];rfl)
  case hdone=>
    rintro D ys W Q rfl ⟨⟨hc,hf⟩,d⟩ E;have V:=(d.cell (p:=⟨w.heap.size+1,0,gh⟩) C).trans (m (w.heap.size+1) 0 fz);have X:=(d.cell (p:=⟨w.heap.size+1,1,gh⟩) C).trans (m (w.heap.size+1) 1 fz);have Y:=(d.cell (p:=⟨w.heap.size+1,3,gh⟩) C).trans (m (w.heap.size+1) 3 fz);simp at V X Y;have aG:w1.heap.size+1+1<=D:=(by simpa using Q);have r:=fQ (show Bf w.heap.size w W from M.trans (d.mono fu));clear m U O c1 N Q d J L
    have fin:∀ (g:Bd) (q:Int) (v:Array Be),KeepsOthers W g->Bf w.heap.size w g->v.getD 8 undef = fF fO q->v.getD 9 undef = fF fN 0->q=vW k a f (nC (pI l)) ->
        bodyPostM Fence.wide 10 fZ Tryz.f92 (fun e w'=>e = fS (fI #[fF fO (vW k a f (nC (pI l))),fF fN 0])/\Bf w.heap.size w w') Exit.ret { tmps:=v,defers:=[{ target:=.collected D,args:=#[] }] } g:=by
      intro g q v Z ax h8 h9 hq;have R:=Z.same D _ E rfl;refine⟨fz,fT ⟨_,_,rfl,run_takeDeferred R,?_⟩⟩;refine⟨_,results_tmp2 (t:=8) (u:=9) rfl _ _ _,by rw[h8,h9,hq],ax.trans (belowK_b (w:=w) (Aj _) g D _ _ fu R rfl rfl)⟩
    gi_wp2
    · rename_i h1 h2
      refine fin _ _ _ ((KeepsOthers.setCell _ _ _).trans (KeepsOthers.setCell _ _ _)) ((r.setCell (p:=⟨w1.heap.size,0,gh⟩) fw _).setCell (p:=⟨w1.heap.size,0,gh⟩) fw _) rfl rfl ?_;rw[h1,vW,nc,gz (eq_of_beq h2),gz rfl,qL]
    · rename_i h1 h2
      refine fin _ _ _ (KeepsOthers.setCell _ _ _) (r.setCell (p:=⟨w1.heap.size,0,gh⟩) fw _) rfl rfl ?_;rw[h1,vW,nc,gy (ne_of_beq_false h2),gz rfl,qL]
    · rename_i h1 h2
      refine fin _ _ _ (KeepsOthers.setCell _ _ _) (r.setCell (p:=⟨w1.heap.size,0,gh⟩) fw _) rfl rfl ?_;rw[h1,vW,nc,gz (eq_of_beq h2),gy fy]
    · rename_i h1 h2
      refine fin _ _ _ (KeepsOthers.refl _) r.out rfl rfl ?_;rw[h1,vW,nc,gy (ne_of_beq_false h2),gy fy]
  case hstop=>
    rintro D c pre W _ _ h _;exact h.elim
theorem bYf(l:List UInt8):(pI l).map (·.2)=l.reverse:=by
 unfold pI came;apply List.ext_getElem?;intro i;by_cases hi:i<l.length
 ·have a:l.length - 1 - i<l.length:=fu;simp[hi,Aa,a]
 ·simp[Nat.not_lt.1 hi]
theorem eJl(a:List Pl):nC a=(a.map (·.2)).foldl (fun q x=>bits .or fO (IntKind.u64.wrap (q*256)) (x.toNat:Int)) 0:=by
 rw[nC,List.foldl_map]
theorem cYg:∀ l:List UInt8,l.length<=8->nC (pI l)=(lr (l.map AK):Int):=by
 intro l c;rw[eJl,bYf]
 induction l with
 | nil=>rfl
 | cons b l d=>
  have e:l.length<=7:=(by simpa using c);rw[List.reverse_cons,List.foldl_append,d fu];have h1:=sj (l.map AK) (fun x a=>by simp at a;obtain⟨y,_,rfl⟩:=a;exact y.toNat_lt);have h2:256 ^ (l.map AK).length<=256 ^ 7:=Nat.pow_le_pow_right fu (by simpa using e);have hb:=b.toNat_lt;have h3:(lr (l.map AK):Nat)<72057594037927936:=Ax h1 h2;simp only[List.foldl_cons,List.foldl_nil,List.map_cons,lr];rw[show((lr (l.map AK):Int)*256)=((lr (l.map AK)*256:Nat):Int)from by simp,qZ fu]
  rw[aVc fu fu,show lr (l.map AK)*256 ||| b.toNat=b.toNat+256*lr (l.map AK)from by
   rw[show(256:Nat)=2 ^ 8 from rfl,Nat.mul_comm,<-Nat.two_pow_add_eq_or_of_lt fu];omega]
theorem eJm(A:Option Addr)(n c addr off:Nat)(op:Int)(m:List Nat)(w:Bd)(hs:Src w A n (jv m))(h:jw m)(u:n<=c)(hn:n<=140737488355328)
  (ha:addr<18446744073709551616) (i:off<18446744073709551616) :
  Bg fZ 92 #[fG A n c,fF fN op,fF fO addr,fF fO off] w fun e w'=>e = fS (fI #[fF fO (oK m op addr off).1,fF fN (oK m op addr off).2])/\Bf w.heap.size w w':=by
 have d:m.length=n:=by have:=hs.1;rwa[ox]at this
 cases a:acc op with
 | none=>
  have f:=fQ (show oK m op addr off=(0,1) by simp[oK,a]);have l:=aYg a;clear a hs d;go_in;go_wp2_with fail;refine(pJ _).mono ?_;rintro e w1 ⟨rfl,rfl⟩;go_wp2;go_ret2;rw[f.out];exact⟨rfl,((Az _ _).alloc (Aj _) _).alloc (by simp) _⟩
 | some r=>
  obtain⟨k,wd,st,p⟩:=r;obtain⟨hk,ak,_,_⟩:=mK a
  cases st with
  | true=>
   have f:=fQ (show oK m op addr off=(0,1) by simp[oK,a]);have l:=oz a;clear a hs d;go_in;go_wp2_with fail;refine(pJ _).mono ?_;rintro e w1 ⟨rfl,rfl⟩;go_wp2;go_ret2;rw[f.out];exact⟨rfl,((Az _ _).alloc (Aj _) _).alloc (by simp) _⟩
  | false=>
   by_cases hp:(mJ n wd addr off).2=0
   ·obtain⟨v,q,_,_⟩:=aKx hp;obtain⟨g,rfl⟩:=AQ (show 0<=wd by omega);simp only[AX]at q;obtain⟨b,o,rfl,y,_⟩:=hs.2 fu;have s:(((m.drop (addr+off)).take g).map UInt8.ofNat).length=g:=fw;have z:jw ((m.drop (addr+off)).take g):=fun x t=>h x (List.mem_of_mem_drop (List.mem_of_mem_take t));refine((callsIn_wide (n:=10)).1 (eWn b o n c addr off (addr+off) g op k p _ w a hn ha i y u v s q ?_)).mono ?_
    ·intro j hj;have:=hs.at_ (k:=addr+off+j) fu;rw[show o+(addr+off)+j=o+(addr+off+j)from by omega,this,cJt];have t:=h.get (k:=addr+off+j) fu;simp[hj,Aa,show addr+off+j<m.length from by omega];omega
    ·rintro e w' ⟨rfl,B⟩;refine⟨?_,B⟩;rw[cYg _ (by rw[s];omega),eWa z];simp[oK,a,d,hp]
   ·have f:=fQ (show oK m op addr off=(0,(mJ n wd addr off).2) by simp[oK,a,d,hp]);have al:((mJ n wd addr off).2 != 0)=true:=(by simpa using hp);have l:=oz a;clear a hs d hp;go_in;go_wp2_with fail;refine(pJ _).mono ?_;rintro e w1 ⟨rfl,rfl⟩;go_wp2_with fail;refine(sP _ n c addr off k wd false p _ hn (by omega) (by omega) ha i).mono ?_;rintro e w1 ⟨rfl,C⟩;go_wp2;go_ret2;rw[f.out];exact⟨rfl,(((Az _ _).alloc (Aj _) _).alloc fz _).trans (C.mono fw)⟩
end
section
open Go.Shelf
attribute [local go_sem] Oper.semAt_some
theorem cXq:(fZ.info? 5).map (fun i=>(i.zero,i.size,i.bytes))=gj (gj (fF fP 0),1,1):=fx
theorem pL(A:Option Addr)(n c:Nat)(m:List Nat)(w:Bd)(hs:Src w A n (jv m))(d:A=gh->n=0/\c=0)(hn:n<=140737488355328):
  Bg fZ 47 #[fG A n c] w fun e w'=>∃ v,e = fS v/\w'.ownsRow w.heap.size 5 1 v n (jv m)/\Bf w.heap.size w w':=by
 have aa:∀ (w:Bd) (a:Option Addr) (n c f g:Nat),(binOp .eql 31 (fG a n c) (fG gh f g)).run fZ w = .ok (fH a.isNone) w:=fun w a n c f g=>Lib.run_eql_slice_nil w 31 5 a n c f g underlying31;rcases A with _|⟨b,o,sp⟩
 ·obtain⟨rfl,rfl⟩:=d rfl;have j:m = []:=(by have:=hs.1;simpa[jv]using this);subst j;clear d hs;go_in;go_wp2;go_ret;exact⟨_,rfl,Ac _ _ _ _,Az _ _⟩
 ·have k:=fQ (hs.C (w':=w.alloc (fR #[] 5)) ((Az _ _).alloc (Aj _) _) (Aj _));clear hs d;go_in;go_wp2_with (at_builtin;refine qv _ rfl _ (.tmp 6) 31 rfl w.heap.size 5 _ 1 underlying31 cXq rfl _ 0 [] rfl (Bk w #[] 0 (Aj _) (by unfold maxLen;omega) rfl) _ n c _ rfl k.out (nI _) (by unfold maxLen;omega) fu fz ?_);rintro v' w' h i;have l:=fQ h;have p:=fQ i;clear h i;go_wp2;go_ret;exact⟨_,rfl,l.out,((Az _ _).alloc (Aj _) _).trans p.out⟩
theorem eJj(A:Option Addr)(n c:Nat)(m:List Nat)(most:Int)(a:Nat)(w:Bd)(hs:Src w A n (jv m))(y:A=gh->n=0/\c=0)(hn:n<=140737488355328)
  (aj : -9223372036854775808<=most) (ak:most<=9223372036854775807) (hp:a<18446744073709551616) :
  Bg fZ 89 #[fG A n c,fF fN most,fF fO a] w fun e w'=>∃ i j,e = fS (fI #[fG i (lX m most a).length j,fF fO (rV n most a)]) /\
   w'.ownsRow w.heap.size 5 1 (fG i (lX m most a).length j) (lX m most a).length (jv (lX m most a))/\Bf w.heap.size w w':=by
 have z:m.length=n:=(by have:=hs.1;rwa[ox]at this);have k:=fQ hs;have l:=fQ y;have o:=fQ z;clear hs y z;by_cases hg:yZ n most a=gm
 ·have p:=fQ (show lX m most a=m++Ak (256*a) 0 by simp[lX,o.out,hg]);have r:=fQ (show rV n most a=n / 256 by simp[rV,hg]);simp only[yZ,decide_eq_true_eq]at hg;obtain⟨h1,h2⟩:=hg;have C:(n:Int)+256*a<=most:=fu;have h4:n+256*a<=4096:=fu;clear h2;have h5:(n:Int) % 256=0:=fu
  have fin:∀ (w1:Bd) (v:Be) (h:Array Be),w1.ownsRow w.heap.size 5 1 v (n+256*a) (jv m++Ak (256*a) (fF fP 0))->Bf w.heap.size w w1->h.getD 6 undef=v->h.getD 7 undef = fF fO ((n / 256:Nat):Int) ->
    bodyPost fZ Tryz.f89 (fun e w'=>∃ i j,e = fS (fI #[fG i (lX m most a).length j,fF fO (rV n most a)]) /\
     w'.ownsRow w.heap.size 5 1 (fG i (lX m most a).length j) (lX m most a).length (jv (lX m most a))/\Bf w.heap.size w w') Exit.ret { tmps:=h,defers:=[] } w1:=by
   intro w1 v h f g s t;refine bodyPost_ret (results_tmp2 rfl _ _ _) rfl ?_;obtain⟨i,j,rfl,_⟩:=fJ f;have B:(lX m most a).length=n+256*a:=(by rw[p.out];simp[o.out]);refine⟨i,j,?_,?_,g⟩
   ·rw[B,r.out];show Ending.returned (fI #[h.getD 6 undef,h.getD 7 undef])=_;rw[s,t]
   ·rw[B,p.out,cJs,show jv (Ak (256*a) 0)=Ak (256*a) (fF fP 0)from by simp[jv]];exact f
  rcases Int.lt_or_le most 4096 with D|D
  ·go_in;go_wp2_with fail;refine(pL A n c m _ k.out l.out hn).mono ?_;rintro e w1 ⟨v,rfl,b,d⟩;have f:=fQ b;have g:=fQ d;clear b d;go_wp2_with (at_builtin;refine aZh _ rfl _ (.tmp 38) 31 3 rfl w.heap.size 5 (fF fP 0) 1 fN underlying31 underlying3 cXq rfl rfl _ n (jv m) rfl f.out fN (256*a) _ fu rfl (by unfold maxLen;omega) fu g.out.size ?_)
   all_goals
    rintro v' w' b d;have u:=fQ b;have x:=fQ d;clear b d f;go_wp2;refine fin _ _ _ u.out (g.trans x.out) rfl ?_;show BW fO _ = fF fO _
    first|rfl|(congr 1;omega)
  ·go_in;go_wp2_with fail;refine(pL A n c m _ k.out l.out hn).mono ?_;rintro e w1 ⟨v,rfl,b,d⟩;have f:=fQ b;have g:=fQ d;clear b d;go_wp2_with (at_builtin;refine aZh _ rfl _ (.tmp 38) 31 3 rfl w.heap.size 5 (fF fP 0) 1 fN underlying31 underlying3 cXq rfl rfl _ n (jv m) rfl f.out fN (256*a) _ fu rfl (by unfold maxLen;omega) fu g.out.size ?_)
   all_goals
    rintro v' w' b d;have u:=fQ b;have x:=fQ d;clear b d f;go_wp2;refine fin _ _ _ u.out (g.trans x.out) rfl ?_;show BW fO _ = fF fO _
    first|rfl|(congr 1;omega)
 ·have q:yZ n most a=gn:=(by simpa using hg);have p:=fQ (show lX m most a=m by simp[lX,o.out,q]);have r:=fQ (show rV n most a=4294967295 by simp[rV,q])
  have E:n % 256≠0\/((n % 256=0/\min most 4096<(n:Int))\/(n % 256=0/\(n:Int)<=min most 4096/\min most 4096<(n:Int)+256*a)):=by
   simp[yZ]at q;omega
  clear hg q
  have fin:∀ (w1:Bd) (v:Be) (h:Array Be),w1.ownsRow w.heap.size 5 1 v n (jv m)->Bf w.heap.size w w1->h.getD 6 undef=v->h.getD 7 undef = fF fO 4294967295 ->
    bodyPost fZ Tryz.f89 (fun e w'=>∃ i j,e = fS (fI #[fG i (lX m most a).length j,fF fO (rV n most a)]) /\
     w'.ownsRow w.heap.size 5 1 (fG i (lX m most a).length j) (lX m most a).length (jv (lX m most a))/\Bf w.heap.size w w') Exit.ret { tmps:=h,defers:=[] } w1:=by
   intro w1 v h f g s t;refine bodyPost_ret (results_tmp2 rfl _ _ _) rfl ?_;obtain⟨i,j,rfl,_⟩:=fJ f;refine⟨i,j,?_,?_,g⟩
   ·rw[p.out,r.out,o.out];show Ending.returned (fI #[h.getD 6 undef,h.getD 7 undef])=_;rw[s,t];rfl
   ·rw[p.out,o.out];exact f
  rcases E with h1|⟨h1,h2⟩|⟨h1,h2,C⟩
  ·go_in;go_wp2_with fail;refine(pL A n c m _ k.out l.out hn).mono ?_;rintro e w1 ⟨v,rfl,b,d⟩;have f:=fQ b;have g:=fQ d;clear b d;go_wp2_with fail
   all_goals first|exact fin _ _ _ f.out g.out rfl rfl|(exfalso;omega)|skip
  ·go_in;go_wp2_with fail;refine(pL A n c m _ k.out l.out hn).mono ?_;rintro e w1 ⟨v,rfl,b,d⟩;have f:=fQ b;have g:=fQ d;clear b d;go_wp2_with fail
   all_goals first|exact fin _ _ _ f.out g.out rfl rfl|(exfalso;omega)|skip
  ·go_in;go_wp2_with fail;refine(pL A n c m _ k.out l.out hn).mono ?_;rintro e w1 ⟨v,rfl,b,d⟩;have f:=fQ b;have g:=fQ d;clear b d;go_wp2_with fail
   all_goals first|exact fin _ _ _ f.out g.out rfl rfl|(exfalso;omega)|skip
end
section
open Go.Shelf
attribute [local go_sem] Oper.semAt_some
def eKk(w0:Bd)(base g n c b:Nat)(m:List Nat)(a N:Nat)(d i:Be)(wr:Bd):Prop:=
 ∃ k:Nat,k<=b/\i = fF fN k/\d = fF fO ((N / 256 ^ k:Nat):Int)/\Hid (wr.ownsRow base 5 1 (fG (gj ⟨g,0,gh⟩) n c) n (jv (mj m a N k)))/\Hid (Bf base w0 wr)
theorem eJn(A:Option Addr)(n c addr off N a:Nat)(op k:Int)(B:Bool)(m:List Nat)(w:Bd)(C:acc op=gj (k,(a:Int),gm,B))(hs:Src w A n (jv m))(L:A=gh->n=0/\c=0)(hn:n<=140737488355328)
  (ha:addr<=4294967295) (ho:off<=4294967295) (M:N<18446744073709551616) (aI:addr+off+a<=n) (hp:mJ n a addr off=(((addr+off:Nat):Int),0)) (O:¬(k=127/\4294967295<N)) :
  Bg fZ 90 #[fG A n c,fF fN op,fF fO addr,fF fO off,fF fO N] w fun e w'=>∃ P Q,e = fS (fI #[fG P n Q,fF fN 0])/\w'.ownsRow w.heap.size 5 1 (fG P n Q) n (jv (mj m (addr+off) N a))/\Bf w.heap.size w w':=by
 obtain⟨V,W,_,_⟩:=mK C;have aJ:1<=a:=fu;have aK:a<=8:=fu;have aL:=oz C;have R:m.length=n:=(by have:=hs.1;rwa[ox]at this);have HM:=fQ R;have S:=fQ hs;have T:=fQ L;have U:=fQ hp;have aM:=fQ O
 have key:(k == 127)=gn\/((k == 127)=gm/\decide (4294967295<(N:Int))=gn):=by
  by_cases h:k=127
  ·exact fU ⟨by simp[h],by simp;omega⟩
  ·exact .inl (by simp[h])
 clear C hs L hp O V W R;rcases key with X|⟨X,aN⟩
 ·go_in;go_wp2_with fail;refine(pJ _).mono ?_;rintro e w1 ⟨rfl,rfl⟩;go_wp2_with fail;refine(sP _ n c addr off k a true B _ hn (by omega) (by omega) (by omega) (by omega)).mono ?_;rintro e w1 ⟨rfl,d⟩;rw[U.out];obtain⟨s,D⟩:=cKz d;have Y:w.heap.size+1+1<=w1.heap.size:=(by have:=d.size;simpa using this);have f:=fQ (show Bf w.heap.size w w1 from(((Az _ _).alloc (Aj _) _).alloc fz _).trans (d.mono fw));clear d;have E:=fQ (S.C f.out (Aj _));have t:w.heap.size+1<w1.heap.size:=fu;go_wp2_with fail;refine(pL A n c m _ E.out T.out hn).mono ?_;rintro e w2 ⟨v,rfl,o,q⟩;obtain⟨g,F,rfl,Z,G,_⟩:=lZ o fu;have u:=(q.cell (p:=⟨w.heap.size+1,1,gh⟩) t).trans (s (w.heap.size+1) 1 fz);simp at u;have y:=fQ o;have H:=fQ (Az w1.heap.size w2);have I:=fQ q;clear o q s D;go_wp2_with fail;go_loopw [4,17,55] (fun J _ i wr=>eKk w2 w1.heap.size g n F a m (addr+off) N J i wr) (fun _ _ i _=>a+1 - (intOf i).toNat)
  case atStart=>exact⟨0,fu,rfl,fz,y,H⟩
  case round=>
   clear y;obtain⟨j,hj,rfl,rfl,b,r⟩:=hrel;have ax:=(r.out.cell (p:=⟨w.heap.size+1,1,gh⟩) t).trans u;by_cases K:j<a
   ·have az:decide ((j:Int)<(a:Int))=gm:=(by simpa using K);have aA:wr.frozen? ⟨g,addr+off+j,gh⟩=gn:=b.out.frozenAt _
    obtain⟨v,hcell⟩:∃ v,wr.cell? ⟨g,addr+off+j,gh⟩=gj v:=by
     have hl:=b.out.1;rw[b.out.cellAt (addr+off+j) fu];exact⟨_,Av fu⟩
    obtain⟨x,l⟩:=fX (N / 256 ^ j);have aH:x<18446744073709551616:=(by rw[<-l];exact Bq (BX _ _) M);rw[l];have z:=fQ l;clear l;go_wp2;refine⟨⟨j+1,fu,fz,?_,?_,fQ (r.out.setCell (p:=⟨g,addr+off+j,gh⟩) G _)⟩,fB⟩
    ·rw[Ba,<-Ad,z.out];rfl
    ·refine fQ ?_;rw[mj,z.out,<-bKh];exact(b.out.stored (addr+off+j) (fF fP ((x % 256:Nat):Int))).1
   ·obtain rfl:j=a:=fu;go_wp2;go_ret2;exact⟨_,_,rfl,iQ b.out f.out.size,f.out.trans ((I.out.trans r.out).mono f.out.size)⟩
 ·go_in;go_wp2_with fail;refine(pJ _).mono ?_;rintro e w1 ⟨rfl,rfl⟩;go_wp2_with fail;refine(sP _ n c addr off k a true B _ hn (by omega) (by omega) (by omega) (by omega)).mono ?_;rintro e w1 ⟨rfl,d⟩;rw[U.out];obtain⟨s,D⟩:=cKz d;have Y:w.heap.size+1+1<=w1.heap.size:=(by have:=d.size;simpa using this);have f:=fQ (show Bf w.heap.size w w1 from(((Az _ _).alloc (Aj _) _).alloc fz _).trans (d.mono fw));clear d;have E:=fQ (S.C f.out (Aj _));have t:w.heap.size+1<w1.heap.size:=fu;go_wp2_with fail;refine(pL A n c m _ E.out T.out hn).mono ?_;rintro e w2 ⟨v,rfl,o,q⟩;obtain⟨g,F,rfl,Z,G,_⟩:=lZ o fu;have u:=(q.cell (p:=⟨w.heap.size+1,1,gh⟩) t).trans (s (w.heap.size+1) 1 fz);simp at u;have y:=fQ o;have H:=fQ (Az w1.heap.size w2);have I:=fQ q;clear o q s D;go_wp2_with fail;go_loopw [4,17,55] (fun J _ i wr=>eKk w2 w1.heap.size g n F a m (addr+off) N J i wr) (fun _ _ i _=>a+1 - (intOf i).toNat)
  case atStart=>exact⟨0,fu,rfl,fz,y,H⟩
  case round=>
   clear y;obtain⟨j,hj,rfl,rfl,b,r⟩:=hrel;have ax:=(r.out.cell (p:=⟨w.heap.size+1,1,gh⟩) t).trans u;by_cases K:j<a
   ·have aA:wr.frozen? ⟨g,addr+off+j,gh⟩=gn:=b.out.frozenAt _
    obtain⟨v,hcell⟩:∃ v,wr.cell? ⟨g,addr+off+j,gh⟩=gj v:=by
     have hl:=b.out.1;rw[b.out.cellAt (addr+off+j) fu];exact⟨_,Av fu⟩
    obtain⟨x,l⟩:=fX (N / 256 ^ j);rw[l];have z:=fQ l;clear l;go_wp2;refine⟨⟨j+1,fu,fz,?_,?_,fQ (r.out.setCell (p:=⟨g,addr+off+j,gh⟩) G _)⟩,fB⟩
    ·rw[Ba,<-Ad,z.out];rfl
    ·refine fQ ?_;rw[mj,z.out,<-bKh];exact(b.out.stored (addr+off+j) (fF fP ((x % 256:Nat):Int))).1
   ·obtain rfl:j=a:=fu;go_wp2;go_ret2;exact⟨_,_,rfl,iQ b.out f.out.size,f.trans ((I.trans r.out).mono f.out.size)⟩
theorem dVo(A:Option Addr)(n c addr off N:Nat)(op:Int)(m:List Nat)(w:Bd)(hs:Src w A n (jv m))(i:A=gh->n=0/\c=0)(hn:n<=140737488355328)
  (ha:addr<18446744073709551616) (y:off<18446744073709551616) (z:N<18446744073709551616) :
  Bg fZ 90 #[fG A n c,fF fN op,fF fO addr,fF fO off,fF fO N] w fun e w'=>∃ j l,e = fS (fI #[fG j (lQ m op addr off N).length l,fF fN (lV n op addr off N)]) /\
   w'.ownsRow w.heap.size 5 1 (fG j (lQ m op addr off N).length l) (lQ m op addr off N).length (jv (lQ m op addr off N))/\Bf w.heap.size w w':=by
 have b:m.length=n:=by have:=hs.1;rwa[ox]at this
 have bad:∀ E:Int,E≠0->lV n op addr off N=E->∀ (w':Bd) (g:Array Be),g.getD 10 undef = fG gh 0 0->g.getD 11 undef = fF fN E->Bf w.heap.size w w' ->
   bodyPost fZ Tryz.f90 (fun e w'=>∃ j l,e = fS (fI #[fG j (lQ m op addr off N).length l,fF fN (lV n op addr off N)]) /\
    w'.ownsRow w.heap.size 5 1 (fG j (lQ m op addr off N).length l) (lQ m op addr off N).length (jv (lQ m op addr off N))/\Bf w.heap.size w w') Exit.ret { tmps:=g,defers:=[] } w':=by
  intro E p s w' g B e2 C;have o:lQ m op addr off N = []:=(by rw[lQ,b,s,gy p]);refine bodyPost_ret (results_tmp2 (t:=10) (u:=11) rfl _ _ _) rfl ⟨gh,0,?_,?_,C⟩
  ·rw[o,s];show Ending.returned (fI #[g.getD 10 undef,g.getD 11 undef])=_;rw[B,e2];rfl
  ·rw[o];exact Ac _ _ _ _
 cases a:acc op with
 | none=>
  have d:=fQ (show lV n op addr off N=1 by simp[lV,a]);have q:=aYg a;clear a hs b i;go_in;go_wp2_with fail;refine(pJ _).mono ?_;rintro e w1 ⟨rfl,rfl⟩;go_wp2;exact bad 1 (by decide) d.out _ _ rfl rfl (((Az _ _).alloc (Aj _) _).alloc (by simp) _)
 | some r=>
  obtain⟨k,wd,st,v⟩:=r;obtain⟨hk,an,_,_⟩:=mK a
  cases st with
  | false=>
   have d:=fQ (show lV n op addr off N=1 by simp[lV,a]);have q:=oz a;clear a hs b i;go_in;go_wp2_with fail;refine(pJ _).mono ?_;rintro e w1 ⟨rfl,rfl⟩;go_wp2;exact bad 1 (by decide) d.out _ _ rfl rfl (((Az _ _).alloc (Aj _) _).alloc (by simp) _)
  | true=>
   by_cases f:k=127/\4294967295<N
   ·have d:=fQ (show lV n op addr off N=1 by simp[lV,a,f]);have q:=oz a;have g1:(k == 127)=true:=(by simp[f.1]);have g2:decide (4294967295<(N:Int))=true:=(by simp;omega);clear a hs b i f;go_in;go_wp2_with fail;refine(pJ _).mono ?_;rintro e w1 ⟨rfl,rfl⟩;go_wp2;exact bad 1 (by decide) d.out _ _ rfl rfl (((Az _ _).alloc (Aj _) _).alloc (by simp) _)
   ·by_cases hp:(mJ n wd addr off).2=0
    ·obtain⟨D,F,G,H⟩:=aKx hp;have p:lV n op addr off N=0:=(by simp[lV,a,f,hp]);obtain⟨x,rfl⟩:=AQ (show 0<=wd by omega);have o:lQ m op addr off N=mj m (addr+off) N x:=(by simp[lQ,b,p,eZm,a]);have I:(lQ m op addr off N).length=n:=(by rw[o,qM,b]);rw[I,o,p];exact eJn A n c addr off N x op k v m w a hs i hn G H z (by simpa using F) D f
    ·have d:=fQ (show lV n op addr off N=(mJ n wd addr off).2 by simp[lV,a,f]);have ao:((mJ n wd addr off).2 != 0)=gm:=(by simpa using hp);have q:=oz a;have J:=fQ hp
     have key:(k == 127)=gn\/((k == 127)=gm/\decide (4294967295<(N:Int))=gn):=by
      by_cases h:k=127
      ·exact fU ⟨by simp[h],fw⟩
      ·exact .inl (by simp[h])
     clear a hs b hp i f;rcases key with K|⟨K,aq⟩
     all_goals
      go_in;go_wp2_with fail;refine(pJ _).mono ?_;rintro e w1 ⟨rfl,rfl⟩;go_wp2_with fail;refine(sP _ n c addr off k wd true v _ hn (by omega) (by omega) ha y).mono ?_;rintro e w1 ⟨rfl,L⟩;go_wp2;exact bad _ J.out d.out _ _ rfl rfl ((((Az _ _).alloc (Aj _) _).alloc fz _).trans (L.mono fw))
end
def sU:Nat->Nat->List Nat->List Nat
 | 0,_,V=>V
 | m+1,o,V=>sU m (o+1) (V.set o 0)
theorem cQm:∀ (m o:Nat) (V:List Nat),o+m<=V.length->sU m o (mO o V)=mO (o+m) V
 | 0,o,V,_=>rfl
 | m+1,o,V,h=>by
  rw[sU,bWb fu,cQm m (o+1) V fu]
  congr 1
  omega
theorem cWf(V:List Nat):sU (min 8 V.length) 0 V=zeroV 8 V:=by
 have:=cQm (min 8 V.length) 0 V fu;rw[bWa]at this;rw[this,Bb];exact bWc rfl
theorem cQn(w:Bd):(zeroValue 52).run fZ w = .ok (fF fO 0) w:=fx
theorem gU.zero{C:iO}{f:iP}{rest:List iP}{pg c n:Nat}{vs:List Be}:∀ (m o:Nat) {X:iL} {w:Bd} (V:List Nat),gU C X w->X.x.st={ f with V:=V } :: rest->X.ps = fG (gj ⟨pg,0,gh⟩) n c :: vs->V.length=n ->
  gU C (xY X f rest (sU m o V)) (w.setCells pg o (Ak m (fF fO 0)))/\(w.setCells pg o (Ak m (fF fO 0))).heap.size=w.heap.size
 | 0,o,X,w,V,h,a,b,hn=>by
  refine⟨?_,rfl⟩
  have e:xY X f rest V=X:=by
   unfold xY;cases X;rename_i x _ _ _ _ _ _ _;cases x;simp at a ⊢;exact a.symm
  show gU C (xY X f rest V) w;rw[e];exact h
 | m+1,o,X,w,V,h,a,b,hn=>by
  have h1:=h.fYq (f:={ f with V:=V }) (rest:=rest) a (g:=pg) (c:=c) (vs:=vs) (by subst hn;exact b) o 0;have h2:=gU.zero m (o+1) (X:={ X with x:={ X.x with st:={ f with V:=V.set o 0 } :: rest } }) (V.set o 0) h1 rfl b (by rw[BZ];exact hn);refine⟨h2.1,?_⟩;show((w.setCell ⟨pg,o,gh⟩ (fF fO 0)).setCells pg (o+1) (Ak m (fF fO 0))).heap.size=_;exact h2.2.trans (by simp[Aw])
theorem aKi{k pg:Nat}:∀ (vs:List Be) (o:Nat) (w:Bd),k≠pg->(w.setCells pg o vs).heap[k]? = w.heap[k]?
 | [],_,_,_=>rfl
 | v :: vs,o,w,h=>(aKi vs (o+1) _ h).trans (Aq _ _ _ _ h)
theorem bKs(w:Bd)(a:TypeId)(A:Option Addr)(c:Nat):(Builtin.clear_ #[30] a #[fG A 0 c]).run fZ w = .ok (fI #[]) w:=by
 cases A <;> simp[Builtin.clear_,run_underlying underlying30,storeCells]
theorem dJg{base:Nat}{b:List Be}(h:w.ownsRow base e a v n b):n<=maxLen:=by
 rcases h.2 with⟨_,h2⟩|⟨_,_,_,_,_,_,c,d,_⟩
 ·rw[h2];exact Bc _
 ·exact AJ c d
theorem aVi{pg m:Nat}:∀ (vs:List Be) (o:Nat) (w:Bd),(w.drewN m).setCells pg o vs=(w.setCells pg o vs).drewN m
 | [],_,_=>rfl
 | v :: vs,o,w=>aVi vs (o+1) (w.setCell ⟨pg,o,gh⟩ v)
theorem KK.cells{x z:iL}{w0:Bd}{pg:Nat}(a:x.a8 pg≠0):∀ (vs:List Be) (o:Nat) {w:Bd},KK z x w0 w->KK z x w0 (w.setCells pg o vs)
 | [],_,_,h=>h
 | v :: vs,o,w,h=>KK.cells a vs (o+1) (h.set (y:=x) o v (fT a) rfl)
theorem eXb(C:iO)(X:iL)(f:iP)(rest:List iP)(vo:Be)(l:List Nat)(w:Bd)(h:gU C X w)(L:KC C)(M:X.x.st=f :: rest)(E:UR w vo l)(hf:∀ k,vo.ownBlock=gj k->X.a8 k=8)(R:jy (f :: rest))(S:∀ g∈rest,kH C.p g)(hl:l.length=f.r.a2.out.length)(hd:rest.length<=16):
  Bg fZ 58 #[fM (gj ⟨C.mm,0,gh⟩),vo] w (sO C X (pF X.x l rest) w):=by
 obtain⟨g,cS,bg,bj,T,bk,aA,_,_,_,_,hg,bm,_,_⟩:=gU.top h.tojl M;have m0:=h.fWi;have bn:w.cell? ⟨C.cb,12,gh⟩=gj (fG (gj ⟨g,0,gh⟩) (rest.length+1) cS):=(by rw[h.cell 12];simp[ja,T]);have f12:=ik h.cb 12;have d:=(h.gQe M T).drew;have F:=((KK.refl X w).set (y:={ X with sv:=fG (gj ⟨g,0,gh⟩) rest.length cS,ps:=X.ps.tail,x:={ X.x with st:=rest } }) (g:=C.cb) 12 (fG (gj ⟨g,0,gh⟩) rest.length cS) (fT (gU.nl h.tojl)) rfl).drew;obtain⟨A,c,rfl⟩:=E.I
 have U:UR (w.setCell ⟨C.cb,12,gh⟩ (fG (gj ⟨g,0,gh⟩) rest.length cS)).drew (fG A l.length c) l:=E.heap F.size (fun k G bo=>Aq _ _ _ _ (fun e=>by
  have e:k=C.cb:=e;have:=hf k G;rw[e,h.cl]at this
  cases this))
 obtain⟨w1,W⟩:=fX ((w.setCell ⟨C.cb,12,gh⟩ (fG (gj ⟨g,0,gh⟩) rest.length cS)).drew);rw[W]at d F U;have aB:=fQ W;have HR:=fQ d;have Y:=fQ F;have Z:=fQ U;have HF:=fQ hf;have m1:=d.fWi;have aH:w1.cell? ⟨C.cb,12,gh⟩=gj (fG (gj ⟨g,0,gh⟩) rest.length cS):=d.cell 12;have HL:=fQ hl;have bt:=fQ S;have bu:=fQ R;have bw:¬cS=0:=fu;have ad:=S;have af:=R;clear W U hf hl S R T;rcases rest with _|⟨q,b⟩
 ·clear d F h M E aA ad af;simp only[Ae]at *;go_in;go_wp2_with fail;go_region;rw[aB.out];go_wp2_with fail;refine(aWp C _ _ l 0 _ HR.out Z.out HF.out).mono ?_;rintro e w2 ⟨rfl,X',h1,h2,h3⟩;have H1:=fQ h1;have H2:=fQ h2;have H3:=fQ h3;clear h1 h2 h3;go_wp2;go_end0;exact⟨rfl,X',H1.out,Y.trans H2.out,H3.out⟩
 ·obtain⟨N,aI,aC,aJ⟩:=ad q (List.mem_cons_self ..);obtain⟨⟨O,J,bz,aK,ah⟩,_⟩:=af;obtain⟨g',bA,pv,aL,i,e2,e3,e4,e5,e6,e7,e8,e9,e10,aD⟩:=gU.top d.tojl (f:=q) (rest:=b) rfl;have i:Ay (gj ⟨g,0,gh⟩) (b.length+1) cS=_:=i;injection i with i _ aM;injection i with i;injection i with i;subst i;subst aM;obtain⟨k,G⟩:∃ k,q.k=k+1:=⟨q.k - 1,fu⟩;obtain⟨n,hn⟩:=fX q.V.length;rw[hn]at e10;obtain⟨A1,P,rfl,bB⟩:=fJ e10;obtain⟨t,aE⟩:=fX (min 8 n);have aN:min (8:Int) (n:Int)=(t:Int):=fu;have aO:(0:Int)<=(t:Int):=fu;have aP:(t:Int)<=(P:Int):=fu;have bC:n<=9223372036854775807:=(by have:=dJg e10;unfold maxLen at this;omega)
  obtain⟨wc,HC⟩:∃ wc,Hid ((∀ m H,(Builtin.clear_ #[30] H #[fG A1 t P]).run fZ (w1.drewN m) = .ok (fI #[]) (wc.drewN m))/\gU C (xY { X with sv:=fG (gj ⟨g,0,gh⟩) (b.length+1) cS,ps:=X.ps.tail,x:={ X.x with st:=q :: b } } q b (zeroV 8 q.V)) wc/\KK X X w wc/\UR wc (fG A l.length c) l):=by
   by_cases h0:n=0
   ·subst h0;have h8:t=0:=fu;subst h8;have hV:q.V = []:=AY hn;refine⟨w1,fQ ⟨fun m H=>bKs _ _ _ _,?_,Y.to rfl,Z.out⟩⟩
    have hq:xY { X with sv:=fG (gj ⟨g,0,gh⟩) (b.length+1) cS,ps:=X.ps.tail,x:={ X.x with st:=q :: b } } q b (zeroV 8 q.V)={ X with sv:=fG (gj ⟨g,0,gh⟩) (b.length+1) cS,ps:=X.ps.tail,x:={ X.x with st:=q :: b } }:=by
     unfold xY;rw[hV,show zeroV 8 [] = []from rfl];cases q;simp at hV;subst hV;rfl
    rw[hq];exact d
   ·obtain⟨pg,pc,az,bD,bE,bF⟩:=lZ e10 fu;injection az with az _ aQ;subst az;subst aQ;have hz:=gU.zero (f:=q) (rest:=b) t 0 q.V d rfl e3 hn
    have ai:∀ m H,(Builtin.clear_ #[30] H #[fG (gj ⟨pg,0,gh⟩) t P]).run fZ (w1.drewN m) = .ok (fI #[]) ((w1.setCells pg 0 (Ak t (fF fO 0))).drewN m):=fun m H=>by
     rw[<-aVi];exact Lib.run_clear_slice (w1.drewN m) 30 52 H (fF fO 0) underlying30 cQn rfl rfl pg 0 t P fu (fun j hj=>by obtain⟨v,hv⟩:=aWd e10 (k:=j) fu;have hv:(w1.drewN m).cell? _=_:=hv;rw[Bb,hv];rfl) (fun j hj=>e10.frozenAt _)
    have hb:=cWf q.V;rw[hn,aE]at hb;rw[hb]at hz;have I:=aD pg rfl;refine⟨_,fQ ⟨ai,hz.1,(KK.cells (x:=X) (by have I:X.a8 pg=_:=I;rw[I];omega) _ _ (Y.to rfl)),Z.heap (Nat.le_of_eq hz.2.symm) (fun j hj _=>aKi _ _ _ (fun e=>?_))⟩⟩;have hj:=HF.out j hj;have I:X.a8 pg=_:=I;rw[e,I]at hj;omega
  obtain⟨ai,K,aF,aG⟩:=HC.out;have aR:(zeroV 8 q.V).length=n:=(aJr 8 q.V).trans hn;obtain⟨g2,bG,bH,aS,u,d2,d3,d4,Q,d6,d7,d8,d9,d10,d11⟩:=gU.top K.tojl (f:={ q with V:=zeroV 8 q.V }) (rest:=b) rfl;have u:Ay (gj ⟨g,0,gh⟩) (b.length+1) cS=_:=u;injection u with u _ aT;injection u with u;injection u with u;subst u;subst aT;obtain⟨ra,rb,rp,rd,y0,y1,y2,y3,y4,y5,_,_,_,y9⟩:=L.row K.bel N;rw[G,Bx]at J;obtain⟨dA,dn,dc,aU⟩:∃ A n c,rd=Ay A n c:=(by obtain⟨A,c,e,_⟩:=y9.len;exact⟨A,_,c,e⟩);subst aU;obtain⟨aV,aW,bb,co,x2,x3,x4,aX,z,z0,z1,z2,z3,z4,z5⟩:=KC.K K.bel y9 J;subst aX;have aY:(k:Int)<(dn:Int):=fu;have aZ:(k:Int)<=4096:=(by have:=(L.ok.row _ _ N).1.n2;omega);have Q:wc.cell? ⟨g,b.length*3+1,gh⟩=gj (fF fN (q.k:Int)):=Q;rw[G]at Q;have bJ:IntKind.i64.wrap (k:Int)=(k:Int):=IntWalk.i64_in _ fu;have ak:=fQ K;have al:=fQ aF;have an:=fQ aG;have a1:=fQ z5;have a6:=fQ J;have a7:=fQ ah;have a8:=fQ G;have ba:=fQ aC;have ao:=(L.ok.row _ _ N).1.K O (AZ J);have bc:=fQ ao;clear d F h M E aA ad HC N aI aC aJ J aK ah K aF aG y9 z5 G hn ao e10 aD d10 d11 aE aR d2 e2 e3 d3 aV;simp only[AW]at *;go_in;go_wp2_with fail;go_region;rw[aB.out];go_wp2_with fail;go_quiet (fail);go_wp2_with fail;go_region;go_wp2_with fail;obtain⟨D,B⟩:=fX (wc.drewN (nq+1));have HD:=fQ (show gU C _ D.drew from B ▸ (ak.drewN (nq+1)).drew);have bd:=fQ (show KK X X w D.drew from B ▸ (al.C (fK (Az _ _) (nq+1))).drew);have be:=fQ (show UR D.drew (fG A l.length c) l from B ▸ (show UR (wc.drewN (nq+1)).drew _ l from an.out))
  have q0:∀ a,D.cell? a=wc.cell? a:=fun a=>by rw[<-B];rfl
  rw[<-q0]at d4 Q d6 y1 y2 y3 y4 y5 z0 z1 z2 z3 z4;rw[B];clear B q0 ak al an;go_still_tail 16,fx;change wpList _ _ _ _ _ D.drew;go_wp2_with fail;refine(sJ C _ { q with V:=zeroV 8 q.V } b g cS _ O _ l _ HD.out rfl rfl a1.out be.out ?_ ?_ ?_).mono ?_
  ·intro j hj;have:=HF.out j hj;show X.a8 j≠_;omega
  ·intro o E;obtain⟨_,_,_,_,_,_,_,_,_,h8,_⟩:=hY bc.out;have:=h8 o E;show 0<=o/\o<((zeroV 8 q.V).length:Int);rw[aJr,ba.out];omega
  ·rw[HL.out,a7.out];exact Aj _
  rintro e w2 ⟨rfl,h1,h2⟩;have H1:=fQ h1;have H2:=fQ h2;clear h1 h2;go_wp2;go_end0;refine⟨rfl,_,H1.out,bd.trans (KK.trans (KK.refl _ _) (H2.from rfl)),?_⟩;have bf:((q.r.K[q.k - 1]?).getD cQu)=O:=(by rw[a8.out,Bx,a6.out];rfl);show({ X.x with st:={ q with V:=iS O.O l (zeroV 8 q.V) } :: b }:jP)={ X.x with st:={ q with V:=iS ((q.r.K[q.k - 1]?).getD cQu).O l (zeroV 8 q.V) } :: b };rw[bf]
structure jo where
 w0:Bd
 a:Be
 b:Be
 d:Be
 f:Be
 p:hU
 lost:Nat
 mb:Nat
 gv:Be
structure jk where
 s:iM
 lv:Be
 iv:Be
 mv:Be
 a7:Nat
 jt:Nat
 ji:Nat
 d:Nat
 e:Int
def js(C:jo)(x:jk)(k:Nat):Prop:=k=C.mb\/C.gv.ownBlock=gj k\/x.lv.ownBlock=gj k\/x.iv.ownBlock=gj k\/x.mv.ownBlock=gj k
structure MK (C:jo) (x x':jk) (w w':Bd):Prop where
 os:w'.os=w.os
 tape:w'.tape=w.tape
 output:w'.output=w.output
 size:w.heap.size<=w'.heap.size
 keep:∀ k,k<w.heap.size->¬js C x k->w'.heap[k]? = w.heap[k]? /\ ¬js C x' k
theorem MK.trans{C:jo}{x y z:jk}{w1 w2 a:Bd}(h:MK C x y w1 w2)(k:MK C y z w2 a):MK C x z w1 a:=
 ⟨k.os.trans h.os,k.tape.trans h.tape,k.output.trans h.output,AJ h.size k.size,fun i hi b=>by
  have h1:=h.keep i hi b;have h2:=k.keep i (Ax hi h.size) h1.2
  exact⟨h2.1.trans h1.1,h2.2⟩⟩
theorem MK.jN{C:jo}{x:jk}(h:Bf w.heap.size w w'):MK C x x w w':=⟨h.os,h.tape,h.output,h.size,fun k a b=>⟨h.block k a,b⟩⟩
theorem MK.to{C:jo}{x x' y:jk}(h:MK C x x' w w')(h1:y.lv=x'.lv)(h2:y.iv=x'.iv)(c:y.mv=x'.mv):MK C x y w w':=
 ⟨h.os,h.tape,h.output,h.size,fun k a b=>⟨(h.keep k a b).1,fun hn=>(h.keep k a b).2 (by unfold js at hn ⊢;rw[h1,h2,c]at hn;exact hn)⟩⟩
theorem MK.a9{C:jo}{x x':jk}(h:MK C x x' w w'){cs:Array Be}(k:gO w g e cs)(a:¬js C x g):gO w' g e cs:=((h.keep g k.lt a).1).trans k
theorem MK.k9{C:jo}{x y z:jk}(h:MK C z x w0 w)(i:Nat)(u:Be)(h1:y.lv=x.lv)(h2:y.iv=x.iv)(b:y.mv=x.mv):MK C z y w0 (w.setCell ⟨C.mb,i,gh⟩ u):=by
 have hs:MK C x x w (w.setCell ⟨C.mb,i,gh⟩ u):=⟨rfl,rfl,rfl,by simp[Aw],fun k hk a=>⟨Aq _ _ _ _ (fun e=>a (fT e)),a⟩⟩;exact(h.trans hs).to h1 h2 b
theorem MK.pG{C:jo}{x z:jk}(h:MK C z x w0 w){i:Nat}(u:Be)(hg:w0.heap.size<=g):MK C z x w0 (w.setCell ⟨g,i,gh⟩ u):=
 ⟨h.os,h.tape,h.output,AJ h.size (by simp[Aw]),fun k a b=>⟨(Aq _ _ _ _ (by show k≠g;omega)).trans (h.keep k a b).1,(h.keep k a b).2⟩⟩
theorem MK.C{C:jo}{x z:jk}(h:MK C z x w0 w)(a:Bf w.heap.size w w'):MK C z x w0 w':=h.trans (MK.jN a)
theorem MK.oM{C:jo}{x z:jk}(h:MK C z x w0 w)(mv:Be)(m:List Nat)(h1:∀ k,mv.ownBlock=gj k->w0.heap.size<=k):MK C z { x with mv:=mv,s:={ x.s with L:=m } } w0 (w.setCell ⟨C.mb,6,gh⟩ mv):=
 ⟨h.os,h.tape,h.output,AJ h.size (by simp[Aw]),fun k b c=>by
  have h2:=h.keep k b c;refine⟨(Aq _ _ _ _ (fun e=>h2.2 (fT e))).trans h2.1,?_⟩;rintro(a|a|a|a|a)
  ·exact h2.2 (fT a)
  ·exact h2.2 (fU (fT a))
  ·exact h2.2 (fU (fU (fT a)))
  ·exact h2.2 (fU (fU (fU (fT a))))
  ·have:=h1 k a;omega⟩
theorem MK.sL{C:jo}{x z:jk}(h:MK C z x w0 w)(iv:Be)(l:List Nat)(h1:∀ k,iv.ownBlock=gj k->x.iv.ownBlock=gj k):MK C z { x with iv:=iv,s:={ x.s with input:=l } } w0 (w.setCell ⟨C.mb,10,gh⟩ iv):=
 ⟨h.os,h.tape,h.output,AJ h.size (by simp[Aw]),fun k b c=>by
  have h2:=h.keep k b c;refine⟨(Aq _ _ _ _ (fun e=>h2.2 (fT e))).trans h2.1,?_⟩;rintro(a|a|a|a|a)
  ·exact h2.2 (fT a)
  ·exact h2.2 (fU (fT a))
  ·exact h2.2 (fU (fU (fT a)))
  ·exact h2.2 (fU (fU (fU (fT (h1 k a)))))
  ·exact h2.2 (fU (fU (fU (fU a))))⟩
theorem MK.fYf{C:jo}{x z:jk}(h:MK C z x w0 w)(lv:Be)(l:List Nat)(hg:w.grownBy w' x.lv.ownBlock)(d:∀ k,lv.ownBlock=gj k->x.lv.ownBlock=gj k\/w.heap.size<=k):MK C z { x with lv:=lv,s:={ x.s with a0:=l } } w0 (w'.setCell ⟨C.mb,11,gh⟩ lv):=by
 refine⟨hg.os.trans h.os,hg.tape.trans h.tape,hg.output.trans h.output,AJ h.size (AJ hg.size (by simp[Aw])),fun k b f=>?_⟩;have h2:=h.keep k b f;have g:=Ax b h.size;have i:(w'.setCell ⟨C.mb,11,gh⟩ lv).heap[k]? = w'.heap[k]?:=Aq _ _ _ _ (fun e=>h2.2 (fT e));have e2:w'.heap[k]? = w.heap[k]?:=hg.block k g (fun e=>h2.2 (fU (fU (fT e.symm))));refine⟨i.trans (e2.trans h2.1),?_⟩;rintro(a|a|a|a|a)
 ·exact h2.2 (fT a)
 ·exact h2.2 (fU (fT a))
 ·rcases d k a with c|c
  ·exact h2.2 (fU (fU (fT c)))
  ·omega
 ·exact h2.2 (fU (fU (fU (fT a))))
 ·exact h2.2 (fU (fU (fU (fU a))))
theorem MK.sM{C:jo}{x z:jk}(h:MK C z x w0 w){c:Nat}(a:C.gv = fG (gj ⟨g,0,gh⟩) n c)(k N:Nat)(u:Be):MK C z { x with s:={ x.s with E:=x.s.E.set k N } } w0 (w.setCell ⟨g,k,gh⟩ u):=
 ⟨h.os,h.tape,h.output,AJ h.size (by simp[Aw]),fun j hj b=>by
  have h2:=h.keep j hj b
  exact⟨(Aq _ _ _ _ (fun e=>h2.2 (fU (fT (by rw[a];show gj g=gj j;rw[show j=g from e]))))).trans h2.1,h2.2⟩⟩
theorem MK.grown{C:jo}{x z:jk}{r:Option Nat}(h:MK C z x w0 w)(hg:w.grownBy w' r)(b:∀ k,r=gj k->w0.heap.size<=k):MK C z x w0 w':=
 ⟨hg.os.trans h.os,hg.tape.trans h.tape,hg.output.trans h.output,AJ h.size hg.size,fun k a c=>by
  have h2:=h.keep k a c
  exact⟨(hg.block k (Ax a h.size) (fun e=>by have:=b k e.symm;omega)).trans h2.1,h2.2⟩⟩
def iC(C:jo)(x:jk):Array Be:=#[C.a,fF fN C.p.J.G,C.b,C.d,fH C.p.J.L,C.f,x.mv,fF fN x.s.Y,C.gv,fF fN x.s.U,x.iv,x.lv,fF fN C.lost,fF fN x.a7,fF fN x.jt,fF fN x.ji,fF fN x.d,fF fN x.e]
structure iB (C:jo) (x:jk) (w:Bd):Prop where
 a9:gO w C.mb 79 (iC C x)
 L:BR w x.mv x.s.L
 inp:UR w x.iv x.s.input
 kq:w.ownsRow C.w0.heap.size 52 1 C.gv x.s.E.length (hH x.s.E)
 a0:w.ownsRow C.w0.heap.size 52 1 x.lv x.s.a0.length (hH x.s.a0)
 bel:Bf C.w0.heap.size C.w0 w
 mb:C.w0.heap.size<=C.mb
 gl:∀ k,C.gv.ownBlock=gj k->x.lv.ownBlock≠gj k/\x.iv.ownBlock≠gj k/\x.mv.ownBlock≠gj k
 ll:∀ k,x.lv.ownBlock=gj k->x.iv.ownBlock≠gj k/\x.mv.ownBlock≠gj k
 ii:x.iv.ownBlock≠gj C.mb
 mm:x.mv.ownBlock≠gj C.mb
 il:∀ k,x.iv.ownBlock=gj k->C.w0.heap.size<=k/\k<w.heap.size
 ml:∀ k,x.mv.ownBlock=gj k->C.w0.heap.size<=k/\k<w.heap.size
 kF:ij x.s.E
 lU:ij x.s.a0
theorem iB.heap{C:jo}{x:jk}{w w':Bd}(h:iB C x w)(hs:w.heap.size<=w'.heap.size)(b:∀ k,js C x k->k<w.heap.size->w'.heap[k]? = w.heap[k]?)(c:Bf C.w0.heap.size C.w0 w'):iB C x w':=
 ⟨(b C.mb (fT rfl) h.a9.lt).trans h.a9,h.L.heap hs (fun k a=>b k (fU (fU (fU (fU a))))),h.inp.heap hs (fun k a=>b k (fU (fU (fU (fT a))))),
  yW h.kq (fun k a=>b k (fU (fT a))),yW h.a0 (fun k a=>b k (fU (fU (fT a)))),c,h.mb,h.gl,h.ll,h.ii,h.mm,(fun k a=>⟨(h.il k a).1,Ax (h.il k a).2 hs⟩),(fun k a=>⟨(h.ml k a).1,Ax (h.ml k a).2 hs⟩),h.kF,h.lU⟩
theorem iB.C{C:jo}{x:jk}(h:iB C x w)(a:Bf w.heap.size w w'):iB C x w':=
 h.heap a.size (fun k _ b=>a.block k b) (h.bel.trans (a.mono h.bel.size))
theorem iB.drewN{C:jo}{x:jk}{w:Bd}(h:iB C x w)(n:Nat):iB C x (w.drewN n):=h.C (fK (Az _ _) n)
theorem iB.pG{C:jo}{x:jk}(h:iB C x w){i:Nat}(u:Be)(hg:¬js C x g)(a:C.w0.heap.size<=g):iB C x (w.setCell ⟨g,i,gh⟩ u):=
 h.heap (by simp[Aw]) (fun k b _=>Aq _ _ _ _ (fun e=>hg (by have:k=g:=e;rw[<-this];exact b))) (h.bel.setCell (p:=⟨g,i,gh⟩) a _)
theorem iB.k9{C:jo}{x y:jk}(h:iB C x w)(i:Nat)(u:Be)(hc:(iC C x).setIfInBounds i u=iC C y)(h1:y.lv=x.lv)(h2:y.iv=x.iv)(b:y.mv=x.mv)(l:y.s.L=x.s.L)(m:y.s.input=x.s.input)(d:y.s.E=x.s.E)(f:y.s.a0=x.s.a0):iB C y (w.setCell ⟨C.mb,i,gh⟩ u):=by
 have g:∀ {k:Nat},k≠C.mb->(w.setCell ⟨C.mb,i,gh⟩ u).heap[k]? = w.heap[k]?:=fun a=>Aq _ _ _ _ a;have c:w.heap.size<=(w.setCell ⟨C.mb,i,gh⟩ u).heap.size:=(by simp[Aw]);have j:=fY h.a9 i u;rw[hc]at j;refine⟨j,?_,?_,?_,?_,h.bel.setCell (p:=⟨C.mb,i,gh⟩) h.mb _,h.mb,?_,?_,?_,?_,?_,?_,?_,?_⟩
 ·rw[b,l];exact h.L.heap c (fun k a _=>g (fun e=>h.mm (e ▸ a)))
 ·rw[h2,m];exact h.inp.heap c (fun k a _=>g (fun e=>h.ii (e ▸ a)))
 ·rw[d];exact iW h.kq (iZ h.kq h.a9 fy)
 ·rw[h1,f];exact iW h.a0 (iZ h.a0 h.a9 fy)
 ·rw[h1,h2,b];exact h.gl
 ·rw[h1,h2,b];exact h.ll
 ·rw[h2];exact h.ii
 ·rw[b];exact h.mm
 ·rw[h2];exact fun k a=>⟨(h.il k a).1,Ax (h.il k a).2 c⟩
 ·rw[b];exact fun k a=>⟨(h.ml k a).1,Ax (h.ml k a).2 c⟩
 ·rw[d];exact h.kF
 ·rw[f];exact h.lU
theorem iB.oM{C:jo}{x:jk}(h:iB C x w)(mv:Be)(m:List Nat)(d:BR w mv m)(h1:∀ k,mv.ownBlock=gj k->k≠C.mb/\C.gv.ownBlock≠gj k/\x.lv.ownBlock≠gj k)(h2:∀ k,mv.ownBlock=gj k->C.w0.heap.size<=k/\k<w.heap.size):
  iB C { x with mv:=mv,s:={ x.s with L:=m } } (w.setCell ⟨C.mb,6,gh⟩ mv):=by
 have c:∀ {k:Nat},k≠C.mb->(w.setCell ⟨C.mb,6,gh⟩ mv).heap[k]? = w.heap[k]?:=fun a=>Aq _ _ _ _ a;have b:w.heap.size<=(w.setCell ⟨C.mb,6,gh⟩ mv).heap.size:=(by simp[Aw]);have f:=fY h.a9 6 mv;refine⟨by simpa[iC]using f,d.heap b (fun k a _=>c (h1 k a).1),h.inp.heap b (fun k a _=>c (fun e=>h.ii (e ▸ a))),iW h.kq (iZ h.kq h.a9 fy),iW h.a0 (iZ h.a0 h.a9 fy),h.bel.setCell (p:=⟨C.mb,6,gh⟩) h.mb _,h.mb,?_,?_,h.ii,?_,(fun k a=>⟨(h.il k a).1,Ax (h.il k a).2 b⟩),(fun k a=>⟨(h2 k a).1,Ax (h2 k a).2 b⟩),h.kF,h.lU⟩
 ·exact fun k a=>⟨(h.gl k a).1,(h.gl k a).2.1,fun hn=>(h1 k hn).2.1 a⟩
 ·exact fun k a=>⟨(h.ll k a).1,fun hn=>(h1 k hn).2.2 a⟩
 ·exact fun hn=>(h1 _ hn).1 rfl
theorem iB.sL{C:jo}{x:jk}(h:iB C x w)(iv:Be)(l:List Nat)(d:UR w iv l)(h1:∀ k,iv.ownBlock=gj k->x.iv.ownBlock=gj k):
  iB C { x with iv:=iv,s:={ x.s with input:=l } } (w.setCell ⟨C.mb,10,gh⟩ iv):=by
 have c:∀ {k:Nat},k≠C.mb->(w.setCell ⟨C.mb,10,gh⟩ iv).heap[k]? = w.heap[k]?:=fun a=>Aq _ _ _ _ a;have b:w.heap.size<=(w.setCell ⟨C.mb,10,gh⟩ iv).heap.size:=(by simp[Aw]);have f:=fY h.a9 10 iv;refine⟨by simpa[iC]using f,h.L.heap b (fun k a _=>c (fun e=>h.mm (e ▸ a))),d.heap b (fun k a _=>c (fun e=>h.ii (e ▸ h1 k a))),iW h.kq (iZ h.kq h.a9 fy),iW h.a0 (iZ h.a0 h.a9 fy),h.bel.setCell (p:=⟨C.mb,10,gh⟩) h.mb _,h.mb,?_,?_,?_,h.mm,(fun k a=>⟨(h.il k (h1 k a)).1,Ax (h.il k (h1 k a)).2 b⟩),(fun k a=>⟨(h.ml k a).1,Ax (h.ml k a).2 b⟩),h.kF,h.lU⟩
 ·exact fun k a=>⟨(h.gl k a).1,fun hn=>(h.gl k a).2.1 (h1 k hn),(h.gl k a).2.2⟩
 ·exact fun k a=>⟨fun hn=>(h.ll k a).1 (h1 k hn),(h.ll k a).2⟩
 ·exact fun hn=>h.ii (h1 _ hn)
theorem iB.fYf{C:jo}{x:jk}(h:iB C x w)(lv:Be)(l:List Nat)(hg:w.grownBy w' x.lv.ownBlock)(f:w'.ownsRow C.w0.heap.size 52 1 lv l.length (hH l))(m:ij l)(g:∀ k,lv.ownBlock=gj k->x.lv.ownBlock=gj k\/w.heap.size<=k):
  iB C { x with lv:=lv,s:={ x.s with a0:=l } } (w'.setCell ⟨C.mb,11,gh⟩ lv):=by
 have old:∀ k,k<w.heap.size->x.lv.ownBlock≠gj k->w'.heap[k]? = w.heap[k]?:=fun k a n=>hg.block k a (fun e=>n e.symm);have o:x.lv.ownBlock≠gj C.mb:=iZ h.a0 h.a9 fy;have c:gO w' C.mb 79 (iC C x):=(old _ h.a9.lt o).trans h.a9;have i:w'.ownsRow C.w0.heap.size 52 1 C.gv x.s.E.length (hH x.s.E):=yW h.kq (fun k a b=>old k b (h.gl k a).1);have q:BR w' x.mv x.s.L:=h.L.heap hg.size (fun k a b=>old k b (fun e=>(h.ll k e).2 a));have r:UR w' x.iv x.s.input:=h.inp.heap hg.size (fun k a b=>old k b (fun e=>(h.ll k e).1 a));have t:Bf C.w0.heap.size C.w0 w':=h.bel.grown hg h.bel.size (fun k a=>(h.a0.lt k a).1);have j:∀ {k:Nat},k≠C.mb->(w'.setCell ⟨C.mb,11,gh⟩ lv).heap[k]? = w'.heap[k]?:=fun a=>Aq _ _ _ _ a;have d:w'.heap.size<=(w'.setCell ⟨C.mb,11,gh⟩ lv).heap.size:=(by simp[Aw]);have u:=fY c 11 lv;refine⟨by simpa[iC]using u,q.heap d (fun k a _=>j (fun e=>h.mm (e ▸ a))),r.heap d (fun k a _=>j (fun e=>h.ii (e ▸ a))),iW i (iZ i c fy),iW f (iZ f c fy),t.setCell (p:=⟨C.mb,11,gh⟩) h.mb _,h.mb,?_,?_,h.ii,h.mm,(fun k a=>⟨(h.il k a).1,Ax (h.il k a).2 (AJ hg.size d)⟩),(fun k a=>⟨(h.ml k a).1,Ax (h.ml k a).2 (AJ hg.size d)⟩),h.kF,m⟩
 ·refine fun k a=>⟨fun hn=>?_,(h.gl k a).2⟩;rcases g k hn with h1|h1
  ·exact(h.gl k a).1 h1
  ·have:=(h.kq.lt k a).2;omega
 ·refine fun k a=>⟨fun hn=>?_,fun hn=>?_⟩
  ·rcases g k a with h1|h1
   ·exact(h.ll k h1).1 hn
   ·have:=(h.il k hn).2;omega
  ·rcases g k a with h1|h1
   ·exact(h.ll k h1).2 hn
   ·have:=(h.ml k hn).2;omega
theorem iB.sM{C:jo}{x:jk}(h:iB C x w){c:Nat}(b:C.gv = fG (gj ⟨g,0,gh⟩) n c)(k N:Nat)(m:N<18446744073709551616):
  iB C { x with s:={ x.s with E:=x.s.E.set k N } } (w.setCell ⟨g,k,gh⟩ (fF fO (N:Int))):=by
 have d:C.gv.ownBlock=gj g:=(by rw[b];rfl);have o:g≠C.mb:=fun e=>(iZ h.kq h.a9 fy) (by rw[d,e]);have f:∀ {j:Nat},j≠g->(w.setCell ⟨g,k,gh⟩ (fF fO (N:Int))).heap[j]? = w.heap[j]?:=fun q=>Aq _ _ _ _ q;have a:w.heap.size<=(w.setCell ⟨g,k,gh⟩ (fF fO (N:Int))).heap.size:=(by simp[Aw]);have i:=h.gl g d;have l:=h.kq;rw[b]at l
 have r:n=x.s.E.length:=by
  rcases l.2 with⟨h1,_⟩|⟨_,_,_,h1,_⟩
  ·cases h1
  ·injection h1
 subst r;refine⟨(f (fun e=>o e.symm)).trans h.a9,h.L.heap a (fun j hj _=>f (fun e=>i.2.2 (e ▸ hj))),h.inp.heap a (fun j hj _=>f (fun e=>i.2.1 (e ▸ hj))),?_,iW h.a0 i.1,h.bel.setCell (p:=⟨g,k,gh⟩) (h.kq.lt g d).1 _,h.mb,h.gl,h.ll,h.ii,h.mm,(fun j hj=>⟨(h.il j hj).1,Ax (h.il j hj).2 a⟩),(fun j hj=>⟨(h.ml j hj).1,Ax (h.ml j hj).2 a⟩),dVj h.kF k N m,h.lU⟩;rw[b];show(w.setCell ⟨g,k,gh⟩ (fF fO (N:Int))).ownsRow C.w0.heap.size 52 1 (fG (gj ⟨g,0,gh⟩) x.s.E.length c) (x.s.E.set k N).length (hH (x.s.E.set k N));rw[BZ,<-qO];exact(l.stored k (fF fO (N:Int))).1
theorem iB.grown{C:jo}{x:jk}{w w':Bd}{r:Option Nat}(h:iB C x w)(hg:w.grownBy w' r)(b:∀ k,r=gj k->¬js C x k/\C.w0.heap.size<=k):iB C x w':=
 h.heap hg.size (fun k a c=>hg.block k c (fun e=>(b k e.symm).1 a)) (h.bel.grown hg h.bel.size (fun k a=>(b k a).2))
theorem iB.live{C:jo}{x:jk}(h:iB C x w)(a:js C x k):k<w.heap.size:=by
 rcases a with rfl|h1|h1|h1|h1
 ·exact h.a9.lt
 ·exact(h.kq.lt k h1).2
 ·exact(h.a0.lt k h1).2
 ·exact(h.il k h1).2
 ·exact(h.ml k h1).2
theorem iB.a6{C:jo}{x:jk}(h:iB C x w)(hk:w.heap.size<=k):¬js C x k:=fun a=>by have:=h.live a;omega
theorem iB.cell{C:jo}{x:jk}{w:Bd}(h:iB C x w)(i:Nat):w.cell? ⟨C.mb,i,gh⟩=(iC C x)[i]?:=h.a9.cell i
end Go.Proofs.YtabibkpfgmolkaaGreatDoor

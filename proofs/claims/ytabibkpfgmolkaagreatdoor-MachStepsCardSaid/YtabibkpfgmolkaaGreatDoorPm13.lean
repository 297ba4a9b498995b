/- Lemmas for the claim, part 13. Conditions: none. -/
import Derived.Test.YtabibkpfgmolkaaGreatDoorPm08
import Derived.Test.YtabibkpfgmolkaaGreatDoorPm12
set_option maxRecDepth 100000
set_option maxHeartbeats 16000000
set_option linter.unusedVariables false
set_option linter.unusedSimpArgs false
open Go.Lib renaming hid→fQ
open Go.Proofs.Tryz renaming prog→fZ
open Go.Proofs.Tryz
open Go.RowKit
open Nat renaming le_refl→Aj,lt_of_lt_of_le→Aw,le_of_eq→Ab,eq_zero_or_pos→Ad,le_trans→Ai,zero_mul→Bz,add_zero→Bk
open List renaming setIfInBounds_toArray→Aq,set_cons_zero→Ax,set_cons_succ→Az,eq_nil_of_length_eq_zero→Ak,getElem?_eq_getElem→Ay,length_take→AJ,mem_of_getElem?→AQ,take_succ_eq_append_getElem→AK,take_of_length_le→AY,length_append→Ae,getD_eq_getElem?_getD→Af,drop_eq_nil_of_le→Ah,length_map→Bq,map_take→Bx
open Go.RowKit.Below renaming refl→Av
open Go.Addr renaming add→AX,add_lit→Bv
open Go.Act renaming put→AZ
open Go.Value renaming slice→Aa
open Go.IntWalk renaming i64_in→Ac
open Int renaming toNat_natCast→Ag
open Array renaming replicate→Bj
open Go renaming World→Bw,Value→By
namespace Go.Proofs.YtabibkpfgmolkaaGreatDoor
variable {w w' wr:Bw}{n k c SB g:Nat}{l a:List Nat}{v:By}{t:TypeId}{A:Option Addr}
theorem dKg{f:Nat->Bool}{i:Nat}(h:i<n):(xJ (aZi n f))[i]? = some (.bool (f i)):=by
 unfold xJ;rw[List.getElem?_map,aWf h];rfl
def RB(t:TypeId)(w:Bw)(g n:Nat)(f:Nat->Bool):Prop:=Blk w g t (xJ (aZi n f)).toArray
theorem RB.cell{t:TypeId}{w:Bw}{g n i:Nat}{f:Nat->Bool}(h:RB t w g n f)(hi:i<n):w.cell? ⟨g,i,none⟩=some (.bool (f i)):=by
 have:=Blk.cell h i;rw[this,List.getElem?_toArray];exact dKg hi
theorem RB.set{f:Nat->Bool}(h:RB t w g n f)(i:Nat)(b:Bool):RB t (w.setCell ⟨g,i,none⟩ (.bool b)) g n (fun j=>if j=i then b else f j):=by
 have:=heap_setCell_same w g i _ t (.bool b) h;unfold RB Blk;rw[this,<-cYd];simp[xJ,List.map_set]
theorem RB.new(w:Bw){N:Nat}(b:Bool)(h:w.heap.size=N):RB t (w.alloc (.cells (Bj n (.bool b)) t)) N n (fun _=>b):=by
 unfold RB;rw[<-cYe];have e:(xJ (List.replicate n b)).toArray=Bj n (.bool b):=(by simp[xJ]);rw[e];exact Blk.newAt w t _ h
theorem RB.keep{f:Nat->Bool}(h:RB t w g n f)(a:Below w.heap.size w w'):RB t w' g n f:=Blk.below h a h.lt
def rowsV(gs:List Nat)(P:Nat):List By:=gs.map fun g=>.slice (some ⟨g,0,none⟩) P P
structure TM (w:Bw) (base:Nat) (v:By) (n P:Nat) (T:Nat->Nat->Bool) (gs:List Nat):Prop where
 own:w.ownsRow base 24 1 v n (rowsV gs P)
 len:gs.length=n
 nd:gs.Nodup
 rows:∀ (i g:Nat),gs[i]? = some g->base<=g/\RB 4 w g P (T i)
end Go.Proofs.YtabibkpfgmolkaaGreatDoor
namespace Go.Proofs.YtabibkpfgmolkaaGreatDoor
variable {w w' wr:Bw}{n k c SB g:Nat}{l a:List Nat}{v:By}{t:TypeId}{A:Option Addr}
theorem cZp{l:List Int}{g:Nat->Bool}{x:Int}(h:l[k]? = some x):sJ g (l.take (k+1))=(sJ g (l.take k) || !g x.toNat):=by
 obtain⟨a,e⟩:=List.getElem?_eq_some_iff.1 h;rw[AK a,e];unfold sJ;rw[List.any_append];simp
def CcM(w:Bw)(n:Nat)(rv:Array By)(g:Nat->Bool)(a:Bw):Prop:=RB 4 a (w.heap.size+1) n g/\Blk a w.heap.size 89 rv/\Below w.heap.size w a
theorem CcM.keep{w:Bw}{n:Nat}{rv:Array By}{g:Nat->Bool}{a c:Bw}(h:CcM w n rv g a)(b:Below a.heap.size a c):CcM w n rv g c:=
 ⟨h.1.keep b,h.2.1.below b h.2.1.lt,h.2.2.trans (b.mono h.2.2.size)⟩
theorem CcM.set{w:Bw}{n:Nat}{rv:Array By}{g:Nat->Bool}{a:Bw}(h:CcM w n rv g a)(i:Nat):CcM w n rv (fun j=>if j=i then true else g j) (a.setCell ⟨w.heap.size+1,i,none⟩ (.bool true)):=
 ⟨h.1.set i true,aJx h.2.1 (by omega),h.2.2.setCell (p:=⟨w.heap.size+1,i,none⟩) (by simp) _⟩
def CcS(r:RowD)(w:Bw)(n:Nat)(rv:Array By)(M k:Nat)(b:Bool)(g:Nat->Bool)(a:Bw):Prop:=
 CcM w n rv g a/\GInv r g/\aWg n g<=M/\(b=true->aWg n g<M)/\(b=false->∀ j,k<=j->j<n->g j=false->sJ g (edges r j)=true)
theorem CcS.stay{r:RowD}{M:Nat}{rv:Array By}{b:Bool}{g:Nat->Bool}{a c:Bw}(h:CcS r w n rv M (k+1) b g a)(d:Below a.heap.size a c)(hs:g k=false->sJ g (edges r k)=true):CcS r w n rv M k b g c:=
 ⟨h.1.keep d,h.2.1,h.2.2.1,h.2.2.2.1,fun f j hj hn hg=>by
  by_cases e:j=k
  ·subst e;exact hs hg
  ·exact h.2.2.2.2 f j (by omega) hn hg⟩
theorem CcS.gone{r:RowD}{w:Bw}{n M k:Nat}{rv:Array By}{b:Bool}{g:Nat->Bool}{a c:Bw}(h:CcS r w n rv M (k+1) b g a)(d:Below a.heap.size a c)(hf:FlowOk r)(hn:k<n)(hg:g k=false)(hs:sJ g (edges r k)=false):
  CcS r w n rv M k true (fun j=>if j=k then true else g j) (c.setCell ⟨w.heap.size+1,k,none⟩ (.bool true)):=by
 have hc:=dKf (g:=g) hn hg;exact⟨(h.1.keep d).set k,h.2.1.gone hf hs,by have:=h.2.2.1;omega,fun _=>by have:=h.2.2.1;omega,fun e=>by cases e⟩
theorem cQr(r:RowD)(vr:By)(w:Bw)(hr:RowV w vr r)(hf:FlowOk r):Calls fZ 83 #[vr] w (cYb r w):=by
 obtain⟨s,u,vs,vd,rfl,h4,h5,h6,H⟩:=hr;obtain⟨A,C,rfl,_⟩:=H.len;obtain⟨_,l7,aC⟩:=H.eYz;have H7:=fQ H;have E:=fQ hf;have ar:=hf.n2;have au:=hf.n1;have HR:=fQ (show RowV w (.agg #[s,u,.int .i64 r.places,vs,.slice A r.code.length C]) r from⟨s,u,vs,_,rfl,h4,h5,h6,H⟩);obtain⟨n,hn⟩:=fX r.code.length;rw[hn]at HR ar au ⊢;have Q:=fQ hn;have aD:=fQ (show Below w.heap.size w (w.alloc (.cells #[s,u,.int .i64 r.places,vs,.slice A n C] 89))from(Av _ _).alloc (Aj _) _);have K0:=fQ (Blk.new w 89 #[s,u,.int .i64 r.places,vs,.slice A n C]);have mk:=bXf (P:=fZ) 24 4 (.bool false) 1 underlying24 cWh rfl n (by omega) (by omega);clear h4 h5 h6 H hf hn;go_in;go_wp2
 have al:=fQ (show CcM w n #[s,u,.int .i64 r.places,vs,.slice A n C] (fun _=>false) ((w.alloc (.cells #[s,u,.int .i64 r.places,vs,.slice A n C] 89)).alloc (.cells (Bj n (.bool false)) 4))from
  ⟨RB.new (t:=4) _ (N:=w.heap.size+1) (n:=n) false (by simp),K0.out.alloc _,al2 _ _ _⟩)
 clear mk;go_loopg [4] (aWg n (fun _=>false)*2+1) (fun gk v T=>∃ (b:Bool) (g:Nat->Bool),v = .bool b/\Hid (CcM w n #[s,u,.int .i64 r.places,vs,.slice A n C] g T)/\Hid (GInv r g)/\Hid (b=false->∀ j,j<n->g j=false->sJ g (edges r j)=true)/\Hid (aWg n g*2+(if b then 1 else 0)=gk))
 case atStart=>exact⟨true,_,rfl,al,fQ (GInv.start r),fQ (fun e=>by cases e),fQ rfl⟩
 case round=>
  clear al;obtain⟨b,g,rfl,IM,U,a,IK⟩:=hrel
  cases b with
  | false=>
   have f:=fun i (hi:i<n)=>IM.out.1.cell hi;have y1:=IM.out.1.lt;have V:=fQ f;have W:=fQ (U.out.done E.out (by rw[Q.out];exact a.out rfl));rw[Q.out]at W;clear f;go_wp2;go_loop [9] (fun i=>∃ k:Nat,k<=n/\i = .int .i64 k/\Hid (∀ j,j<k->g j=true)) (fun i=>n - (intOf i).toNat)
   case atStart=>exact⟨0,by omega,rfl,fQ (fun j h=>by omega)⟩
   case round=>
    obtain⟨k,hk,rfl,X⟩:=hrel;by_cases D:k<n
    ·have t1:decide ((k:Int)<n)=true:=(by simp;omega);have t2:(k:Int)<n:=(by omega);have f:=V.out _ D
     cases hg:g k with
     | false=>
      rw[hg]at f;have HG:=fQ hg;clear hg;go_wp2;go_ret;exact⟨true,rfl,⟨fun _=>W.out.1 ⟨k,D,HG.out⟩,fun _=>rfl⟩,IM.out.2.2⟩
     | true=>
      rw[hg]at f
      have HA:=fQ (show ∀ j,j<k+1->g j=true from fun j hj=>by
       by_cases e:j=k
       ·rw[e,hg]
       ·exact X.out j (by omega))
      clear hg X;go_wp2;go_round
      case rel=>exact⟨k+1,by omega,by simp,HA⟩
      case measure=>simp[intOf];omega
    ·have t1:decide ((k:Int)<n)=false:=(by simp;omega);go_wp2;go_ret
     exact⟨false,rfl,⟨fun e=>(by cases e),fun h=>by
      obtain⟨i,hi,hg⟩:=W.out.2 h;rw[X.out i (by omega)]at hg
      cases hg⟩,IM.out.2.2⟩
  | true=>
   obtain⟨M,Y⟩:=fX (aWg n g);have HK:=fQ (show M*2+1=gk by have:=IK.out;rw[Y]at this;simpa using this);have an:=fQ (show CcS r w n #[s,u,.int .i64 r.places,vs,.slice A n C] M n false g wr from⟨IM.out,U.out,Ab Y,(fun e=>by cases e),fun _ j h1 h2=>by omega⟩);obtain⟨Z,r1,r2,r3,r4⟩:=gJ IM.out.2.1;have y1:=IM.out.2.1.lt;have z1:IntKind.i64.wrap ((n:Int) - 1)=(n:Int) - 1:=Ac _ (by omega);clear Y IM U a IK Z r1 r2 r3;go_wp2_with fail;clear r4 y1;go_loopw [4,5] (fun tv iv T=>∃ (k:Nat) (x:Int) (b:Bool) (g:Nat->Bool),k<=n/\Hid (x=(k:Int) - 1)/\iv = .int .i64 x/\tv = .bool b/\Hid (CcS r w n #[s,u,.int .i64 r.places,vs,.slice A n C] M k b g T)) (fun _ iv _=>(intOf iv+1).toNat)
   case atStart=>exact⟨n,_,false,g,by omega,fQ rfl,rfl,rfl,an⟩
   case round=>
    clear an;obtain⟨k,x,b,g,hk,R,rfl,rfl,a⟩:=hrel;rcases Ad k with rfl | ah
    ·have o:x = -1:=(by have:=R.out;omega);subst o;clear R;go_wp2;go_roundg (aWg n g*2+(if b then 1 else 0))
     case measure=>
      rw[<-HK.out];have h1:=a.out.2.2.1;have h2:=a.out.2.2.2.1
      cases b with
      | true=>have:=h2 rfl;simp;omega
      | false=>simp;omega
     case rel=>exact⟨b,g,rfl,fQ a.out.1,fQ a.out.2.1,fQ (fun e j hj=>a.out.2.2.2.2 e j (by omega) hj),fQ rfl⟩
    ·obtain⟨d,rfl⟩:∃ d,k=d+1:=⟨k - 1,by omega⟩;have o:x=(d:Int):=(by have:=R.out;omega);subst o;have t1:decide ((0:Int)<=(d:Int))=true:=(by simp);have D:d<n:=(by omega);have aw:(d:Int)<n:=(by omega);have z2:IntKind.i64.wrap ((d:Int) - 1)=(d:Int) - 1:=Ac _ (by omega);obtain⟨c,hc⟩:∃ c,r.code[d]? = some c:=⟨_,Ay (by rw[Q.out];exact D)⟩;obtain⟨gb,go,p,q,tt,rfl,ax,g0,_⟩:=H7.out.code hc;replace g0:=(a.out.1.2.2.cell (p:=⟨gb,_,none⟩) ax).trans g0;obtain⟨Z,r1,r2,r3,r4⟩:=gJ a.out.1.2.1;have y1:=a.out.1.2.1.lt;have y2:gb<wr.heap.size:=(by have:=a.out.1.2.2.size;omega);have f:=a.out.1.1.cell D;have y4:=a.out.1.1.lt;have z4:=frz a.out.1.1 d;have F:=fQ hc;clear hc R ah;by_cases G:c.op=258
     ·have t2:(c.op != 258)=false:=(by simp[G]);have I:=fQ (bXh F.out G);clear G
      cases hg:g d with
      | true=>
       rw[hg]at f;have y:=fQ (a.out.stay (Av _ _) (fun e=>by rw[hg]at e;cases e));clear a hg;go_wp2;exact⟨⟨d,_,b,g,by omega,fQ rfl,rfl,rfl,y⟩,by first | (simp[intOf];done) | (simp[intOf];omega)⟩
      | false=>
       rw[hg]at f;have y:=fQ (a.out.gone (Av _ _) E.out D hg (by rw[I.out];rfl));clear a hg;go_wp2;exact⟨⟨d,_,true,_,by omega,fQ rfl,rfl,rfl,y⟩,by first | (simp[intOf];done) | (simp[intOf];omega)⟩
     ·have t2:(c.op != 258)=true:=(by simp[G]);have I:=fQ (bQo F.out G);have ay:=fQ a.out.1.2.2;clear G;go_wp2_with fail;refine(cWj r _ d c _ (HR.out.below ay.out (Aj _)) F.out (E.out.to d c F.out).2.1).mono ?_;rintro en w1 ⟨vl,rfl,J,hb⟩;obtain⟨B,cB,rfl⟩:=J.shape;obtain⟨l,K⟩:=fX (nextOf c d);rw[K]at I;have az:=fQ (show ∀ x∈l,0<=x/\x<(n:Int)from fun x o=>by rw[<-Q.out];exact(E.out.to d c F.out).1 x (by rw[K];exact o));rw[K]at J ⊢;obtain⟨m,S⟩:=fX l.length;rw[S]at J ⊢;have aA:m<=66:=(by rw[<-S,<-K];exact(E.out.to d c F.out).2.2);have HM:=fQ S;have HL:=fQ J;have ai:=fQ hb;have L:=a.out.1.keep hb;have V:=fQ (fun i (hi:i<n)=>L.1.cell hi);have f:=L.1.cell D;have y4:=L.1.lt;have z4:=frz L.1 d;clear J hb K S L Z r1 r2 r3 r4 y1 y2 g0;go_wp2_with fail;go_loop [6,8] (fun sv j=>∃ q:Nat,q<=m/\j = .int .i64 q/\sv = .bool (sJ g (l.take q))) (fun _ j=>m - (intOf j).toNat)
      case atStart=>exact⟨0,by omega,rfl,by simp[sJ]⟩
      case round=>
       obtain⟨q,hq,rfl,rfl⟩:=hrel;by_cases aB:q<m
       ·have t3:decide ((q:Int)<m)=true:=(by simp;omega);have t4:(q:Int)<m:=(by omega);obtain⟨x,o⟩:∃ x,l[q]? = some x:=⟨_,Ay (by rw[HM.out];exact aB)⟩;have aq:=az.out x (AQ o);obtain⟨z,rfl⟩:∃ z:Nat,x=z:=⟨x.toNat,by omega⟩;have aE:(z:Int)<n:=aq.2;have aj:z<n:=(by omega);have O:=fQ (cZp (g:=g) o);rw[Ag]at O;obtain⟨ab,ao,rfl,aF,aG⟩:=HL.out.cell o;have c5:=V.out _ aj;clear o aq
        cases hs:sJ g (l.take q)with
        | true=>
         have HT:=fQ (show sJ g (l.take (q+1))=true by rw[O.out,hs];rfl);clear hs O;go_wp2;go_round
         case rel=>exact⟨q+1,by omega,by simp,by rw[HT.out]⟩
         case measure=>simp[intOf];omega
        | false=>
         obtain⟨tb,ak⟩:=fX (g z);rw[ak]at c5;have HT:=fQ (show sJ g (l.take (q+1)) = !tb by rw[O.out,hs,ak];rfl);clear hs O ak;go_wp2;go_round
         case rel=>exact⟨q+1,by omega,by simp,by rw[HT.out]⟩
         case measure=>simp[intOf];omega
       ·have t3:decide ((q:Int)<m)=false:=(by simp;omega);have et:l.take q=l:=AY (by rw[HM.out];omega);rw[et];clear et
        cases hs:sJ g l with
        | true=>
         have y:=fQ (a.out.stay ai.out (fun _=>by rw[I.out];exact hs));clear a hs;go_wp2;exact⟨⟨d,_,b,g,by omega,fQ rfl,rfl,rfl,y⟩,by first | (simp[intOf];done) | (simp[intOf];omega)⟩
        | false=>
         cases hg:g d with
         | true=>
          rw[hg]at f;have y:=fQ (a.out.stay ai.out (fun e=>by rw[hg]at e;cases e));clear a hg hs;go_wp2;exact⟨⟨d,_,b,g,by omega,fQ rfl,rfl,rfl,y⟩,by first | (simp[intOf];done) | (simp[intOf];omega)⟩
         | false=>
          rw[hg]at f;have y:=fQ (a.out.gone ai.out E.out D hg (by rw[I.out];exact hs));clear a hg hs;go_wp2;exact⟨⟨d,_,true,_,by omega,fQ rfl,rfl,rfl,y⟩,by first | (simp[intOf];done) | (simp[intOf];omega)⟩
theorem cZv(e:EnvD)(r:RowD)(ve vr:By)(w:Bw)(he:EnvV w ve e)(hr:RowV w vr r):Calls fZ 50 #[ve,vr] w (ChkPost e r w):=by
 have HE:=fQ he;have HR:=fQ hr;obtain⟨va,vb,M,rfl,h1,h2,h3⟩:=he;obtain⟨vp,vq,vr,vs,rfl,h4,h5,O,P⟩:=hr;have H4:=fQ h4;have H5:=fQ h5;have H6:=fQ O;have H7:=fQ P;obtain⟨l,m,rfl⟩:=h4.shape;obtain⟨o,s,rfl⟩:=h5.shape;obtain⟨R,S,rfl⟩:=O.shape;obtain⟨T,U,rfl,_⟩:=P.len;obtain⟨_,l6,aQ⟩:=O.eYz;obtain⟨_,l7,aR⟩:=P.eYz;have V:=fQ (al2 w (.cells #[va,.int .i64 e.imports,vb,M,.bool e.mem] 26) (.cells #[.slice l r.sig.inn.length m,.slice o r.sig.out.length s,.int .i64 r.places,.slice R r.params.length S,.slice T r.code.length U] 89));have g:=fQ ((Blk.new w 26 #[va,.int .i64 e.imports,vb,M,.bool e.mem]).alloc (.cells #[.slice l r.sig.inn.length m,.slice o r.sig.out.length s,.int .i64 r.places,.slice R r.params.length S,.slice T r.code.length U] 89));have f:=fQ (Blk.newAt (w.alloc (.cells #[va,.int .i64 e.imports,vb,M,.bool e.mem] 26)) (N:=w.heap.size+1) 89 #[.slice l r.sig.inn.length m,.slice o r.sig.out.length s,.int .i64 r.places,.slice R r.params.length S,.slice T r.code.length U] (by simp));clear h1 h2 h3 h4 h5 O P;go_in;go_wp2_with fail;refine(aQq _ e _ (HE.out.below V.out (Aj _))).mono ?_;rintro en w1 ⟨rfl,W⟩;have a:=fQ (V.out.trans (W.mono V.out.size));have g:=fQ (g.out.below W g.out.lt);have f:=fQ (f.out.below W f.out.lt);clear W;obtain⟨z,A,B,C,D⟩:=gJ f.out;obtain⟨E,F,G,H,I⟩:=gJ g.out;have y0:=g.out.lt;have y1:=f.out.lt
 cases X:envOk e with
 | false=>
  have Q:=fQ X;clear X;go_wp2;go_ret;exact ChkPost.no (fun d=>by have:=d.env;rw[Q.out]at this;cases this) a.out
 | true=>
  have Q0:=fQ X;clear X;by_cases J:r.code.length=0
  ·have g2:decide ((r.code.length:Int)<1)=true:=decide_eq_true (by omega);have aE:decide (r.code.length<1)=true:=decide_eq_true (by omega);have aF:r.code = []:=Ak J;have Q:=fQ J;clear J;go_wp2;go_ret;exact ChkPost.no (fun d=>by have:=d.n1;rw[Q.out]at this;omega) a.out
  have g2:decide ((r.code.length:Int)<1)=false:=decide_eq_false (by omega);have aE:decide (r.code.length<1)=false:=decide_eq_false (by omega);have aF:¬r.code = []:=fun e=>J (by rw[e];rfl);have ao:1<=r.code.length:=(by omega);by_cases q3:4096<r.code.length
  ·have g3:decide (4096<(r.code.length:Int))=true:=(by simp;omega);have aG:decide (4096<r.code.length)=true:=(by simp;omega);go_wp2;go_ret;exact ChkPost.no (fun d=>by have:=d.n2;omega) a.out
  have g3:decide (4096<(r.code.length:Int))=false:=(by simp;omega);have aG:decide (4096<r.code.length)=false:=(by simp;omega);have Y:r.code.length<=4096:=(by omega);by_cases q4:r.places<0
  ·have g4:decide (r.places<0)=true:=(by simpa using q4);go_wp2;go_ret;exact ChkPost.no (fun d=>by have:=d.p1;omega) a.out
  have g4:decide (r.places<0)=false:=(by simpa using q4);by_cases q5:4096<r.places
  ·have g5:decide (4096<r.places)=true:=(by simpa using q5);go_wp2;go_ret;exact ChkPost.no (fun d=>by have:=d.p2;omega) a.out
  have g5:decide (4096<r.places)=false:=(by simpa using q5);by_cases qi:8<r.sig.inn.length
  ·have gi:decide (8<(r.sig.inn.length:Int))=true:=(by simp;omega);have aH:decide (8<r.sig.inn.length)=true:=(by simp;omega);go_wp2;go_ret;exact ChkPost.no (fun d=>by have:=(aYi d.sig).1;omega) a.out
  have gi:decide (8<(r.sig.inn.length:Int))=false:=(by simp;omega);have aH:decide (8<r.sig.inn.length)=false:=(by simp;omega);by_cases qo:8<r.sig.out.length
  ·have aq:decide (8<(r.sig.out.length:Int))=true:=(by simp;omega);have aI:decide (8<r.sig.out.length)=true:=(by simp;omega);go_wp2;go_ret;exact ChkPost.no (fun d=>by have:=(aYi d.sig).2;omega) a.out
  have aq:decide (8<(r.sig.out.length:Int))=false:=(by simp;omega);have aI:decide (8<r.sig.out.length)=false:=(by simp;omega);by_cases Z:r.params.length=r.sig.inn.length
  ·have g6:((r.params.length:Int) != (r.sig.inn.length:Int))=false:=(by simp;omega);have aJ:(r.params.length != r.sig.inn.length)=false:=(by simp;omega);have Q6:=fQ Z;clear Z;go_wp2_with fail;refine(aZt true r.places _ r.params _ (H6.out.ir.below a.out (Aj _)) (by omega)).mono ?_;rintro en w3 ⟨rfl,m3,rfl⟩;have a:=fQ (fV a.out m3);have g:=fQ (g.out.drewN m3);have f:=fQ (f.out.drewN m3);generalize w1.drewN m3=w1 at *;clear z A B C D E F G H I y0 y1;obtain⟨z,A,B,C,D⟩:=gJ f.out;obtain⟨E,F,G,H,I⟩:=gJ g.out;have y0:=g.out.lt;have y1:=f.out.lt
   cases K:lW r.places r.params true with
   | false=>
    have Q:=fQ K;clear K;go_wp2;go_ret
    exact ChkPost.no (fun d=>by
     have h:=Q.out;unfold lW at h;rw[d.pin,decide_eq_true d.pun]at h
     cases h) a.out
   | true=>
    have Q7:=fQ (show within r.places r.params=true/\r.params.Nodup by
     unfold lW at K
     simpa using K)
    clear K;have L:=fQ (a.out.alloc a.out.size (.cells #[.slice l r.sig.inn.length m,.slice o r.sig.out.length s] 62));have ar:=fQ (g.out.alloc (.cells #[.slice l r.sig.inn.length m,.slice o r.sig.out.length s] 62));have au:=fQ (f.out.alloc (.cells #[.slice l r.sig.inn.length m,.slice o r.sig.out.length s] 62));go_wp2_with fail;refine(aQq _ (bZx r.sig) _ (cWb (Blk.new w1 62 #[.slice l r.sig.inn.length m,.slice o r.sig.out.length s]) (H4.out.below L.out (Aj _)) (H5.out.below L.out (Aj _)))).mono ?_;rintro en w2 ⟨rfl,ak⟩;rw[cXo];have a:=fQ (L.out.trans (ak.mono L.out.size));have g:=fQ (ar.out.below ak ar.out.lt);have f:=fQ (au.out.below ak au.out.lt);clear ak;clear z A B C D E F G H I y0 y1
    cases q1:sigOk r.sig with
    | false=>
     have Q:=fQ q1;clear q1;go_wp2;go_ret;exact ChkPost.no (fun d=>by have:=d.sig;rw[Q.out]at this;cases this) a.out
    | true=>
     have Q1:=fQ q1;clear q1;obtain⟨n,hn⟩:=fX r.code.length;have j:=fQ hn;have aK:=fQ (show 0<=r.places/\r.places<=4096 by omega);have hK:=fQ (show 0<n/\n<=4096 by omega);rw[hn]at f HR ⊢;rw[hn]at ao Y;clear hn g2 aE aF g3 aG J q3 q4 q5 g4 g5 qi qo gi aH aq aI g6 aJ l6 aQ l7 aR V ar au L;go_wp2;go_loopw [6] (fun i wr=>∃ k:Nat,k<=n/\i = .int .i64 k/\Hid (∀ c∈r.code.take k,codeOk e r c=true)/\Hid (Below w.heap.size w wr)/\Hid (Blk wr w.heap.size 26 #[va,.int .i64 e.imports,vb,M,.bool e.mem])/\Hid (Blk wr (w.heap.size+1) 89 #[.slice l r.sig.inn.length m,.slice o r.sig.out.length s,.int .i64 r.places,.slice R r.params.length S,.slice T n U])) (fun i _=>n - (intOf i).toNat)
     case atStart=>exact⟨0,by omega,rfl,fQ (by simp),a,g,f⟩
     case round=>
      clear a g f;obtain⟨k,hk,rfl,IC,a,g,f⟩:=hrel;obtain⟨z,A,B,C,D⟩:=gJ f.out;obtain⟨E,F,G,H,I⟩:=gJ g.out;have y0:=g.out.lt;have y1:=f.out.lt;by_cases aS:k<n
      ·have t1:decide ((k:Int)<n)=true:=(by simp;omega);have t2:(k:Int)<n:=(by omega);obtain⟨c,hc⟩:∃ c,r.code[k]? = some c:=⟨_,Ay (by rw[j.out];exact aS)⟩;have HC:=fQ hc;clear hc;go_wp2_with fail;refine(cWm e r c k _ _ _ (HE.out.below a.out (Aj _)) (HR.out.below a.out (Aj _)) HC.out Q0.out Q1.out (by rw[j.out];exact Y)).mono ?_;rintro en w5 ⟨rfl,al⟩;have aL:=fQ (a.out.trans (al.mono a.out.size));have aT:=fQ (g.out.below al g.out.lt);have aU:=fQ (f.out.below al f.out.lt);clear al z A B C D E F G H I y0 y1
       cases q9:codeOk e r c with
       | false=>
        have Q:=fQ q9;clear q9;go_wp2;go_ret;exact ChkPost.no (fun d=>by have:=d.code c (AQ HC.out);rw[Q.out]at this;cases this) aL.out
       | true=>
        have HA:=fQ (show ∀ c∈r.code.take (k+1),codeOk e r c=true from fun c' aM=>by
         obtain⟨aV,e'⟩:=List.getElem?_eq_some_iff.1 HC.out;rw[AK aV,e',List.mem_append]at aM;rcases aM with h | h
         ·exact IC.out c' h
         ·simp at h;rw[h];exact q9)
        clear q9 IC;go_wp2;exact⟨⟨k+1,by omega,by simp,HA,aL,aT,aU⟩,by simp[intOf];omega⟩
      ·have t1:decide ((k:Int)<n)=false:=by simp;omega
       have Q9:=fQ (show ∀ c∈r.code,codeOk e r c=true by
        have:=IC.out
        rwa[AY (by rw[j.out];omega)]at this)
       have aW:(0:Int)<(n:Int):=(by omega);have aX:0<n:=(by omega);obtain⟨u,aw⟩:∃ u,r.code[0]? = some u:=⟨_,Ay (by rw[j.out];omega)⟩;obtain⟨c1,ax⟩:∃ c1,r.code[r.code.length - 1]? = some c1:=⟨_,Ay (by rw[j.out];omega)⟩;have an:=H7.out.below a.out (Aj _) (fun _ _ h=>h.below a.out (Aj _));rw[j.out]at an;obtain⟨gb,go,p,q,t,eA,ba,m0,_⟩:=an.code aw;obtain⟨bb,aq,p',q',t',ay,aY,m1,_⟩:=an.code ax;subst eA;injection ay with ay;injection ay with e1 e2;subst e1;subst e2;rw[j.out]at m1;obtain⟨kk,az⟩:∃ kk,n=kk+1:=⟨n - 1,by omega⟩;have m1:=m1;rw[az]at m1;simp only[Nat.add_sub_cancel,Bz,Bk]at m0 m1;have bc:(kk:Int)<(n:Int):=(by omega);have aZ:kk<n:=(by omega);have bd:IntKind.i64.wrap ((n:Int) - 1)=(kk:Int):=(by rw[show(n:Int) - 1=(kk:Int) by omega];exact Ac _ (by omega));have C0:=fQ aw;have C1:=fQ ax;have HK:=fQ az;clear aw ax an az;have aA:=fQ (fun(h:¬(u.op=258/\(273<=c1.op/\c1.op<=277)/\c1.op≠274))=>(show ¬CheckP e r from fun d=>h ⟨d.first u C0.out,by have:=d.last c1 C1.out;omega,by have:=d.last c1 C1.out;omega⟩));by_cases v:u.op=258
       ·have g10:(u.op == 258)=true:=(by simpa using v);have aB:=fQ v;clear v;go_wp2_with fail;refine(dJx c1.op _).mono ?_;rintro en w6 ⟨rfl,rfl⟩;by_cases x:273<=c1.op/\c1.op<=277
        ·rw[decide_eq_true x];have aC:=fQ x;clear x;by_cases y:c1.op=274
         ·have g12:(c1.op != 274)=false:=(by simp[y]);have aD:=fQ y;clear y;go_wp2;go_ret;exact ChkPost.no (aA.out (fun h=>h.2.2 aD.out)) a.out
         ·have g12:(c1.op != 274)=true:=(by simp[y]);have aD:=fQ y;clear y;have ag:=fQ (show c1.op=273\/c1.op=275\/c1.op=276\/c1.op=277 by have:=aC.out;have:=aD.out;omega);have a1:=fQ (cXp (by rw[j.out];exact ao) (by rw[j.out];exact Y) Q9.out (fun c hc=>by rw[C1.out]at hc;injection hc with hc;rw[<-hc];exact(aKa _).2 ag.out));go_wp2_with fail;refine(cQr r _ _ (HR.out.below a.out (Aj _)) a1.out).mono ?_;rintro en w7 ⟨b,rfl,aN,aO⟩;have a6:=fQ (a.out.trans (aO.mono a.out.size));have aP:=fQ aN;clear aO aN;go_wp2;go_ret;refine⟨!b,rfl,⟨fun hb=>?_,fun d=>?_⟩,a6.out⟩
          ·have a7:¬b=true:=(by simpa using hb);have a8:Ranked r:=Classical.byContradiction fun h=>a7 (aP.out.2 h);exact⟨Q0.out,Q1.out,by rw[j.out];exact ao,by rw[j.out];exact Y,aK.out.1,aK.out.2,Q6.out,Q7.out.1,Q7.out.2,Q9.out,(fun c hc=>by rw[C0.out]at hc;injection hc with hc;rw[<-hc];exact aB.out),(fun c hc=>by rw[C1.out]at hc;injection hc with hc;rw[<-hc];exact ag.out),a8⟩
          ·cases b with
           | false=>rfl
           | true=>exact absurd d.rank (aP.out.1 rfl)
        ·rw[decide_eq_false x];have aC:=fQ x;clear x;go_wp2;go_ret;exact ChkPost.no (aA.out (fun h=>aC.out h.2.1)) a.out
       ·have g10:(u.op == 258)=false:=(by simpa using v);have aB:=fQ v;clear v;go_wp2;go_ret;exact ChkPost.no (aA.out (fun h=>aB.out h.1)) a.out
  ·have g6:((r.params.length:Int) != (r.sig.inn.length:Int))=true:=(by simp;omega);have aJ:(r.params.length != r.sig.inn.length)=true:=(by simp;omega);have Q6:=fQ Z;clear Z;go_wp2;go_ret;exact ChkPost.no (fun d=>Q6.out d.par) a.out
theorem aKr{P:Program}{ops:Array Oper}{o:Oper}{a:Act}{w:Bw}{K:Act->Bw->Prop}{Q:Exit->Act->Bw->Prop}{E:Prop}(D:o.guard=none)(s x:Operand)(t:TypeId)
    (F:o.op = .call { callee:=.builtin .append,args:=#[s,x],argTypes:=#[t,t] })
    (base:Nat) (e:TypeId) (z:By) (size bytes:Nat) (k:P.underlying t=some (.slice e)) (hinfo:(P.info? e).map (fun i=>(i.zero,i.size,i.bytes))=some (some z,size,bytes)) (G:z.cells.size=size) (y:0<size)
    (v:By) (n:Nat) (f:List By) (hs:a.eval s=v) (l:w.ownsRow base e size v n f)
    (A:Option Addr) (m c:Nat) (news:List By) (H:a.eval x = .slice A m c) (d:Src w A (m*size) news) (h1:∀ u∈news,u.oneCell'=true)
    (I:n+m<=maxLen) (hbytes:(n+m)*bytes<=140737488355328) (hbase:base<=w.heap.size)
    (h:∀ v' w',w'.ownsRow base e size v' (n+m) (f++news)->w.grownBy w' v.ownBlock->(v'.ownBlock=v.ownBlock\/v'.ownBlock=some w.heap.size)->K (a.put o.dst v') w') :
    if Region.wanted o (yielded ops a.tmps)=true then Oper.wp P o a w K Q else E:=by
  obtain⟨i,hi,J,L,M⟩:=info_parts hinfo
  have key:∃ v' w',(Builtin.append_ #[t,t] o.type #[v,.slice A m c]).run P w = .ok v' w'/\w'.ownsRow base e size v' (n+m) (f++news)/\w.grownBy w' v.ownBlock/\(v'.ownBlock=v.ownBlock\/v'.ownBlock=some w.heap.size):=by
    rcases A with _ | N
    · have O:m=0:=by
        rcases Ad m with p | p
        · exact p
        · obtain⟨b,o,R,_⟩:=d.2 (Nat.mul_pos p y)
          cases R
      subst O;have S:news = []:=Ak (by rw[d.1,Bz]);subst S;refine⟨v,w,?_,by simpa using l,World.grownBy.refl w _,.inl rfl⟩;rcases l.2 with⟨rfl,rfl⟩ | ⟨g,cap,cur,rfl,_,_,T,_⟩
      · simp[Builtin.append_,run_underlying k,sizeOf,typeInfo,hi,Builtin.lenOf,Builtin.firstCells]
      · simp[Builtin.append_,run_underlying k,sizeOf,typeInfo,hi,Builtin.lenOf,Builtin.firstCells,T,storeCells]
    · obtain⟨v',w',q,h2,r,B,U⟩:=run_append_own_at (P:=P) w base t o.type e i z size bytes k hi J L M G y v n f l N m c news d.1
        (fun j u C=>by
          have hj:=(List.getElem?_eq_some_iff.1 C).1;obtain⟨b,o,e',_,hc⟩:=d.2 (by have:=d.1;omega);injection e' with e';subst e';rw[Bv]
          exact hc j u C) h1 I hbytes hbase
      exact⟨v',w',q,h2,r,U⟩
  obtain⟨v',w',q,h2,r,B⟩:=key;have V:Region.wanted o (yielded ops a.tmps)=true:=(by simp[Region.wanted,D]);rw[if_pos V];unfold Oper.wp execOp;simp only[F,resolve,invoke,builtin,Sem.run_bind,Sem.run_pure,Result.andThen_ok,List.map_toArray,List.map_cons,List.map_nil,hs,H,q];exact h v' w' h2 r B
structure HoS (C:KaC) (X:KaS) (w:Bw) (SB:Nat) (cs:Array By) (v:By) (l:List Nat) (lab:Nat->Nat) (wr:Bw):Prop where
 rest:KRest C { X with lab:=lab,lv:=v,x:={ X.x with s:={ X.x.s with log:=l } } } wr
 cb:Blk wr C.cb 68 (kCells C X)
 kk:KK X { X with lab:=lab } w wr
 box:Blk wr SB 62 cs
 bl:lab SB=0
theorem HoS.below{C:KaC}{X:KaS}{w:Bw}{SB:Nat}{cs:Array By}{v:By}{l:List Nat}{lab:Nat->Nat}{wr w':Bw}(h:HoS C X w SB cs v l lab wr)(a:Below wr.heap.size wr w'):HoS C X w SB cs v l lab w':=
 ⟨h.rest.but (Y:={ X with lab:=lab,lv:=v,x:={ X.x with s:={ X.x.s with log:=l } } }) 0 a.size (h.rest.bel.trans (a.mono h.rest.bel.size)) (fun k b _=>a.block k (h.rest.lb k b).2) (fun k b=>⟨(h.rest.lb k b).1,Aw (h.rest.lb k b).2 a.size⟩) (fun _ _ _=>rfl) h.rest.cl (by decide) (.inr ⟨by decide,rfl⟩) (.inr ⟨by decide,rfl,rfl⟩) (.inr ⟨by decide,rfl,rfl⟩) (.inr ⟨by decide,rfl,rfl⟩) (.inr ⟨by decide,rfl,rfl,rfl⟩) (.inr ⟨by decide,rfl,rfl⟩) ⟨by decide,rfl⟩ (.inr ⟨by decide,rfl,rfl⟩),
  h.cb.below a h.cb.lt,h.kk.below a,h.box.below a h.box.lt,h.bl⟩
theorem HoS.app{C:KaC}{X:KaS}{cs:Array By}{v':By}{b:List Nat}{lab:Nat->Nat}(h:HoS C X w SB cs v l lab wr)(f:w'.ownsRow C.w0.heap.size 52 1 v' b.length (u64V b))(hg:wr.grownBy w' v.ownBlock)(d:v'.ownBlock=v.ownBlock\/v'.ownBlock=some wr.heap.size):HoS C X w SB cs v' b (mK lab v' 4) w':=by
 have l4:∀ k,v.ownBlock=some k->lab k=4:=h.rest.l4;refine⟨h.rest.fXn f hg d,h.cb.grown hg (fun e=>?_),?_,h.box.grown hg (fun e=>?_),?_⟩
 ·have h1:=l4 _ e;have h2:lab C.cb=1:=h.rest.cl;omega
 ·refine(h.kk.grown hg (fun k a=>.inl (by show lab k≠0;rw[l4 k a];decide))).fQc (v:=v') (c:=4) (fun k a=>?_);rcases d with e | e
  ·exact .inr (by show lab k≠0;rw[l4 k (by rw[<-e];exact a)];decide)
  ·rw[a]at e;injection e with e;exact .inl (by rw[e];exact h.kk.size)
 ·have h1:=l4 _ e;have h2:=h.bl;omega
 ·rw[tQ]
  ·exact h.bl
  ·intro e;rcases d with e2 | e2
   ·have h1:=l4 SB (by rw[<-e2];exact e);have h2:=h.bl;omega
   ·rw[e]at e2;injection e2 with e2;have:=h.box.lt;omega
theorem HoS.fin{C:KaC}{X:KaS}{cs:Array By}{lab:Nat->Nat}(h:HoS C X w SB cs v l lab wr):KRef C { X with lab:=lab,lv:=v,x:={ X.x with s:={ X.x.s with log:=l } } } (wr.setCell ⟨C.cb,11,none⟩ v)/\KK X { X with lab:=lab } w (wr.setCell ⟨C.cb,11,none⟩ v)/\Blk (wr.setCell ⟨C.cb,11,none⟩ v) SB 62 cs:=
 ⟨h.rest.fQn h.cb 11 v (by simp[kCells]),(h.kk.set (y:={ X with lab:=lab }) (g:=C.cb) 11 v (.inl (by show lab C.cb≠0;rw[show lab C.cb=1 from h.rest.cl];decide)) rfl),h.box.setCell v (fun e=>by
  have e:SB=C.cb:=e;have h2:=h.bl;rw[e,show lab C.cb=1 from h.rest.cl]at h2
  cases h2)⟩
theorem HoS.r{C:KaC}{X:KaS}{p q:By}{lab:Nat->Nat}(h:HoS C X w SB #[p,q] v l lab wr):wr.cell? ⟨C.mm,0,none⟩=some (.pointer (some ⟨C.cb,0,none⟩))/\wr.cell? ⟨SB,0,none⟩=some p/\C.mm<wr.heap.size/\C.cb<wr.heap.size/\SB<wr.heap.size:=
 ⟨h.rest.mm.cell 0,h.box.cell 0,h.rest.mm.lt,h.cb.lt,h.box.lt⟩
def HoC(C:KaC)(X:KaS)(w:Bw)(SB:Nat)(cs:Array By)(l:List Nat)(wx:Bw):Prop:=∃ (lab:Nat->Nat) (v:By),KRef C { X with lab:=lab,lv:=v,x:={ X.x with s:={ X.x.s with log:=l } } } wx/\KK X { X with lab:=lab } w wx/\Blk wx SB 62 cs/\lab SB=0
theorem dYx{l:List Int}(h:IR w (.slice A n c) l)(hk:k<=n):IR w (.slice A k c) (l.take k):=by
 obtain⟨A',c',e,hs⟩:=h;injection e with b e2 d;subst b;subst d;have a:(l.take k).length=k:=(by rw[AJ];omega);refine⟨A,c,by rw[a],?_⟩;have:=hs.take (i:=k) (by omega);rw[a];unfold i64s at this ⊢
 rwa[<-Bx]at this
theorem dYy(h:UR w (.slice A n c) l)(b:k<=n):UR w (.slice A k c) (l.take k):=by
 obtain⟨e,hs,hc,d,hz,f⟩:=h.len;have a:(l.take k).length=k:=(by rw[AJ];omega);refine⟨A,c,by rw[a],?_,by omega,d,by omega,aVs f k⟩;have:=hs.take (i:=k) b;rw[a];unfold u64V at this ⊢
 rwa[<-Bx]at this
theorem dYz{b o:Nat}{a:Option Nat}(h:UR w (.slice (some ⟨b,o,a⟩) n c) l)(f:k<=n):UR w (.slice (some (AX ⟨b,o,a⟩ k)) (n - k) (c - k)) (l.drop k):=by
 obtain⟨e,hs,hc,h0,hz,g⟩:=h.len;have d:(l.drop k).length=n - k:=(by rw[List.length_drop];omega);refine⟨_,c - k,by rw[d],?_,by omega,(fun e=>by cases e),by omega,aZx g k⟩;rw[d];rcases Ad n with h1 | h1
 ·have:l = []:=Ak (by omega);subst this;rw[show n - k=0 by omega,List.drop_nil];exact Src.nil _ _
 ·obtain⟨b',o',e2,_⟩:=hs.2 h1;injection e2 with e2;injection e2 with _ _ j;subst j;rw[Bv];have:=hs.drop (i:=k) f;unfold u64V at this ⊢
  rwa[<-List.map_drop]at this
theorem eQa(h:UR w (.slice A n c) l):UR w (.slice A 0 0) (l.drop n):=by
 have e:=h.len.1;have a:l.drop n = []:=Ah (by omega);rw[a];exact⟨A,0,rfl,Src.nil _ _,Aj _,(fun _=>rfl),⟨by simp,by omega⟩,nW⟩
theorem HoC.s1{C:KaC}{X:KaS}{p q:By}{wx:Bw}(h:HoC C X w SB #[p,q] l wx):wx.cell? ⟨C.mm,0,none⟩=some (.pointer (some ⟨C.cb,0,none⟩))/\wx.cell? ⟨SB,0,none⟩=some p/\C.mm<wx.heap.size/\C.cb<wx.heap.size/\SB<wx.heap.size:=by
 obtain⟨lab,v,h1,h2,a,h4⟩:=h;exact⟨h1.eYx,a.cell 0,h1.mm.lt,h1.cb.lt,a.lt⟩
def bXq(C:KaC)(X:KaS)(n:Nat)(outs:List Int)(a:List Nat)(w:Bw)(en:Ending)(w':Bw):Prop:=
 ∃ (vo:By) (X':KaS),en = .returned (.tuple #[vo,.int .i64 (hostV n outs a X.x.s).2.1])/\KRef C X' w'/\KK X X' w w'/\X'.x={ X.x with s:=(hostV n outs a X.x.s).2.2 }/\X'.sv=X.sv/\X'.ps=X.ps /\
  w'.ownsRow w.heap.size 52 1 vo (hostV n outs a X.x.s).1.length (u64V (hostV n outs a X.x.s).1)/\∀ k,vo.ownBlock=some k->X'.lab k=0
theorem cYv(n:Nat)(l:List Nat):u64V (n :: l) = .int .u64 (n:Int) :: u64V l:=rfl
theorem bKa(C:KaC)(X:KaS)(n:Nat)(g:SigD)(va:By)(a:List Nat)(w:Bw)(h:KRef C X w)(hC:KC C)(hg:C.p.env.sigs[n]? = some g)(a8:∀ (Y Y':KaS) (w':Bw),KRest C Y w'->Y.x.first=X.x.first->KK X Y' w w'->UR w' va a)(aG:a.length=g.inn.length)(aN:X.x.s.log.length<=1000000000):
  Calls fZ 30 #[.pointer (some ⟨C.mm,0,none⟩),.int .i64 n,va] w (bXq C X n g.out (lowL g.inn a) w):=by
 obtain⟨sb,so,ns,cs,q,sq,ba,aO,bp,s1,s2,s3,s4,s5⟩:=hC.sig h.bel hg;have ay:=wQ hC.ok.env hg;obtain⟨O,c1,rfl⟩:=s4.shape;obtain⟨J,G,rfl⟩:=s5.shape;have m0:=h.eYx;have c0:w.cell? ⟨C.cb,0,none⟩=some (.slice (some ⟨sb,so,none⟩) ns cs):=(by rw[h.cell 0];simp[kCells,ba]);have yb:=h.cb.lt;have ym:=h.mm.lt;have bq:(n:Int)<(ns:Int):=(by omega);have br:IntKind.u64.wrap (n:Int)=(n:Int):=pZ (by omega);have bs:n<=64:=(by omega);obtain⟨AL,cL,aP,bt⟩:=fJ h.log;obtain⟨L,hL⟩:=fX X.x.s.log.length;rw[hL]at aP bt aN;obtain⟨z,aQ⟩:=fX g.inn.length;obtain⟨d,aR⟩:=fX g.out.length;rw[aQ]at aG s2 s4 ay;rw[aR]at s3 s5 ay;have bb:(lowL g.inn a).length=z:=(by rw[rW _ _ (by omega),aG]);have aH:=(Av w.heap.size w).alloc (Aj _) (.cells #[.slice O z c1,.slice J d G] 62)
 have aI:=fQ (show HoS C X w w.heap.size #[.slice O z c1,.slice J d G] X.lv X.x.s.log X.lab (w.alloc (.cells #[.slice O z c1,.slice J d G] 62)).drew from
  HoS.below ⟨(h.below aH).toKRest,(h.below aH).cb,KK.eYy aH,Blk.new _ _ _,KRef.fresh h.toKRest (Aj _)⟩ (Av _ _).drew)
 have H:=fQ h;have bc:=fQ a8;have aS:=fQ aG;have aT:=fQ bb;have aU:=fQ aQ;have aw:=fQ aR;have Z:=fQ aP;have az:=fQ hL;have bd:=fQ s4.ir;have bu:=fQ s5.ir;have aV:=fQ s5;have bO:=h.bel.size;have bw:=ay.1;have bz:=ay.2;clear a8 aG bb aQ aR aP hL s4 s5 hg ba aO hC aH ay;have bA:=s1;go_in;go_upto_region 2 with fail;go_cut [43] (fun _ wx=>HoC C X w w.heap.size #[.slice O z c1,.slice J d G] (X.x.s.log++n :: lowL g.inn a) wx)
 case first=>
  clear h;go_wp2_with fail;have aW:=fQ (Z.out ▸ aI.out:HoS C X w w.heap.size #[.slice O z c1,.slice J d G] (.slice AL L cL) X.x.s.log X.lab (w.alloc (.cells #[.slice O z c1,.slice J d G] 62)).drew);refine mQ (fun w'=>w'.cell? ⟨C.mm,0,none⟩=some (.pointer (some ⟨C.cb,0,none⟩))/\w'.cell? ⟨w.heap.size,0,none⟩=some (.slice O z c1)/\C.mm<w'.heap.size/\C.cb<w'.heap.size/\w.heap.size<w'.heap.size) (fun w'=>w'.cell? ⟨C.cb,11,none⟩=some (.slice AL L cL)) 24 (by kernel_rfl) (aI.out.r) (Z.out ▸ aI.out.cb.cell 11) (fun c=>?_);refine wtk 0 c (fun c=>?_);refine wtk 1 c (fun c=>?_);refine wtk 2 c (fun c=>?_);refine wtk 3 c (fun c=>?_);refine wtk 4 c (fun c=>?_);refine wtk 5 c (fun c=>?_);refine wtk 6 c (fun c=>?_);refine wtk 7 c (fun c=>?_);refine wtk 8 c (fun c=>?_);refine wtk 9 c (fun c=>?_);refine wtk 10 c (fun c=>?_);refine vX (i:=11) (v:=?v11) rfl (by kernel_rfl) (by kernel_rfl) (by kernel_rfl) (fun _ _ _ h=>h) rfl (by kernel_rfl) (by kernel_rfl) (Or.inl ⟨by rfl,?hy11⟩) c (fun c=>?_)
  case hy11=>intro w bB;(try dsimp only at bB);go_simp;(try with_reducible rfl)
  try simp only[AZ,Aq,Ax,Az]
  refine wtk 12 c (fun c=>?_);refine wtk 13 c (fun c=>?_);refine wtk 16 c (fun c=>?_);refine wtk 17 c (fun c=>?_);refine wtk 18 c (fun c=>?_);refine gY (i:=14) (by kernel_rfl) rfl (fun K I=>?_);go_simp;obtain⟨wa,aJ⟩:=fX (((w.alloc (.cells #[.slice O z c1,.slice J d G] 62)).alloc (.cells #[.int .u64 (n:Int)] 52)).drew);have aj:=fQ (show HoS C X w w.heap.size #[.slice O z c1,.slice J d G] _ _ X.lab wa from by rw[<-aJ];exact aW.out.below ((Av _ _).alloc (Aj _) (.cells #[.int .u64 (n:Int)] 52)));have bC:=fQ (show Blk wa (w.heap.size+1) 52 #[.int .u64 (n:Int)]from by rw[<-aJ];exact(Blk.newAt (w.alloc (.cells #[.slice O z c1,.slice J d G] 62)) 52 #[.int .u64 (n:Int)] (by simp)));have bP:=fQ (show X.lab (w.heap.size+1)=0 from KRef.fresh H.out.toKRest (by omega));rw[aJ];clear aJ;refine I.out _ _ ⟨aj.out.r,fun _=>Z.out ▸ aj.out.cb.cell 11⟩ (fun c=>?_);clear I K
  try simp only[AZ,Aq,Ax,Az]
  refine gY (i:=15) (by kernel_rfl) rfl (fun K I=>?_);refine aKr rfl (.tmp 34) (.tmp 37) 30 rfl C.w0.heap.size 52 (.int .u64 0) 1 8 underlying30 sQ rfl (by omega) (.slice AL L cL) L (u64V X.x.s.log) (by go_simp) (by have:=aj.out.rest.log;rw[az.out]at this;exact this) (some ⟨(w.heap.size+1),0,none⟩) 1 1 [.int .u64 (n:Int)] (by go_simp) (Blk.fQb (cs:=#[.int .u64 (n:Int)]) bC.out rfl) (fun u S=>by rw[List.mem_singleton.1 S];rfl) (by unfold maxLen;omega) (by omega) (aj.out.rest.bel.size) ?_;intro v1 w4 T aA aB;have ae:w4.ownsRow C.w0.heap.size 52 1 v1 (X.x.s.log ++ [n]).length (u64V (X.x.s.log ++ [n])):=(by rw[Ae,az.out,aQd];exact T);obtain⟨AV,cV,rfl,bQ⟩:=fJ T;have U:=fQ (aj.out.app ae aA aB);have bT:=fQ T;clear T ae aA aB;refine I.out _ _ ⟨U.out.r,fun _=>Z.out ▸ U.out.cb.cell 11⟩ (fun c=>?_);clear I K
  try simp only[AZ,Aq,Ax,Az]
  refine gY (i:=19) (by kernel_rfl) rfl (fun K I=>?_);go_simp;refine(aQs _ _ g.inn a _ (bd.out.below (U.out.rest.bel) (Aj _)) (bc.out _ _ _ U.out.rest rfl U.out.kk) (aU.out.trans aS.out.symm)).mono ?_;rintro en M ⟨v3,rfl,aC,be⟩;rw[<-rW g.inn a (aU.out.trans aS.out.symm),aT.out]at aC;obtain⟨A3,c3,rfl,bU⟩:=fJ aC;have ak:=fQ (U.out.below be);have bD:=fQ (jQ aC U.out.kk.size);have aX:=fQ (fun(k:Nat) (hk:(Aa A3 z c3).ownBlock=some k)=>KRef.fresh U.out.rest (aC.lt k hk).1);clear aC be;refine I.out _ _ ⟨ak.out.r,fun _=>Z.out ▸ ak.out.cb.cell 11⟩ (fun c=>?_);clear I K
  try simp only[AZ,Aq,Ax,Az]
  refine gY (i:=20) (by kernel_rfl) rfl (fun K I=>?_);refine aKr rfl (.tmp 38) (.tmp 42) 30 rfl C.w0.heap.size 52 (.int .u64 0) 1 8 underlying30 sQ rfl (by omega) (.slice AV (L+1) cV) (L+1) (u64V X.x.s.log ++ [.int .u64 (n:Int)]) (by go_simp) (by have:=ak.out.rest.log;simpa[az.out,aQd,u64V]using this) A3 z c3 (u64V (lowL g.inn a)) (by go_simp) (by rw[Nat.mul_one];exact Src.fQd bD.out) (aZe _) (by unfold maxLen;omega) (by omega) (ak.out.rest.bel.size) ?_;intro v2 w6 T aA aB
  have ae:w6.ownsRow C.w0.heap.size 52 1 v2 (X.x.s.log++n :: lowL g.inn a).length (u64V (X.x.s.log++n :: lowL g.inn a)):=by
   rw[Ae,az.out,List.length_cons,aT.out,aQd,cYv,show L+(z+1)=L+1+z by omega]
   simpa using T
  obtain⟨AW,cW,rfl,bV⟩:=fJ T;have ai:=fQ (ak.out.app ae aA aB);clear T ae aA aB;refine I.out _ _ ⟨ai.out.r,fun _=>Z.out ▸ ai.out.cb.cell 11⟩ (fun c=>?_);clear I K
  try simp only[AZ,Aq,Ax,Az]
  refine wtk 21 c (fun c=>?_);refine wtk 22 c (fun c=>?_);refine wtk 23 c (fun c=>?_);have bW:w6.cell? ⟨C.cb,11,none⟩=some X.lv:=ai.out.cb.cell 11;have f11:=frz ai.out.cb 11;have hf:=ai.out.fin;have bf:=fQ (show HoC C X w w.heap.size #[.slice O z c1,.slice J d G] (X.x.s.log++n :: lowL g.inn a) _ from⟨_,_,hf.1,hf.2.1,hf.2.2,ai.out.bl⟩);clear hf;refine gY (i:=24) (by kernel_rfl) rfl (fun K I=>?_);go_simp;refine I.out _ _ (SD.after (bf.out.s1) (by kernel_rfl)) (fun c=>?_);clear I K
  try simp only[AZ,Aq,Ax,Az]
  refine kW (by kernel_rfl) ?_ _;clear c;go_wp2_with fail;go_meet;exact bf.out
 case rest=>
  clear h aI bc aS aT Z az bd;obtain⟨lab,v,h1,h2,h3,h4⟩:=hcut;have ah:UR wc X.iv X.x.s.input:=h1.inp;obtain⟨AI,F,aD⟩:=ah.shape;obtain⟨m,aY⟩:=fX X.x.s.input.length;rw[aY]at aD;rw[aD]at ah;have bX:=ah.len.2.2.1;have bE:=ah.len.2.2.2.1;have bY:=ah.len.2.2.2.2.1;obtain⟨bZ,_,b0⟩:=(show Ints C.w0 (.slice J d G) g.out from aV.out).eYz.2;obtain⟨k,hk⟩:=fX (min d m);have bF:min (d:Int) (m:Int)=(k:Int):=(by omega);have mx:=h1.eYx;have bx:=h3.cell 1;simp at bx;have cx:wc.cell? ⟨C.cb,10,none⟩=some (.slice AI m F):=(by rw[h1.cell 10];simp[kCells,aD]);have yx:=h1.cb.lt;have zx:=h1.mm.lt;have sx:=h3.lt;have b1:(k:Int)<=(G:Int):=(by omega);have b2:(k:Int)<=(F:Int):=(by omega);have b3:(k:Int)<=(m:Int):=(by omega);have k0:(0:Int)<=(k:Int):=(by omega);have H1:=fQ h1;have H2:=fQ h2;have H3:=fQ h3;have bg:=fQ ah;have bh:=fQ aD;have aE:=fQ aY;have aK:=fQ hk;have H4:=fQ h4;clear h1 h2 h3 ah aD aY hk h4 aU s1 bA m0 c0 yb ym s2 s3 br;go_wp2_with fail;go_region;go_wp2_with fail;have hq:∀ a,wc.drew.cell? a=wc.cell? a:=fun _=>rfl;obtain⟨P,au⟩:=fX wc.drew;have ax:=fQ (show KRef C { X with lab:=lab,lv:=v,x:={ X.x with s:={ X.x.s with log:=X.x.s.log++n :: lowL g.inn a } } } P from au ▸ H1.out.drew);have aZ:=fQ (show KK X { X with lab:=lab } w P from au ▸ H2.out.drew);have a1:=fQ (show Blk P w.heap.size 62 #[.slice O z c1,.slice J d G]from au ▸ H3.out.drew);have a6:=fQ (show UR P (.slice AI m F) X.x.s.input from au ▸ (show UR wc.drew _ _ from bg.out));rw[au]at hq;rw[<-hq]at mx bx cx;rw[au];have yx:C.cb<P.heap.size:=ax.out.cb.lt;have zx:C.mm<P.heap.size:=ax.out.mm.lt;have sx:w.heap.size<P.heap.size:=a1.out.lt;clear au hq H1 H2 H3 bg;go_still_tail 14,(by kernel_rfl);change wpList _ _ _ _ _ P.drew;go_wp2_with fail;refine(aQs _ _ (g.out.take k) (X.x.s.input.take k) _ (dYx (bu.out.below (ax.out.drew.bel) (Aj _)) (by omega)) (dYy (show UR P.drew _ _ from a6.out) (by omega)) (by rw[AJ,AJ,aw.out,aE.out];omega)).mono ?_;rintro e M ⟨vl,rfl,aL,aF⟩;have bj:(lowL (g.out.take k) (X.x.s.input.take k)).length=(X.x.s.input.take k).length:=rW _ _ (by rw[AJ,AJ,aw.out,aE.out];omega);rw[<-bj]at aL;have V:=fQ (ax.out.drew.below aF);have bG:=fQ (aZ.out.drew.below aF);have aX:=fQ (a1.out.drew.below aF (show w.heap.size<P.drew.heap.size from sx));have a7:=fQ (UR.below (show UR P.drew _ _ from a6.out) aF (Aj _));have bH:=fQ (jQ aL aZ.out.size);have bk:=fQ (fun(j:Nat) (N:vl.ownBlock=some j)=>KRef.fresh ax.out.toKRest (aL.lt j N).1);have ml:=V.out.eYx;have cl:M.cell? ⟨C.cb,10,none⟩=some (.slice AI m F):=(by rw[V.out.cell 10];simp[kCells,bh.out]);have fl:=frz V.out.cb 10;have yl:=V.out.cb.lt;have zl:=V.out.mm.lt;have sl:=aX.out.lt;have bl:=aX.out.cell 1;simp at bl;clear aL aF bj ax aZ a1 a6 mx bx cx yx zx sx;have bm:∀ j,(Aa AI m F).ownBlock=some j->lab j=5:=fun j N=>V.out.l5 j (by show X.iv.ownBlock=_;rw[bh.out];exact N);have bn:=fQ bm;clear bm
  have ends:∀ (wr:Bw) (iv':By),UR M iv' (X.x.s.input.drop k)->(∀ j,iv'.ownBlock=some j->lab j=5)->wr=(M.setCell ⟨C.cb,10,none⟩ iv').drew ->
    (Hid (KRef C { X with lab:=lab,lv:=v,iv:=iv',x:={ X.x with s:={ X.x.s with log:=X.x.s.log++n :: lowL g.inn a,input:=X.x.s.input.drop k } } } wr)/\Hid (KK X { X with lab:=lab } w wr)/\Hid (wr.ownsRow w.heap.size 52 1 vl (lowL (g.out.take k) (X.x.s.input.take k)).length (u64V (lowL (g.out.take k) (X.x.s.input.take k)))))/\wr.cell? ⟨w.heap.size,1,none⟩=some (.slice J d G)/\w.heap.size<wr.heap.size:=by
   intro wr iv' S hl he;have bo:lab C.cb=1:=V.out.cl
   have aO:w.heap.size≠C.cb:=fun e=>by have:=H4.out;rw[e,bo]at this;cases this
   have bI:vl.ownBlock≠some C.cb:=fun e=>by have h0:lab C.cb=0:=bk.out _ e;omega
   subst he;refine⟨⟨fQ (V.out.fQk iv' _ S hl).drew,fQ (bG.out.set (y:={ X with lab:=lab }) (g:=C.cb) 10 iv' (.inl (by show lab C.cb≠0;rw[bo];decide)) rfl).drew,fQ (kQ bH.out bI)⟩,(oK aO).trans bl,?_⟩;exact Aw sl (by simp[World.setCell,World.drew])
  have fin:∀ (wr:Bw) (iv':By),Hid (KRef C { X with lab:=lab,lv:=v,iv:=iv',x:={ X.x with s:={ X.x.s with log:=X.x.s.log++n :: lowL g.inn a,input:=X.x.s.input.drop k } } } wr)->Hid (KK X { X with lab:=lab } w wr)->Hid (wr.ownsRow w.heap.size 52 1 vl (lowL (g.out.take k) (X.x.s.input.take k)).length (u64V (lowL (g.out.take k) (X.x.s.input.take k)))) ->
    (k<d->bXq C X n g.out (lowL g.inn a) w (.returned (.tuple #[.slice none 0 0,.int .i64 39])) wr)/\(¬k<d->bXq C X n g.out (lowL g.inn a) w (.returned (.tuple #[vl,.int .i64 0])) wr):=by
   intro wr iv' q1 q2 q3;refine⟨fun E=>?_,fun E=>?_⟩
   ·have e:hostV n g.out (lowL g.inn a) X.x.s=([],39,{ X.x.s with log:=X.x.s.log++n :: lowL g.inn a,input:=[] }):=by
     unfold hostV;rw[if_neg (by rw[aw.out,aE.out];have:=aK.out;omega)]
    have hd:X.x.s.input.drop k = []:=Ah (by rw[aE.out];have:=aK.out;omega);rw[hd]at q1;refine⟨.slice none 0 0,_,by rw[e],q1.out,q2.out.to rfl,by rw[e],rfl,rfl,?_,fun j N=>by cases N⟩;rw[e];exact World.ownsRow_nil _ _ _ _
   ·have bJ:k=d:=by have:=aK.out;omega
    have e:hostV n g.out (lowL g.inn a) X.x.s=(lowL (g.out.take k) (X.x.s.input.take k),0,{ X.x.s with log:=X.x.s.log++n :: lowL g.inn a,input:=X.x.s.input.drop k }):=by
     unfold hostV;rw[if_pos (by rw[aw.out,aE.out];have:=aK.out;omega),aw.out,<-bJ,AY (l:=g.out) (by rw[aw.out];omega)]
    refine⟨vl,_,by rw[e],q1.out,q2.out.to rfl,by rw[e],rfl,rfl,?_,bk.out⟩;rw[e];exact q3.out
  rcases AI with _ | ⟨b,o,q⟩
  ·have bL:F=0:=bE rfl;subst bL;have aM:m=0:=(by omega);subst aM;have bM:k=0:=(by omega);subst bM;have S:UR M (.slice none 0 0) (X.x.s.input.drop 0):=a7.out;have W:=fQ S;clear S;by_cases E:0<d
   ·have t1:decide ((0:Int)<(d:Int))=true:=(by simp;omega);have Q:=fQ E;clear E;go_wp2_with fail;go_region;obtain⟨wr,f⟩:=fX ((M.setCell ⟨C.cb,10,none⟩ (.slice none 0 0)).drew);obtain⟨⟨A,B,D⟩,E4,E5⟩:=ends wr (.slice none 0 0) W.out (fun j N=>by cases N) f.symm;rw[f];have R:=fQ (fin wr (.slice none 0 0) A B D);clear f ends fin A B D cl ml fl bl;go_wp2_with fail;refine bodyPost_ret (results_tmp2 (t:=6) (u:=7) rfl _ _ _) rfl ?_;exact R.out.1 Q.out
   ·have t1:decide ((0:Int)<(d:Int))=false:=(by simp;omega);have Q:=fQ E;clear E;go_wp2_with fail;go_region;obtain⟨wr,f⟩:=fX ((M.setCell ⟨C.cb,10,none⟩ (.slice none 0 0)).drew);obtain⟨⟨A,B,D⟩,E4,E5⟩:=ends wr (.slice none 0 0) W.out (fun j N=>by cases N) f.symm;rw[f];have R:=fQ (fin wr (.slice none 0 0) A B D);clear f ends fin A B D cl ml fl bl;go_wp2_with fail;refine bodyPost_ret (results_tmp2 (t:=6) (u:=7) rfl _ _ _) rfl ?_;exact R.out.2 Q.out
  ·by_cases bN:F=k
   ·have aM:m=k:=(by omega);have S:UR M (.slice (some ⟨b,o,q⟩) 0 0) (X.x.s.input.drop k):=(by have:=eQa a7.out;rwa[aM]at this);have W:=fQ S;have ao:=fQ (fun(j:Nat) (N:(Aa (some ⟨b,o,q⟩) 0 0).ownBlock=some j)=>bn.out j N);subst bN;subst aM;clear S;by_cases E:m<d
    ·have t1:decide ((m:Int)<(d:Int))=true:=(by simp;omega);have Q:=fQ E;clear E;go_wp2_with fail;go_region;obtain⟨wr,f⟩:=fX ((M.setCell ⟨C.cb,10,none⟩ (.slice (some ⟨b,o,q⟩) 0 0)).drew);obtain⟨⟨A,B,D⟩,E4,E5⟩:=ends wr (.slice (some ⟨b,o,q⟩) 0 0) W.out ao.out f.symm;rw[f];have R:=fQ (fin wr (.slice (some ⟨b,o,q⟩) 0 0) A B D);clear f ends fin A B D cl ml fl bl;go_wp2_with fail;refine bodyPost_ret (results_tmp2 (t:=6) (u:=7) rfl _ _ _) rfl ?_;exact R.out.1 Q.out
    ·have t1:decide ((m:Int)<(d:Int))=false:=(by simp;omega);have Q:=fQ E;clear E;go_wp2_with fail;go_region;obtain⟨wr,f⟩:=fX ((M.setCell ⟨C.cb,10,none⟩ (.slice (some ⟨b,o,q⟩) 0 0)).drew);obtain⟨⟨A,B,D⟩,E4,E5⟩:=ends wr (.slice (some ⟨b,o,q⟩) 0 0) W.out ao.out f.symm;rw[f];have R:=fQ (fin wr (.slice (some ⟨b,o,q⟩) 0 0) A B D);clear f ends fin A B D cl ml fl bl;go_wp2_with fail;refine bodyPost_ret (results_tmp2 (t:=6) (u:=7) rfl _ _ _) rfl ?_;exact R.out.2 Q.out
   ·have W:=fQ (show UR M (.slice (some (AX ⟨b,o,q⟩ k)) (m - k) (F - k)) (X.x.s.input.drop k)from dYz a7.out (show k<=m by omega));have ao:=fQ (fun(j:Nat) (N:(Aa (some (AX ⟨b,o,q⟩ k)) (m - k) (F - k)).ownBlock=some j)=>bn.out j (by rw[<-N];show some b=some (AX ⟨b,o,q⟩ k).block;unfold AX;split <;> rfl));by_cases E:k<d
    ·have t1:decide ((k:Int)<(d:Int))=true:=(by simp;omega);have Q:=fQ E;clear E;go_wp2_with fail;go_region;obtain⟨wr,f⟩:=fX ((M.setCell ⟨C.cb,10,none⟩ (.slice (some (AX ⟨b,o,q⟩ k)) (m - k) (F - k))).drew);obtain⟨⟨A,B,D⟩,E4,E5⟩:=ends wr (.slice (some (AX ⟨b,o,q⟩ k)) (m - k) (F - k)) W.out ao.out f.symm;rw[f];have R:=fQ (fin wr (.slice (some (AX ⟨b,o,q⟩ k)) (m - k) (F - k)) A B D);clear f ends fin A B D cl ml fl bl;go_wp2_with fail;refine bodyPost_ret (results_tmp2 (t:=6) (u:=7) rfl _ _ _) rfl ?_;exact R.out.1 Q.out
    ·have t1:decide ((k:Int)<(d:Int))=false:=(by simp;omega);have Q:=fQ E;clear E;go_wp2_with fail;go_region;obtain⟨wr,f⟩:=fX ((M.setCell ⟨C.cb,10,none⟩ (.slice (some (AX ⟨b,o,q⟩ k)) (m - k) (F - k))).drew);obtain⟨⟨A,B,D⟩,E4,E5⟩:=ends wr (.slice (some (AX ⟨b,o,q⟩ k)) (m - k) (F - k)) W.out ao.out f.symm;rw[f];have R:=fQ (fin wr (.slice (some (AX ⟨b,o,q⟩ k)) (m - k) (F - k)) A B D);clear f ends fin A B D cl ml fl bl;go_wp2_with fail;refine bodyPost_ret (results_tmp2 (t:=6) (u:=7) rfl _ _ _) rfl ?_;exact R.out.2 Q.out
theorem cYw(C:KaC)(X:KaS)(n:Nat)(g:SigD)(va:By)(a:List Nat)(w:Bw)(h:KRef C X w)(b:KC C)(hg:C.p.env.sigs[n]? = some g)(ha:UR w va a)(c:∀ k,va.ownBlock=some k->X.lab k=0)(d:a.length=g.inn.length)(e:X.x.s.log.length<=1000000000):
  Calls fZ 30 #[.pointer (some ⟨C.mm,0,none⟩),.int .i64 n,va] w (bXq C X n g.out (lowL g.inn a) w):=
 bKa C X n g va a w h b hg (fun _ _ _ _ _ kk=>kk.ur ha c) d e
theorem cYk(t:Int)(n:Nat):oJ t (oJ t n)=oJ t n:=by
 unfold oJ
 split <;> omega
theorem bXn:∀ (ks:List Int) (l:List Nat),lowL ks (lowL ks l)=lowL ks l
 | [],l=>by cases l <;> rfl
 | t :: ks,[]=>rfl
 | t :: ks,n :: l=>by simp only[lowL,cYk,bXn ks l]
def DoPost(C:KaC)(X:KaS)(f0:FrD)(rest:List FrD)(c:CodeD)(w:Bw)(en:Ending)(w':Bw):Prop:=
 ∃ (e:Int) (X':KaS),en = .returned (.int .i64 e)/\KRef C X' w'/\KK X X' w w' /\
  (e=0->X'.x=doM C.p X.x f0 rest c (actV C.p.env c f0.k (argV C.p.env f0.r c f0.V) X.x.s)) /\
  (e≠0->sV X'.x X'.x.s [] e=doM C.p X.x f0 rest c (actV C.p.env c f0.k (argV C.p.env f0.r c f0.V) X.x.s))
structure DoI (C:KaC) (X:KaS) (f0:FrD) (rest:List FrD) (g cS:Nat) (vc:By) (c:CodeD) (va:By) (a:List Nat) (w:Bw):Prop where
 ref:KRef C X w
 kc:KC C
 st:X.x.st={ f0 with k:=f0.k+1 } :: rest
 sv:X.sv = .slice (some ⟨g,0,none⟩) (rest.length+1) cS
 code:CodeV C.w0 vc c
 at_:f0.r.code[f0.k]? = some c
 ck:CheckP C.p.env f0.r
 len:f0.V.length=f0.r.places.toNat
 row:C.p.fns[f0.fi]? = some f0.r
 ur:UR w va a
 free:∀ k,va.ownBlock=some k->X.lab k=0
 args:a=getV f0.V c.args
 log:X.x.s.log.length<=1000000000
 dep:rest.length<=15
theorem DoI.ok{C:KaC}{X:KaS}{f0:FrD}{rest:List FrD}{cS:Nat}{vc:By}{c:CodeD}{va:By}(h:DoI C X f0 rest g cS vc c va a w):codeOk C.p.env f0.r c=true:=h.ck.code c (AQ h.at_)
theorem DoI.outs{C:KaC}{X:KaS}{f0:FrD}{rest:List FrD}{g cS:Nat}{vc:By}{c:CodeD}{va:By}{a:List Nat}{w:Bw}(h:DoI C X f0 rest g cS vc c va a w):∀ o∈c.outs,0<=o/\o<(f0.V.length:Int):=fun o b=>by
 obtain⟨_,_,_,_,_,_,_,_,_,d,_⟩:=iQ h.ok;have:=d o b;have:=h.len;omega
theorem aVj(n:Nat)(outs:List Int)(a:List Nat)(s:StD):(hostV n outs a s).1.length<=outs.length:=by
 unfold hostV
 split
 ·exact aKy _ _
 ·exact Nat.zero_le _
theorem bQd{outs:List Int}{s:StD}(h:All64 s.input):All64 (hostV n outs a s).1:=by
 unfold hostV
 split
 ·exact oV _ _ (aVs h _)
 ·exact nW
theorem xK{base:Nat}(h:w.ownsRow base 52 1 v l.length (u64V l))(a:All64 l)(hl:l.length<=1000000000):UR w v l:=by
 rcases h.2 with⟨h1,h2⟩ | ⟨g,cap,cur,h1,_,_,b,c,_⟩
 ·have hn:l = []:=Ak h2;subst hn;subst h1;exact⟨none,0,rfl,Src.nil _ _,Aj _,fun _=>rfl,⟨by simp,by omega⟩,a⟩
 ·subst h1;exact⟨_,cap,rfl,Src.fQd h,b,(fun e=>by cases e),⟨by omega,by unfold maxLen at c;omega⟩,a⟩
theorem UR.all(h:UR w v l):All64 l:=by
 obtain⟨_,_,_,_,_,_,_,h⟩:=h;exact h
theorem cJa(C:KaC)(X:KaS)(f0:FrD)(rest:List FrD)(g cS:Nat)(vc:By)(c:CodeD)(va:By)(a:List Nat)(w:Bw)(h:DoI C X f0 rest g cS vc c va a w)(A:c.op=16):
  Calls fZ 61 #[.pointer (some ⟨C.mm,0,none⟩),.pointer (some ⟨g,rest.length*3,none⟩),vc,va] w (DoPost C X f0 rest c w):=by
 have N:=h.ok;have O:=iQ N;rw[A]at O;obtain⟨i,o,hf,P,Q,_⟩:=O;have hf:(C.p.env.sigs[c.n]?).map (fun g=>(g.inn,g.out))=some (i,o):=hf;obtain⟨b,B,he⟩:=Option.map_eq_some_iff.1 hf;injection he with aA aB;subst aA;subst aB
 have R:argV C.p.env f0.r c f0.V=lowL b.inn a:=by
  unfold argV inK;rw[A,show iJ C.p.env f0.r.sig 16 c.n=_ from hf,h.args];rfl
 have S:a.length=b.inn.length:=(by rw[h.args];unfold getV;rw[Bq];exact P);have T:C.p.env.sigs.getD c.n ⟨[],[]⟩=b:=(by rw[Af,B];rfl);have aC:c.n<64:=(by have:=(List.getElem?_eq_some_iff.1 B).1;have:=(mV h.kc.ok.env).1;omega);have aQ:IntKind.i64.wrap (c.n:Int)=(c.n:Int):=Ac _ (by omega);obtain⟨U,cb,W,rfl,ak,aD,aE,aF⟩:=h.code;have D:=(Av w.heap.size w).alloc (Aj _) (.cells #[.int .i64 c.op,.int .u64 (c.n:Int),U,cb,W] 86);have H:=fQ (h.ref.below D);have I:=fQ (KK.eYy (x:=X) D);have aG:=fQ (Blk.new w 86 #[.int .i64 c.op,.int .u64 (c.n:Int),U,cb,W]);have aH:=fQ (KRef.fresh h.ref.toKRest (Aj w.heap.size));have Y:=fQ (h.ur.below D (Aj _));have m0:=h.ref.eYx;have c1:w.cell? ⟨C.cb,1,none⟩=some (.int .i64 C.p.env.imports):=h.ref.cell 1;have aR:w.cell? ⟨C.cb,12,none⟩=some (.slice (some ⟨g,0,none⟩) (rest.length+1) cS):=(by rw[h.ref.cell 12];simp[kCells,h.sv]);have yb:=h.ref.cb.lt;have ym:=h.ref.mm.lt;have d:=fQ h;have Z:=fQ R;have ax:=fQ S;have aI:=fQ T;have E:=fQ B;have f:=fQ A;have aJ:=fQ Q;obtain⟨j,F⟩:=Int.eq_ofNat_of_zero_le (mV h.kc.ok.env).2.1;rw[F]at c1;have m:=fQ F;clear h R S T B A N P Q hf ak aD aE aF D;by_cases hi:c.n<j
 ·have t1:decide ((c.n:Int)<(j:Int))=true:=(by simp;omega);have aK:=fQ hi;clear hi F;go_in;go_wp2_with fail;refine(cYw C X c.n b va a _ H.out d.out.kc E.out Y.out d.out.free ax.out d.out.log).mono ?_;rintro e w1 ⟨vo,t,rfl,u,k2,v,k4,k5,J,k7⟩;obtain⟨Ao,co,rfl,aS⟩:=fJ J;have K:=fQ u;have L:=fQ k2;have y:=fQ v;have K4:=fQ k4;have K6:=fQ J;have K7:=fQ k7;have M:=k2.blk aG.out aH.out;obtain⟨b0,b1,b2,b3,b4⟩:=gJ M;have yB:=M.lt;clear u k2 v k4 k5 J k7 M;have ay:=xK K6.out (bQd d.out.ref.inp.all) (Ai (aVj _ _ _ _) (by have:=(wQ d.out.kc.ok.env E.out).2;omega));have aL:=fQ ay;clear ay;go_wp2_with fail;refine(rQ C t { f0 with k:=f0.k+1 } rest g cS _ c _ (hostV c.n b.out (lowL b.inn a) X.x.s).1 _ K.out (by rw[y.out];exact d.out.st) (K4.out.trans d.out.sv) d.out.code aL.out (fun k hk=>by rw[K7.out k hk];omega) d.out.outs (Ai (aVj _ _ _ _) (Ab aJ.out.symm))).mono ?_;rintro e w2 ⟨rfl,l1,l2⟩;have L1:=fQ l1;have L2:=fQ l2;clear l1 l2;go_wp2;go_ret
  have z:actV C.p.env c f0.k (argV C.p.env f0.r c f0.V) X.x.s=if(hostV c.n b.out (lowL b.inn a) X.x.s).2.1=0 then .vals (hostV c.n b.out (lowL b.inn a) X.x.s).1 (hostV c.n b.out (lowL b.inn a) X.x.s).2.2 else .trap (hostV c.n b.out (lowL b.inn a) X.x.s).2.1 (hostV c.n b.out (lowL b.inn a) X.x.s).2.2:=by
   unfold actV;rw[if_neg (by rw[f.out];decide),if_neg (by rw[f.out];decide),if_neg (by rw[f.out];decide),if_neg (by rw[f.out];decide),if_neg (by rw[f.out];decide),if_pos f.out,if_pos (by rw[m.out];have:=aK.out;omega),Z.out,aI.out]
  refine⟨_,_,rfl,L1.out,I.out.trans (L.out.trans L2.out),fun l=>?_,fun l=>?_⟩
  ·rw[z,if_pos l];show({ t.x with st:=_ }:MaD)=_;rw[y.out];rfl
  ·rw[z,if_neg l];show sV { t.x with st:=_ } t.x.s [] _=_;rw[y.out];rfl
 ·have t1:decide ((c.n:Int)<(j:Int))=false:=by simp;omega
  have z:actV C.p.env c f0.k (argV C.p.env f0.r c f0.V) X.x.s = .call c.n:=by
   unfold actV;rw[if_neg (by rw[f.out];decide),if_neg (by rw[f.out];decide),if_neg (by rw[f.out];decide),if_neg (by rw[f.out];decide),if_neg (by rw[f.out];decide),if_pos f.out,if_neg (by rw[m.out];omega)]
  have az:=fQ z;obtain⟨q,g2,hq,aM,aN⟩:=aVa d.out.kc.ok f.out d.out.ok (by rw[m.out];omega);rw[m.out,Ag]at hq;have HQ:=fQ hq;have aO:=fQ (show c.n=j+(c.n - j) by omega);have aP:=fQ (show X.x.st.length=rest.length+1 by rw[d.out.st];rfl);clear z hq aM aN F;by_cases hd:rest.length+1=16
  ·have t2:(((rest.length+1:Nat):Int) == 16)=true:=(by simp;omega);have G:=fQ hd;clear hd;go_in;go_wp2;go_ret;refine⟨37,X,rfl,H.out,I.out,(fun l=>by cases l),fun _=>?_⟩;rw[az.out];show _=(if 16<=rest.length+1 then _ else _:MaD);rw[if_pos (by have:=G.out;omega)]
  ·have t2:(((rest.length+1:Nat):Int) == 16)=false:=(by simp;omega);have G:=fQ hd;clear hd;go_in;go_wp2_with fail;refine(bJy C X c.n j (c.n - j) b q va a _ H.out d.out.kc E.out m.out aO.out HQ.out Y.out ax.out (by have:=d.out.dep;have:=aP.out;have:=G.out;omega)).mono ?_;rintro e w1 ⟨rfl,t,u,k2,v⟩;have K:=fQ u;have L:=fQ k2;have y:=fQ v;clear u k2 v;go_wp2;go_ret;refine⟨0,t,rfl,K.out,I.out.trans L.out,fun _=>?_,fun l=>absurd rfl l⟩;rw[az.out,y.out];show _=(if 16<=rest.length+1 then _ else _:MaD);rw[if_neg (by have:=d.out.dep;have:=G.out;omega),m.out,Ag,HQ.out,E.out];dsimp only;rw[Z.out,bXn,d.out.st]
theorem aXm(w:Bw)(h:n<18446744073709551616):UR (w.alloc (.cells #[.int .u64 (n:Int)] 52)) (.slice (some ⟨w.heap.size,0,none⟩) 1 1) [n]:=
 ⟨_,1,rfl,Blk.fQb (cs:=#[.int .u64 (n:Int)]) (Blk.new w _ _) rfl,Aj _,(fun e=>by cases e),⟨by simp,by omega⟩,aWt h⟩
theorem bQs{e:EnvD}{c:CodeD}{s:StD}(h:c.op≠276/\c.op≠277/\c.op≠273/\c.op≠274/\c.op≠275/\c.op≠16):actV e c k a s=if(jZ c a s).2.1=0 then .vals [(jZ c a s).1] (jZ c a s).2.2 else .trap (jZ c a s).2.1 (jZ c a s).2.2:=by
 obtain⟨h1,h2,b,d,f,g⟩:=h;unfold actV;rw[if_neg h1,if_neg h2,if_neg b,if_neg d,if_neg f,if_neg g]
theorem aQj{C:KaC}{X a:KaS}{f0:FrD}{rest:List FrD}{c:CodeD}{w w':Bw}{n:Nat}{s':StD}(ad:X.x.st={ f0 with k:=f0.k+1 } :: rest)(h1:KRef C (vW a { f0 with k:=f0.k+1 } rest (putV c.outs [n] f0.V)) w')(h2:KK X (vW a { f0 with k:=f0.k+1 } rest (putV c.outs [n] f0.V)) w w')(b:a.x={ X.x with s:=s' })
  (d:jZ c (argV C.p.env f0.r c f0.V) X.x.s=(n,0,s')) (e:c.op≠276/\c.op≠277/\c.op≠273/\c.op≠274/\c.op≠275/\c.op≠16):DoPost C X f0 rest c w (.returned (.int .i64 0)) w':=by
 refine⟨0,_,rfl,h1,h2,fun _=>?_,fun f=>absurd rfl f⟩;rw[bQs e,d,if_pos rfl];show({ a.x with st:=_ }:MaD)=_;rw[b];rfl
theorem aKq{C:KaC}{X a:KaS}{f0:FrD}{rest:List FrD}{c:CodeD}{n:Nat}{e:Int}{s':StD}(h1:KRef C a w')(h2:KK X a w w')(b:a.x={ X.x with s:=s' })
  (d:jZ c (argV C.p.env f0.r c f0.V) X.x.s=(n,e,s')) (he:e≠0) (f:c.op≠276/\c.op≠277/\c.op≠273/\c.op≠274/\c.op≠275/\c.op≠16):DoPost C X f0 rest c w (.returned (.int .i64 e)) w':=by
 refine⟨e,_,rfl,h1,h2,fun g=>absurd g he,fun _=>?_⟩;rw[bQs f,d,if_neg he,b];rfl
theorem aYk{C:KaC}{X a:KaS}{f0:FrD}{rest:List FrD}{c:CodeD}{w w':Bw}{n:Nat}{s':StD}(b:X.x.st={ f0 with k:=f0.k+1 } :: rest)(h1:KRef C a w')(h2:KK X a w w')(d:a.x={ X.x with s:=s' })(e:c.outs = [])
  (f:jZ c (argV C.p.env f0.r c f0.V) X.x.s=(n,0,s')) (g:c.op≠276/\c.op≠277/\c.op≠273/\c.op≠274/\c.op≠275/\c.op≠16):DoPost C X f0 rest c w (.returned (.int .i64 0)) w':=by
 refine⟨0,_,rfl,h1,h2,fun _=>?_,fun h=>absurd rfl h⟩;rw[bQs g,f,if_pos rfl,d];show _=({ X.x with st:={ f0 with k:=f0.k+1,V:=putV c.outs [n] f0.V } :: rest,s:=s' }:MaD);rw[e,show putV [] [n] f0.V=f0.V from rfl,<-b]
theorem dKl(C:KaC)(X:KaS)(f0:FrD)(rest:List FrD)(g cS:Nat)(vc:By)(c:CodeD)(va:By)(a:List Nat)(w:Bw)(h:DoI C X f0 rest g cS vc c va a w)(j:c.op=35)(I:StOk C.p.env X.x.s)(J:X.x.s.globals.length=C.p.env.globals.length):
  Calls fZ 62 #[.pointer (some ⟨C.mm,0,none⟩),.pointer (some ⟨g,rest.length*3,none⟩),vc,va] w (DoPost C X f0 rest c w):=by
 have K:=iQ h.ok;rw[j]at K;obtain⟨i,o,hf,aB,L,_⟩:=K;have hf:(C.p.env.globals[c.n]?).map (fun g=>(([]:List Int),[g]))=some (i,o):=hf;obtain⟨t,M,he⟩:=Option.map_eq_some_iff.1 hf;injection he with z e2;subst z;subst e2;have N:X.x.s.globals.length=C.p.env.globals.length:=J;have O:c.n<X.x.s.globals.length:=(by rw[N];exact(List.getElem?_eq_some_iff.1 M).1);obtain⟨y,q⟩:∃ y,X.x.s.globals[c.n]? = some y:=⟨_,Ay O⟩
 have P:jZ c (argV C.p.env f0.r c f0.V) X.x.s=(y,0,X.x.s):=by
  unfold jZ;rw[j,if_neg (by decide),if_neg (by decide),if_neg (by decide),if_neg (by decide),if_pos rfl,Af,q];rfl
 have ak:=fQ P;have aC:=fQ (show c.outs.length = [y].length from L);have aD:=fQ (show c.op≠276/\c.op≠277/\c.op≠273/\c.op≠274/\c.op≠275/\c.op≠16 by rw[j];decide);have al:=I.g64 y (AQ q);obtain⟨u,gc,v,Q⟩:∃ G c,C.gv = .slice (some ⟨G,0,none⟩) X.x.s.globals.length c/\G<w.heap.size:=(by obtain⟨G,c,z,e2,_⟩:=lQ h.ref.glo (by omega);exact⟨G,c,z,e2⟩);have A:=h.ref.glo;rw[v]at A;have R:w.cell? ⟨u,c.n,none⟩=some (.int .u64 (y:Int)):=(by rw[A.cellAt c.n (by omega)];simp[u64V,q]);have aE:=fQ (show fK c.op = .tuple #[.int .i64 0,.int .i64 0,.bool false,.bool false] by rw[j];rfl);have aP:(c.op == 35)=true:=(by rw[j];rfl);obtain⟨NG,S⟩:=fX X.x.s.globals.length;rw[S]at O v;have aF:(c.n:Int)<(NG:Int):=(by omega);obtain⟨T,cb,U,rfl,B,aG,aH,aI⟩:=h.code;have W:=(Av w.heap.size w).alloc (Aj _) (.cells #[.int .i64 c.op,.int .u64 (c.n:Int),T,cb,U] 86);have f:=fQ h;have D:=fQ (Blk.new w 86 #[.int .i64 c.op,.int .u64 (c.n:Int),T,cb,U]);have E:=fQ W;have aJ : -9223372036854775808<=c.op/\c.op<=9223372036854775807:=B.2;have aK:c.n<18446744073709551616:=B.1;have aL:=h.ref.bel.size;have aM:=fQ v;have aN:=fQ R;clear h W B aG aH aI P L aB hf j q M J N S v R A I;go_in;go_wp2_with fail;refine(qQ c.op _).mono ?_;rintro e l ⟨rfl,F⟩;have m:=fQ (E.out.trans (F.mono E.out.size));have d:=fQ (f.out.ref.below m.out);have aO:=fQ (KK.eYy (x:=X) m.out);have Y:=fQ (D.out.below F D.out.lt);have aQ:=fQ (f.out.ur.below m.out (Aj _));have aR:=fQ (KRef.fresh f.out.ref.toKRest (Aj w.heap.size));obtain⟨b0,b1,b2,b3,b4⟩:=gJ Y.out;have yB:=Y.out.lt;have m1:=d.out.eYx;have yb:=d.out.cb.lt;have ym:=d.out.mm.lt;have d2:l.cell? ⟨C.cb,2,none⟩=some C.b:=d.out.cell 2;have d6:l.cell? ⟨C.cb,6,none⟩=some X.mv:=d.out.cell 6;have d7:l.cell? ⟨C.cb,7,none⟩=some (.int .i64 X.x.s.most):=d.out.cell 7;have d8:l.cell? ⟨C.cb,8,none⟩=some C.gv:=d.out.cell 8;clear F E D;have cy:l.cell? ⟨u,c.n,none⟩=some (.int .u64 (y:Int)):=(m.out.cell (p:=⟨u,c.n,none⟩) Q).trans aN.out;have yg:u<l.heap.size:=Aw Q m.out.size;rw[aM.out]at d8;rw[aE.out];go_wp2_with fail;go_quiet (fail);go_wp2_with fail;refine(rQ C X { f0 with k:=f0.k+1 } rest g cS _ c _ [y] _ ((d.out.drewN _).below ((Av _ _).alloc (Aj _) _)) f.out.st f.out.sv f.out.code (aXm _ al) (fun k H=>by injection H with H;rw[<-H,KRef.fresh (d.out.drewN _).toKRest (Aj _)];omega) f.out.outs (Ab aC.out.symm)).mono ?_;rintro e w9 ⟨rfl,Z,l2⟩;have L1:=fQ Z;have L2:=fQ l2;clear Z l2;go_wp2;go_ret;exact aQj f.out.st L1.out (((aO.out.below (fV (Av _ _) _)).below ((Av _ _).alloc (Aj _) _)).trans L2.out) rfl ak.out aD.out
theorem dKm(C:KaC)(X:KaS)(f0:FrD)(rest:List FrD)(g cS:Nat)(vc:By)(c:CodeD)(va:By)(a:List Nat)(w:Bw)(h:DoI C X f0 rest g cS vc c va a w)(j:c.op=63)(E:StOk C.p.env X.x.s):
  Calls fZ 62 #[.pointer (some ⟨C.mm,0,none⟩),.pointer (some ⟨g,rest.length*3,none⟩),vc,va] w (DoPost C X f0 rest c w):=by
 have O:=iQ h.ok;obtain⟨i,o,hf,P,F,_⟩:=O
 have G:jZ c (argV C.p.env f0.r c f0.V) X.x.s=(X.x.s.mem.length / 256,0,X.x.s):=by
  unfold jZ;rw[j,if_neg (by decide),if_neg (by decide),if_neg (by decide),if_neg (by decide),if_neg (by decide),if_neg (by decide),if_neg (by decide)];rfl
 have H:c.outs.length=1:=by
  have d:=hf;rw[j]at d;have d:mJ C.p.env.mem 63 c.n=some (i,o):=d;unfold mJ at d
  split at d
  ·cases d
  ·rw[if_neg (by decide),show acc 63=none from rfl]at d;dsimp only at d;rw[if_pos rfl]at d
   split at d
   ·injection d with d;injection d with _ e2;rw[F,<-e2];rfl
   ·cases d
 have Q:=fQ G;obtain⟨m,t⟩:=fX X.x.s.mem.length;have R:=fQ (show c.outs.length = [m / 256].length from H);have S:=fQ (show c.op≠276/\c.op≠277/\c.op≠273/\c.op≠274/\c.op≠275/\c.op≠16 by rw[j];decide);have aA:m<=4096:=(by have:=E.fQj;omega);have T:=fQ (show fK c.op = .tuple #[.int .i64 0,.int .i64 0,.bool false,.bool false] by rw[j];rfl);have aL:(c.op == 35)=false:=(by rw[j];rfl);have aM:(c.op == 36)=false:=(by rw[j];rfl);have aN:(c.op == 63)=true:=(by rw[j];rfl);have hdiv:((m:Int).tdiv 256)=((m / 256:Nat):Int):=(by rw[Int.tdiv_eq_ediv_of_nonneg (by omega)];rfl);have aO:IntKind.u64.wrap ((m / 256:Nat):Int)=((m / 256:Nat):Int):=pZ (by omega);obtain⟨AM,cM,u⟩:=h.ref.mem.shape;rw[t]at u;obtain⟨I,cb,J,rfl,v,U,W,Y⟩:=h.code;have K:=(Av w.heap.size w).alloc (Aj _) (.cells #[.int .i64 c.op,.int .u64 (c.n:Int),I,cb,J] 86);have l:=fQ h;have y:=fQ (Blk.new w 86 #[.int .i64 c.op,.int .u64 (c.n:Int),I,cb,J]);have z:=fQ K;have aF : -9223372036854775808<=c.op/\c.op<=9223372036854775807:=v.2;have aG:c.n<18446744073709551616:=v.1;have aH:=h.ref.bel.size;have Z:=fQ u;have aJ:=fQ t;clear h K v U W Y G F P hf j H u t E;go_in;go_wp2_with fail;refine(qQ c.op _).mono ?_;rintro e q ⟨rfl,A⟩;have B:=fQ (z.out.trans (A.mono z.out.size));have f:=fQ (l.out.ref.below B.out);have aK:=fQ (KK.eYy (x:=X) B.out);have L:=fQ (y.out.below A y.out.lt);have aP:=fQ (l.out.ur.below B.out (Aj _));have aQ:=fQ (KRef.fresh l.out.ref.toKRest (Aj w.heap.size));obtain⟨b0,b1,b2,b3,b4⟩:=gJ L.out;have yB:=L.out.lt;have m1:=f.out.eYx;have yb:=f.out.cb.lt;have ym:=f.out.mm.lt;have d2:q.cell? ⟨C.cb,2,none⟩=some C.b:=f.out.cell 2;have d6:q.cell? ⟨C.cb,6,none⟩=some X.mv:=f.out.cell 6;have d7:q.cell? ⟨C.cb,7,none⟩=some (.int .i64 X.x.s.most):=f.out.cell 7;have d8:q.cell? ⟨C.cb,8,none⟩=some C.gv:=f.out.cell 8;clear A z y;rw[Z.out]at d6;rw[T.out];go_wp2_with fail;refine(rQ C X { f0 with k:=f0.k+1 } rest g cS _ c _ [(m / 256)] _ (f.out.below ((Av _ _).alloc (Aj _) _)) l.out.st l.out.sv l.out.code (aXm _ (by omega)) (fun k D=>by injection D with D;rw[<-D,KRef.fresh f.out.toKRest (Aj _)];omega) l.out.outs (Ab R.out.symm)).mono ?_;rintro e w9 ⟨rfl,M,N⟩;have L1:=fQ M;have L2:=fQ N;clear M N;go_wp2;go_ret;exact aQj l.out.st L1.out ((aK.out.below ((Av _ _).alloc (Aj _) _)).trans L2.out) rfl (aJ.out ▸ Q.out) S.out
theorem dKn(m:List Nat)(most:Int)(y:Nat)(h:m.length<=4096):(kY m most y).length<=4096:=by
 unfold kY
 split
 ·rename_i a;unfold wJ at a;simp only[decide_eq_true_eq]at a;rw[Ae,List.length_replicate];omega
 ·exact h
theorem aYl{base:Nat}{e:TypeId}(h:w.ownsRow base e 1 v l.length (bys l))(a:AllB l)(hl:l.length<=1000000000):BR w v l:=by
 rcases h.2 with⟨h1,h2⟩ | ⟨g,cap,cur,h1,_,_,b,c,_⟩
 ·have hn:l = []:=Ak h2;subst hn;subst h1;exact⟨none,0,rfl,Src.nil _ _,Aj _,fun _=>rfl,⟨by simp,by omega⟩,a⟩
 ·subst h1;exact⟨_,cap,rfl,Src.fQd h,b,(fun e=>by cases e),⟨by omega,by unfold maxLen at c;omega⟩,a⟩
theorem eZv{b o:Nat}{t:Int}(d:b<w.heap.size)(hc:w.cell? ⟨b,o+n,none⟩=some (.int .i64 t)):IR w (.slice (some ⟨b,o+n,none⟩) 1 c) [t]:=
 ⟨_,c,rfl,rfl,fun _=>⟨b,o+n,rfl,d,fun j u a=>by
  match j,a with
  | 0,a=>
   simp[i64s]at a;subst a
   exact hc⟩⟩
theorem KC.eYw{C:KaC}(c:KC C):Ints C.w0 C.b C.p.env.globals:=by
 obtain⟨a,b,d,f,e,_,h2,_,_⟩:=c.rows;injection e with e;injection e with e;simp only[List.cons.injEq,and_true]at e;obtain⟨_,_,g,_⟩:=e;rw[g];exact h2
theorem dKo(C:KaC)(X:KaS)(f0:FrD)(rest:List FrD)(g cS:Nat)(vc:By)(c:CodeD)(va:By)(a:List Nat)(w:Bw)(h:DoI C X f0 rest g cS vc c va a w)(m:c.op=36)(hG:X.x.s.globals.length=C.p.env.globals.length):
  Calls fZ 62 #[.pointer (some ⟨C.mm,0,none⟩),.pointer (some ⟨g,rest.length*3,none⟩),vc,va] w (DoPost C X f0 rest c w):=by
 have ae:=iQ h.ok;rw[m]at ae;obtain⟨i,o,hf,aJ,aK,_⟩:=ae;have hf:(match C.p.env.globals[c.n]?,C.p.env.muts[c.n]? with | some g,some true=>some ([g],[]) | _,_=>none)=some (i,o):=hf
 obtain⟨t,N,B,e2⟩:∃ t,C.p.env.globals[c.n]? = some t/\i = [t]/\o = []:=by
  revert hf
  split
  ·rename_i t h1 h2;intro e;injection e with e;injection e with B e2;exact⟨t,h1,B.symm,e2.symm⟩
  ·intro e;cases e
 subst B;subst e2
 have aL:inK C.p.env f0.r.sig c = [t]:=by
  unfold inK;rw[m,show iJ C.p.env f0.r.sig 36 c.n=_ from hf];rfl
 obtain⟨x,F⟩:∃ x,a = [x]:=by
  have hl:a.length=1:=by rw[h.args];unfold getV;rw[Bq];exact aJ
  match a,hl with
  | [x],_=>exact⟨x,rfl⟩
 have aQ:=h.ur.all x (by rw[F];exact List.mem_singleton.2 rfl);have aM:argV C.p.env f0.r c f0.V = [oJ t x]:=(by unfold argV;rw[aL,<-h.args,F];rfl)
 have al:jZ c (argV C.p.env f0.r c f0.V) X.x.s=(0,0,{ X.x.s with globals:=X.x.s.globals.set c.n (oJ t x) }):=by
  rw[aM];unfold jZ;rw[m,if_neg (by decide),if_neg (by decide),if_neg (by decide),if_neg (by decide),if_neg (by decide),if_pos rfl];rfl
 have az:=fQ al;have aR:=fQ (show c.op≠276/\c.op≠277/\c.op≠273/\c.op≠274/\c.op≠275/\c.op≠16 by rw[m];decide);have aS:=fQ (Ak (show c.outs.length=0 from aK));have aA:c.n<X.x.s.globals.length:=(by rw[hG];exact(List.getElem?_eq_some_iff.1 N).1);obtain⟨u,O⟩:=fX X.x.s.globals.length;obtain⟨l,gc,P,aT⟩:∃ G c,C.gv = .slice (some ⟨G,0,none⟩) X.x.s.globals.length c/\G<w.heap.size:=(by obtain⟨G,c,B,e2,_⟩:=lQ h.ref.glo (by omega);exact⟨G,c,B,e2⟩);have an:u=C.p.env.globals.length:=(by omega);obtain⟨BA,H,I⟩:=(KC.eYw h.kc).shape;have v:=KC.eYw h.kc;rw[I]at v;obtain⟨Q,R,aU,aN,aO⟩:=v.ir.cell N;subst aU;have ao:=v.eYz.2.1;have aD:=v.eYz.2.2.2;rw[<-an]at I ao v;rw[O]at P aA;have aV:(c.n:Int)<(u:Int):=(by omega);have bm:(0:Int)<=(c.n:Int)+1:=(by omega);have bn:(c.n:Int)+1<=(H:Int):=(by omega);have bp:¬H=c.n:=(by omega);have bq:IntKind.u64.wrap ((c.n:Int)+1)=((c.n+1:Nat):Int):=(by rw[show(c.n:Int)+1=((c.n+1:Nat):Int) by omega];exact pZ (by omega));have aW:=fQ (show fK c.op = .tuple #[.int .i64 0,.int .i64 0,.bool false,.bool false] by rw[m];rfl);have br:(c.op == 35)=false:=(by rw[m];rfl);have bs:(c.op == 36)=true:=(by rw[m];rfl);have HX:=fQ F;obtain⟨ca,cb,cd,rfl,S,aX,aY,aZ⟩:=h.code;have hB:=(Av w.heap.size w).alloc (Aj _) (.cells #[.int .i64 c.op,.int .u64 (c.n:Int),ca,cb,cd] 86);have J:=fQ h;have T:=fQ (Blk.new w 86 #[.int .i64 c.op,.int .u64 (c.n:Int),ca,cb,cd]);have U:=fQ hB;have a1 : -9223372036854775808<=c.op/\c.op<=9223372036854775807:=S.2;have a6:c.n<18446744073709551616:=S.1;have a7:=h.ref.bel.size;have z:=fQ P;have W:=fQ I;have a8:=fQ aO;have aP:=fQ aN;have ba:=fQ O;clear h hB S aX aY aZ al aK aJ hf m N hG O P aL F aM v I an aN aO;go_in;go_wp2_with fail;refine(qQ c.op _).mono ?_;rintro e j ⟨rfl,Y⟩;have L:=fQ (U.out.trans (Y.mono U.out.size));have k:=fQ (J.out.ref.below L.out);have bd:=fQ (KK.eYy (x:=X) L.out);have Z:=fQ (T.out.below Y T.out.lt);have be:=fQ (J.out.ur.below L.out (Aj _));have bt:=fQ (KRef.fresh J.out.ref.toKRest (Aj w.heap.size));obtain⟨b0,b1,b2,b3,b4⟩:=gJ Z.out;have yB:=Z.out.lt;have m1:=k.out.eYx;have yb:=k.out.cb.lt;have ym:=k.out.mm.lt;have d2:j.cell? ⟨C.cb,2,none⟩=some C.b:=k.out.cell 2;have d6:j.cell? ⟨C.cb,6,none⟩=some X.mv:=k.out.cell 6;have d7:j.cell? ⟨C.cb,7,none⟩=some (.int .i64 X.x.s.most):=k.out.cell 7;have d8:j.cell? ⟨C.cb,8,none⟩=some C.gv:=k.out.cell 8;clear Y U T;have yg:l<j.heap.size:=Aw aT L.out.size;rw[z.out]at d8;rw[W.out]at d2;rw[aW.out];go_wp2_with fail;refine mQ (fun w'=>w'.cell? ⟨C.mm,0,none⟩=some (.pointer (some ⟨C.cb,0,none⟩))/\w'.cell? ⟨C.cb,8,none⟩=some (.slice (some ⟨l,0,none⟩) u gc)/\w'.cell? ⟨C.cb,2,none⟩=some (.slice (some ⟨Q,R,none⟩) u H)/\w'.cell? ⟨w.heap.size,1,none⟩=some (.int .u64 (c.n:Int))/\C.mm<w'.heap.size/\C.cb<w'.heap.size/\w.heap.size<w'.heap.size) (fun _=>True) 1000 (by kernel_rfl) ⟨m1,d8,d2,b1,ym,yb,yB⟩ trivial (fun d=>?_);refine wtk 0 d (fun d=>?_);refine wtk 1 d (fun d=>?_);refine wtk 2 d (fun d=>?_);refine wtk 3 d (fun d=>?_);refine wtk 4 d (fun d=>?_)
 refine wtk 5 d (fun d=>?_);refine wtk 6 d (fun d=>?_);refine wtk 7 d (fun d=>?_);refine wtk 8 d (fun d=>?_);refine wtk 9 d (fun d=>?_);refine wtk 10 d (fun d=>?_);refine wtk 11 d (fun d=>?_);refine wtk 12 d (fun d=>?_);refine wtk 13 d (fun d=>?_);refine wtk 14 d (fun d=>?_);refine wtk 15 d (fun d=>?_);refine wtk 16 d (fun d=>?_);refine wtk 17 d (fun d=>?_);refine wtk 18 d (fun d=>?_);refine wtk 19 d (fun d=>?_);refine wtk 20 d (fun d=>?_);refine wtk 21 d (fun d=>?_);refine wtk 22 d (fun d=>?_);refine wtk 23 d (fun d=>?_);refine wtk 24 d (fun d=>?_);refine wtk 25 d (fun d=>?_);refine gY (i:=26) (by kernel_rfl) rfl (fun K f=>?_);go_simp;refine(aQs _ _ [t] a _ (eZv (Aw aP.out (show C.w0.heap.size<=j.drew.heap.size from k.out.bel.size)) (((show Below C.w0.heap.size C.w0 j.drew from k.out.bel.drew).cell (p:=⟨Q,R+c.n,none⟩) aP.out).trans a8.out)) (show UR j.drew va a from be.out) (by rw[HX.out];rfl)).mono ?_;rintro e w2 ⟨v3,rfl,D,E⟩;rw[HX.out]at D;obtain⟨A3,c3,rfl,bu⟩:=fJ D;obtain⟨g3,bw,e3,bx,bz,_⟩:=lQ D (by simp);injection e3 with e3 _ bA;subst e3;have bf:w2.cell? ⟨g3,0,none⟩=some (.int .u64 (oJ t x:Int)):=D.cellAt 0 (by simp);have q:=fQ (k.out.drew.below E);have bg:=fQ (bd.out.drew.below E);have ai:=fQ (Z.out.drew.below E (show w.heap.size<j.drew.heap.size from yB));have SS:w2.cell? ⟨C.mm,0,none⟩=some (.pointer (some ⟨C.cb,0,none⟩))/\w2.cell? ⟨C.cb,8,none⟩=some (.slice (some ⟨l,0,none⟩) u gc)/\w2.cell? ⟨C.cb,2,none⟩=some (.slice (some ⟨Q,R,none⟩) u H)/\w2.cell? ⟨w.heap.size,1,none⟩=some (.int .u64 (c.n:Int))/\C.mm<w2.heap.size/\C.cb<w2.heap.size/\w.heap.size<w2.heap.size:=⟨q.out.eYx,z.out ▸ q.out.cell 8,W.out ▸ q.out.cell 2,ai.out.cell 1,q.out.mm.lt,q.out.cb.lt,ai.out.lt⟩;have aI:=fQ SS;have bB:l<w2.heap.size:=Aw yg (show j.heap.size<=w2.heap.size from E.size);have M:=q.out.glo;rw[z.out,ba.out]at M;obtain⟨pv,bh⟩:=aVe M (show c.n<u by omega);have bj:w2.frozen? ⟨l,c.n,none⟩=false:=M.frozenAt _;clear D E SS M;refine f.out _ _ ⟨aI.out,fun _=>trivial⟩ (fun d=>?_);clear f K
 try simp only[AZ,Aq,Ax,Az]
 refine gY (i:=27) (by kernel_rfl) rfl (fun K f=>?_);go_simp;refine f.out _ _ ⟨aI.out,fun _=>trivial⟩ (fun d=>?_);clear f K
 try simp only[AZ,Aq,Ax,Az]
 refine gY (i:=28) (by kernel_rfl) rfl (fun K f=>?_);go_simp;refine f.out _ _ ⟨aI.out,fun _=>trivial⟩ (fun d=>?_);clear f K
 try simp only[AZ,Aq,Ax,Az]
 refine wtk 29 d (fun d=>?_);refine gY (i:=30) (by kernel_rfl) rfl (fun K f=>?_);go_simp;have A:=fQ (q.out.fQl z.out c.n (oJ t x));have bk:=fQ (bg.out.set (y:=X) (g:=l) c.n (.int .u64 (oJ t x:Int)) (.inl (by rw[q.out.l3 l (by rw[z.out];rfl)];decide)) rfl);have au:=fQ (ai.out.setCell (p:=⟨l,c.n,none⟩) (.int .u64 (oJ t x:Int)) (fun e=>by have e:w.heap.size=l:=e;omega));refine f.out _ _ ⟨⟨A.out.eYx,z.out ▸ A.out.cell 8,W.out ▸ A.out.cell 2,au.out.cell 1,A.out.mm.lt,A.out.cb.lt,au.out.lt⟩,fun _=>trivial⟩ (fun d=>?_);clear f K
 try simp only[AZ,Aq,Ax,Az]
 refine kW (by kernel_rfl) ?_ _;clear d;clear bf bh bj m1 d2 d6 d7 d8 b0 b1 b2 b3 b4;go_wp2;go_ret;exact aYk J.out.st A.out (bk.out.to rfl) rfl aS.out az.out aR.out
theorem dKp(C:KaC)(X:KaS)(f0:FrD)(rest:List FrD)(g cS:Nat)(vc:By)(c:CodeD)(va:By)(a:List Nat)(w:Bw)(h:DoI C X f0 rest g cS vc c va a w)(u:c.op=64)(T:StOk C.p.env X.x.s):
  Calls fZ 62 #[.pointer (some ⟨C.mm,0,none⟩),.pointer (some ⟨g,rest.length*3,none⟩),vc,va] w (DoPost C X f0 rest c w):=by
 have ag:=iQ h.ok;rw[u]at ag;obtain⟨i,o,hf,aL,aM,_⟩:=ag
 obtain⟨U,e2⟩:i = [127]/\o = [127]:=by
  have q:mJ C.p.env.mem 64 c.n=some (i,o):=hf;unfold mJ at q
  split at q
  ·cases q
  ·rw[if_neg (by decide),show acc 64=none from rfl]at q;dsimp only at q;rw[if_neg (by decide),if_pos rfl]at q
   split at q
   ·injection q with q;injection q with U e2;exact⟨U.symm,e2.symm⟩
   ·cases q
 subst U;subst e2
 have aN:inK C.p.env f0.r.sig c = [127]:=by
  unfold inK;rw[u,hf];rfl
 obtain⟨x,P⟩:∃ x,a = [x]:=by
  have hl:a.length=1:=by rw[h.args];unfold getV;rw[Bq];exact aL
  match a,hl with
  | [x],_=>exact⟨x,rfl⟩
 have aX:=h.ur.all x (by rw[P];exact List.mem_singleton.2 rfl);obtain⟨y,hy⟩:=fX (x % 4294967296);have aY:y<4294967296:=(by omega);have aO:argV C.p.env f0.r c f0.V = [y]:=(by unfold argV;rw[aN,<-h.args,P,<-hy];rfl);obtain⟨D,Q⟩:=fX X.x.s.mem.length
 have an:jZ c (argV C.p.env f0.r c f0.V) X.x.s=(qK D X.x.s.most y,0,{ X.x.s with mem:=kY X.x.s.mem X.x.s.most y }):=by
  rw[aO,<-Q];unfold jZ;rw[u,if_neg (by decide),if_neg (by decide),if_neg (by decide),if_neg (by decide),if_neg (by decide),if_neg (by decide),if_neg (by decide)];rfl
 have az:=fQ an;have aZ:=fQ (show c.outs.length = [qK D X.x.s.most y].length from aM);have a1:=fQ (show c.op≠276/\c.op≠277/\c.op≠273/\c.op≠274/\c.op≠275/\c.op≠16 by rw[u];decide);have a6:IntKind.u32.wrap (x:Int)=(y:Int):=(by rw[IntKind.wrap_u32];omega);have a7:IntKind.u64.wrap (y:Int)=(y:Int):=pZ (by omega);obtain⟨W,Y,R⟩:=h.ref.mem.shape;have Z:=h.ref.mem;rw[Q]at R;rw[R]at Z;have S:=h.ur;obtain⟨A1,c1,aP⟩:=S.shape;rw[P]at aP S;subst aP;obtain⟨ab,H,a8,aQ,aB,_⟩:=S.cell (k:=0) (x:=x) rfl;subst a8;rw[Bk]at aB;have ba:=fQ (show fK c.op = .tuple #[.int .i64 0,.int .i64 0,.bool false,.bool false] by rw[u];rfl);have bp:(c.op == 35)=false:=(by rw[u];rfl);have bq:(c.op == 36)=false:=(by rw[u];rfl);have br:(c.op == 63)=false:=(by rw[u];rfl);have bs:(c.op == 64)=true:=(by rw[u];rfl);have aC:qK D X.x.s.most y<18446744073709551616:=(by unfold qK;have:=T.fQj;split <;> omega);obtain⟨ca,cb,cd,rfl,ah,bb,bc,bd⟩:=h.code;have hB:=(Av w.heap.size w).alloc (Aj _) (.cells #[.int .i64 c.op,.int .u64 (c.n:Int),ca,cb,cd] 86);have t:=fQ h;have aD:=fQ (Blk.new w 86 #[.int .i64 c.op,.int .u64 (c.n:Int),ca,cb,cd]);have aE:=fQ hB;have be : -9223372036854775808<=c.op/\c.op<=9223372036854775807:=ah.2;have bf:c.n<18446744073709551616:=ah.1;have bg:=h.ref.bel.size;have aF:=fQ R;have L:=fQ Z;have bh:=fQ aB;have aR:=fQ aQ;have HS:=fQ T;have bt:=fQ Q;clear h hB ah bb bc bd an aM aL hf u aN P aO R Z S aB aQ T hy Q;go_in;go_wp2_with fail;refine(qQ c.op _).mono ?_;rintro e z ⟨rfl,aG⟩;have I:=fQ (aE.out.trans (aG.mono aE.out.size));have A:=fQ (t.out.ref.below I.out);have aS:=fQ (KK.eYy (x:=X) I.out);have ai:=fQ (aD.out.below aG aD.out.lt);have bu:=fQ (t.out.ur.below I.out (Aj _));have bj:=fQ (KRef.fresh t.out.ref.toKRest (Aj w.heap.size));obtain⟨b0,b1,b2,b3,b4⟩:=gJ ai.out;have yB:=ai.out.lt;have m1:=A.out.eYx;have yb:=A.out.cb.lt;have ym:=A.out.mm.lt;have d2:z.cell? ⟨C.cb,2,none⟩=some C.b:=A.out.cell 2;have d6:z.cell? ⟨C.cb,6,none⟩=some X.mv:=A.out.cell 6;have d7:z.cell? ⟨C.cb,7,none⟩=some (.int .i64 X.x.s.most):=A.out.cell 7;have d8:z.cell? ⟨C.cb,8,none⟩=some C.gv:=A.out.cell 8;clear aG aE aD;have aH:z.cell? ⟨ab,H,none⟩=some (.int .u64 (x:Int)):=(I.out.cell (p:=⟨ab,H,none⟩) aR.out).trans bh.out;have ya:ab<z.heap.size:=Aw aR.out I.out.size;rw[aF.out]at d6;rw[ba.out];go_wp2_with fail;refine mQ (fun w'=>w'.cell? ⟨C.mm,0,none⟩=some (.pointer (some ⟨C.cb,0,none⟩))/\w'.cell? ⟨C.cb,7,none⟩=some (.int .i64 X.x.s.most)/\w'.cell? ⟨ab,H,none⟩=some (.int .u64 (x:Int))/\C.mm<w'.heap.size/\C.cb<w'.heap.size/\ab<w'.heap.size) (fun w'=>w'.cell? ⟨C.cb,6,none⟩=some (.slice W D Y)) 32 (by kernel_rfl) ⟨m1,d7,aH,ym,yb,ya⟩ d6 (fun d=>?_);refine wtk 0 d (fun d=>?_);refine wtk 1 d (fun d=>?_);refine wtk 2 d (fun d=>?_);refine wtk 3 d (fun d=>?_);refine wtk 4 d (fun d=>?_);refine wtk 5 d (fun d=>?_);refine wtk 6 d (fun d=>?_);refine wtk 7 d (fun d=>?_);refine wtk 8 d (fun d=>?_);refine wtk 9 d (fun d=>?_);refine wtk 10 d (fun d=>?_);refine vX (i:=11) (v:=?vg11) rfl (by kernel_rfl) (by kernel_rfl) (by kernel_rfl) (fun _ _ _ h=>h) rfl (by kernel_rfl) (by kernel_rfl) (Or.inl ⟨by rfl,?hyg11⟩) d (fun d=>?_)
 case hyg11=>intro w bk;(try dsimp only at bk);go_simp;(try with_reducible rfl)
 try simp only[AZ,Aq,Ax,Az]
 refine wtk 12 d (fun d=>?_);refine wtk 13 d (fun d=>?_);refine wtk 14 d (fun d=>?_);refine wtk 15 d (fun d=>?_);refine wtk 16 d (fun d=>?_);refine wtk 17 d (fun d=>?_);refine wtk 18 d (fun d=>?_);refine wtk 19 d (fun d=>?_);refine wtk 20 d (fun d=>?_);refine wtk 21 d (fun d=>?_);refine wtk 22 d (fun d=>?_);refine wtk 23 d (fun d=>?_);refine wtk 24 d (fun d=>?_);refine gY (i:=25) (by kernel_rfl) rfl (fun K M=>?_);go_simp;refine(dWi W D Y X.x.s.mem X.x.s.most y z.drew ((L.out.below I.out.drew (Aj _)).len.2.1) (fun e=>⟨(by have:=L.out.len;have h0:=this.2.2.2.1 e;omega),L.out.len.2.2.2.1 e⟩) (L.out.len.2.2.2.2.1.1) (by have:=HS.out.memL;omega) (by have:=HS.out.most;omega) (by omega)).mono ?_;rintro e w2 ⟨f,l,rfl,E,J⟩;obtain⟨m,aT⟩:=fX ((kY X.x.s.mem X.x.s.most y).length);have aI:=aYl E (aWs L.out.len.2.2.2.2.2 _ _) (by have h1:=HS.out.fQj;have:=dKn X.x.s.mem X.x.s.most y h1;omega);rw[aT]at E aI ⊢;have B:=fQ (A.out.drew.below J);have bm:=fQ (aS.out.drew.below J);have bn:=fQ aI;have aU:=fQ (fun(j:Nat) (F:(Aa f m l).ownBlock=some j)=>(⟨KRef.fresh A.out.drew.toKRest (E.lt j F).1,Ai A.out.drew.bel.size (E.lt j F).1,(E.lt j F).2⟩:X.lab j=0/\C.w0.heap.size<=j/\j<w2.heap.size));have bo:=fQ (fun(j:Nat) (F:(Aa f m l).ownBlock=some j)=>Ai aS.out.size (E.lt j F).1);have N:=fQ (show w2.cell? ⟨ab,H,none⟩=some (.int .u64 (x:Int))/\ab<w2.heap.size from⟨(J.cell (p:=⟨ab,H,none⟩) (show ab<z.drew.heap.size from ya)).trans aH,Aw (show ab<z.drew.heap.size from ya) J.size⟩);have aJ:=fQ (ai.out.drew.below J (show w.heap.size<z.drew.heap.size from yB));clear E J aI aT;refine M.out _ _ ⟨⟨B.out.eYx,B.out.cell 7,N.out.1,B.out.mm.lt,B.out.cb.lt,N.out.2⟩,fun _=>aF.out ▸ B.out.cell 6⟩ (fun d=>?_);clear M K
 try simp only[AZ,Aq,Ax,Az]
 refine wtk 26 d (fun d=>?_);refine wtk 27 d (fun d=>?_);refine wtk 28 d (fun d=>?_);refine wtk 29 d (fun d=>?_);refine wtk 30 d (fun d=>?_);refine wtk 31 d (fun d=>?_);have e6:w2.cell? ⟨C.cb,6,none⟩=some (.slice W D Y):=aF.out ▸ B.out.cell 6;have f6:=frz B.out.cb 6;refine gY (i:=32) (by kernel_rfl) rfl (fun K M=>?_);go_simp;have G:=fQ ((B.out.fQc (.slice f m l) 6 aU.out).fQh (.slice f m l) (kY X.x.s.mem X.x.s.most y) bn.out (fun k O=>xV O));have aV:=fQ ((bm.out.fQc (v:=.slice f m l) (c:=6) (fun j F=>.inl (bo.out j F))).set (y:={ X with lab:=mK X.lab (.slice f m l) 6 }) (g:=C.cb) 6 (.slice f m l) (.inl (by show mK X.lab _ 6 C.cb≠0;rw[tQ (fun e=>by have h1:=(aU.out _ e).1;rw[B.out.cl]at h1;cases h1),B.out.cl];decide)) rfl);have aW:=fQ (show(w2.setCell ⟨C.cb,6,none⟩ (.slice f m l)).cell? ⟨ab,H,none⟩=some (.int .u64 (x:Int))from(oK (fun e=>by have h1:=t.out.free ab rfl;rw[e,t.out.ref.cl]at h1;cases h1)).trans N.out.1);refine M.out _ _ (SD.after ⟨G.out.eYx,G.out.cell 7,aW.out,G.out.mm.lt,G.out.cb.lt,Aw N.out.2 (by simp[World.setCell])⟩ (by kernel_rfl)) (fun d=>?_);clear M K
 try simp only[AZ,Aq,Ax,Az]
 refine wtk 33 d (fun d=>?_);refine kW (by kernel_rfl) ?_ _;clear d;clear e6 f6 m1 d2 d6 d7 d8 b0 b1 b2 b3 b4 aH;obtain⟨w3,aK⟩:=fX (w2.setCell ⟨C.cb,6,none⟩ (.slice f m l));have au:=fQ (aK ▸ (aJ.out.setCell (p:=⟨C.cb,6,none⟩) (.slice f m l) (fun e=>by have e:w.heap.size=C.cb:=e;have h1:=bj.out;rw[e,t.out.ref.cl]at h1;cases h1)):Blk w3 w.heap.size 86 #[.int .i64 c.op,.int .u64 (c.n:Int),ca,cb,cd]);rw[aK]at G aV ⊢;clear aK aW N;obtain⟨b0,b1,b2,b3,b4⟩:=gJ au.out;have bw:=au.out.lt;go_wp2_with fail;refine(rQ C { X with lab:=mK X.lab (.slice f m l) 6,mv:=.slice f m l,x:={ X.x with s:={ X.x.s with mem:=kY X.x.s.mem X.x.s.most y } } } { f0 with k:=f0.k+1 } rest g cS _ c _ [(qK D X.x.s.most y)] _ (G.out.below ((Av _ _).alloc (Aj _) _)) t.out.st t.out.sv t.out.code (aXm _ aC) (fun k O=>by injection O with O;rw[<-O,KRef.fresh G.out.toKRest (Aj _)];omega) t.out.outs (Ab aZ.out.symm)).mono ?_;rintro e w9 ⟨rfl,l1,l2⟩;have L1:=fQ l1;have L2:=fQ l2;clear l1 l2;go_wp2;go_ret;exact aQj t.out.st L1.out (((aV.out.to (y:={ X with lab:=mK X.lab (.slice f m l) 6,mv:=.slice f m l,x:={ X.x with s:={ X.x.s with mem:=kY X.x.s.mem X.x.s.most y } } }) rfl).below ((Av _ _).alloc (Aj _) _)).trans L2.out) rfl az.out a1.out
end Go.Proofs.YtabibkpfgmolkaaGreatDoor

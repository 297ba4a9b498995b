/- Lemmas for the claim, part 13. Conditions: none. -/
import Derived.Test.YtabibkpfgmolkaaGreatPk12
import Derived.StillTailTactics
set_option maxRecDepth 100000
set_option maxHeartbeats 16000000
set_option linter.unusedVariables false
set_option linter.unusedSimpArgs false
open Go.Lib renaming hid→fQ
open Go.Proofs.Tryz renaming prog→fZ
open Go.Proofs.Tryz
open Go.RowKit
open List renaming getElem?_eq_getElem→Aj,mem_of_getElem?→Aq,take_of_length_le→Aw,take_succ_eq_append_getElem→Ay,any_append→AK
open Nat renaming le_refl→Ax,eq_zero_or_pos→AQ,le_of_eq→AX,add_zero→AZ
open Array renaming replicate→Az
open Go.RowKit.Below renaming refl→Ak
open Go.IntWalk renaming i64_in→AJ
open Go renaming World→AV,Value→AW
open Go.RowKit renaming Below→AY
namespace Go.Proofs.YtabibkpfgmolkaaGreat
variable {k n P base j i b g:Nat}{v:AW}{w a wr w':AV}{l t u:List Int}{o p:Int}{S gs:List Nat}
theorem cKb{g:Nat->Bool}{x:Int}(h:l[k]? = some x):sJ g (l.take (k+1))=(sJ g (l.take k) || !g x.toNat):=by
 obtain⟨a,e⟩:=List.getElem?_eq_some_iff.1 h;rw[Ay a,e];unfold sJ;rw[AK];simp
def CcM(w:AV)(n:Nat)(rv:Array AW)(g:Nat->Bool)(wi:AV):Prop:=RB 4 wi (w.heap.size+1) n g/\Blk wi w.heap.size 43 rv/\AY w.heap.size w wi
theorem CcM.keep{w:AV}{n:Nat}{rv:Array AW}{g:Nat->Bool}{wi b:AV}(h:CcM w n rv g wi)(a:AY wi.heap.size wi b):CcM w n rv g b:=
 ⟨h.1.keep a,h.2.1.below a h.2.1.lt,h.2.2.trans (a.mono h.2.2.size)⟩
theorem CcM.set{w:AV}{n:Nat}{rv:Array AW}{g:Nat->Bool}{wi:AV}(h:CcM w n rv g wi)(i:Nat):CcM w n rv (fun j=>if j=i then true else g j) (wi.setCell ⟨w.heap.size+1,i,none⟩ (.bool true)):=
 ⟨h.1.set i true,rY h.2.1 (by omega),h.2.2.setCell (p:=⟨w.heap.size+1,i,none⟩) (by simp) _⟩
def CcS(r:RowD)(w:AV)(n:Nat)(rv:Array AW)(M k:Nat)(b:Bool)(g:Nat->Bool)(wi:AV):Prop:=
 CcM w n rv g wi/\GInv r g/\aWt n g<=M/\(b=true->aWt n g<M)/\(b=false->∀ j,k<=j->j<n->g j=false->sJ g (edges r j)=true)
theorem CcS.stay{r:RowD}{M:Nat}{rv:Array AW}{b:Bool}{g:Nat->Bool}{wi:AV}(h:CcS r w n rv M (k+1) b g wi)(c:AY wi.heap.size wi a)(hs:g k=false->sJ g (edges r k)=true):CcS r w n rv M k b g a:=
 ⟨h.1.keep c,h.2.1,h.2.2.1,h.2.2.2.1,fun d j hj hn hg=>by
  by_cases e:j=k
  ·subst e;exact hs hg
  ·exact h.2.2.2.2 d j (by omega) hn hg⟩
theorem CcS.gone{r:RowD}{w:AV}{n M k:Nat}{rv:Array AW}{b:Bool}{g:Nat->Bool}{wi a:AV}(h:CcS r w n rv M (k+1) b g wi)(c:AY wi.heap.size wi a)(hf:FlowOk r)(hn:k<n)(hg:g k=false)(hs:sJ g (edges r k)=false):
  CcS r w n rv M k true (fun j=>if j=k then true else g j) (a.setCell ⟨w.heap.size+1,k,none⟩ (.bool true)):=by
 have hc:=dVz (g:=g) hn hg;exact⟨(h.1.keep c).set k,h.2.1.gone hf hs,by have:=h.2.2.1;omega,fun _=>by have:=h.2.2.1;omega,fun e=>by cases e⟩
theorem cXr(r:RowD)(vr:AW)(w:AV)(hr:RowV w vr r)(hf:FlowOk r):Calls fZ 42 #[vr] w (dXm r w):=by
 obtain⟨s,u,vs,vd,rfl,h4,h5,h6,G⟩:=hr;obtain⟨A,cc,rfl,_⟩:=G.len;obtain⟨_,l7,aB⟩:=G.fQb;have H7:=fQ G;have D:=fQ hf;have ar:=hf.n2;have au:=hf.n1;have HR:=fQ (show RowV w (.agg #[s,u,.int .i64 r.places,vs,.slice A r.code.length cc]) r from⟨s,u,vs,_,rfl,h4,h5,h6,G⟩);obtain⟨n,hn⟩:=fX r.code.length;rw[hn]at HR ar au ⊢;have O:=fQ hn;have aC:=fQ (show AY w.heap.size w (w.alloc (.cells #[s,u,.int .i64 r.places,vs,.slice A n cc] 43))from(Ak _ _).alloc (Ax _) _);have K0:=fQ (Blk.new w 43 #[s,u,.int .i64 r.places,vs,.slice A n cc]);have mk:=vZ (P:=fZ) 24 4 (.bool false) 1 underlying24 aQt rfl n (by omega) (by omega);clear h4 h5 h6 G hf hn;go_in;go_wp2
 have al:=fQ (show CcM w n #[s,u,.int .i64 r.places,vs,.slice A n cc] (fun _=>false) ((w.alloc (.cells #[s,u,.int .i64 r.places,vs,.slice A n cc] 43)).alloc (.cells (Az n (.bool false)) 4))from
  ⟨RB.new (t:=4) _ (N:=w.heap.size+1) (n:=n) false (by simp),K0.out.alloc _,al2 _ _ _⟩)
 clear mk;go_loopg [4] (aWt n (fun _=>false)*2+1) (fun gk v wi=>∃ (b:Bool) (g:Nat->Bool),v = .bool b/\Hid (CcM w n #[s,u,.int .i64 r.places,vs,.slice A n cc] g wi)/\Hid (GInv r g)/\Hid (b=false->∀ j,j<n->g j=false->sJ g (edges r j)=true)/\Hid (aWt n g*2+(if b then 1 else 0)=gk))
 case atStart=>exact⟨true,_,rfl,al,fQ (GInv.start r),fQ (fun e=>by cases e),fQ rfl⟩
 case round=>
  clear al;obtain⟨b,g,rfl,IM,S,a,IK⟩:=hrel
  cases b with
  | false=>
   have f:=fun i (hi:i<n)=>IM.out.1.cell hi;have y1:=IM.out.1.lt;have T:=fQ f;have U:=fQ (S.out.done D.out (by rw[O.out];exact a.out rfl));rw[O.out]at U;clear f;go_wp2;go_loop [9] (fun i=>∃ k:Nat,k<=n/\i = .int .i64 k/\Hid (∀ j,j<k->g j=true)) (fun i=>n - (intOf i).toNat)
   case atStart=>exact⟨0,by omega,rfl,fQ (fun j h=>by omega)⟩
   case round=>
    obtain⟨k,hk,rfl,V⟩:=hrel;by_cases C:k<n
    ·have t1:decide ((k:Int)<n)=true:=(by simp;omega);have t2:(k:Int)<n:=(by omega);have f:=T.out _ C
     cases hg:g k with
     | false=>
      rw[hg]at f;have HG:=fQ hg;clear hg;go_wp2;go_ret;exact⟨true,rfl,⟨fun _=>U.out.1 ⟨k,C,HG.out⟩,fun _=>rfl⟩,IM.out.2.2⟩
     | true=>
      rw[hg]at f
      have HA:=fQ (show ∀ j,j<k+1->g j=true from fun j hj=>by
       by_cases e:j=k
       ·rw[e,hg]
       ·exact V.out j (by omega))
      clear hg V;go_wp2;go_round
      case rel=>exact⟨k+1,by omega,by simp,HA⟩
      case measure=>simp[intOf];omega
    ·have t1:decide ((k:Int)<n)=false:=(by simp;omega);go_wp2;go_ret
     exact⟨false,rfl,⟨fun e=>(by cases e),fun h=>by
      obtain⟨i,hi,hg⟩:=U.out.2 h;rw[V.out i (by omega)]at hg
      cases hg⟩,IM.out.2.2⟩
  | true=>
   obtain⟨M,W⟩:=fX (aWt n g);have HK:=fQ (show M*2+1=gk by have:=IK.out;rw[W]at this;simpa using this);have an:=fQ (show CcS r w n #[s,u,.int .i64 r.places,vs,.slice A n cc] M n false g wr from⟨IM.out,S.out,AX W,(fun e=>by cases e),fun _ j h1 h2=>by omega⟩);obtain⟨X,Y,Z,r3,r4⟩:=gQ IM.out.2.1;have y1:=IM.out.2.1.lt;have z1:IntKind.i64.wrap ((n:Int) - 1)=(n:Int) - 1:=AJ _ (by omega);clear W IM S a IK X Y Z r3;go_wp2_with fail;clear r4 y1;go_loopw [4,5] (fun tv iv wi=>∃ (k:Nat) (x:Int) (b:Bool) (g:Nat->Bool),k<=n/\Hid (x=(k:Int) - 1)/\iv = .int .i64 x/\tv = .bool b/\Hid (CcS r w n #[s,u,.int .i64 r.places,vs,.slice A n cc] M k b g wi)) (fun _ iv _=>(intOf iv+1).toNat)
   case atStart=>exact⟨n,_,false,g,by omega,fQ rfl,rfl,rfl,an⟩
   case round=>
    clear an;obtain⟨k,x,b,g,hk,Q,rfl,rfl,a⟩:=hrel;rcases AQ k with rfl | ah
    ·have o:x = -1:=(by have:=Q.out;omega);subst o;clear Q;go_wp2;go_roundg (aWt n g*2+(if b then 1 else 0))
     case measure=>
      rw[<-HK.out];have h1:=a.out.2.2.1;have h2:=a.out.2.2.2.1
      cases b with
      | true=>have:=h2 rfl;simp;omega
      | false=>simp;omega
     case rel=>exact⟨b,g,rfl,fQ a.out.1,fQ a.out.2.1,fQ (fun e j hj=>a.out.2.2.2.2 e j (by omega) hj),fQ rfl⟩
    ·obtain⟨d,rfl⟩:∃ d,k=d+1:=⟨k - 1,by omega⟩;have o:x=(d:Int):=(by have:=Q.out;omega);subst o;have t1:decide ((0:Int)<=(d:Int))=true:=(by simp);have C:d<n:=(by omega);have av:(d:Int)<n:=(by omega);have z2:IntKind.i64.wrap ((d:Int) - 1)=(d:Int) - 1:=AJ _ (by omega);obtain⟨c,hc⟩:∃ c,r.code[d]? = some c:=⟨_,Aj (by rw[O.out];exact C)⟩;obtain⟨gb,go,p,q,tt,rfl,aw,g0,_⟩:=H7.out.code hc;replace g0:=(a.out.1.2.2.cell (p:=⟨gb,_,none⟩) aw).trans g0;obtain⟨X,Y,Z,r3,r4⟩:=gQ a.out.1.2.1;have y1:=a.out.1.2.1.lt;have y2:gb<wr.heap.size:=(by have:=a.out.1.2.2.size;omega);have f:=a.out.1.1.cell C;have y4:=a.out.1.1.lt;have z4:=frz a.out.1.1 d;have E:=fQ hc;clear hc Q ah;by_cases F:c.op=258
     ·have t2:(c.op != 258)=false:=(by simp[F]);have H:=fQ (bXu E.out F);clear F
      cases hg:g d with
      | true=>
       rw[hg]at f;have y:=fQ (a.out.stay (Ak _ _) (fun e=>by rw[hg]at e;cases e));clear a hg;go_wp2;exact⟨⟨d,_,b,g,by omega,fQ rfl,rfl,rfl,y⟩,by first | (simp[intOf];done) | (simp[intOf];omega)⟩
      | false=>
       rw[hg]at f;have y:=fQ (a.out.gone (Ak _ _) D.out C hg (by rw[H.out];rfl));clear a hg;go_wp2;exact⟨⟨d,_,true,_,by omega,fQ rfl,rfl,rfl,y⟩,by first | (simp[intOf];done) | (simp[intOf];omega)⟩
     ·have t2:(c.op != 258)=true:=(by simp[F]);have H:=fQ (bXa E.out F);have ax:=fQ a.out.1.2.2;clear F;go_wp2_with fail;refine(bKm r _ d c _ (HR.out.below ax.out (Ax _)) E.out (D.out.to d c E.out).2.1).mono ?_;rintro en w1 ⟨vl,rfl,I,hb⟩;obtain⟨B,cB,rfl⟩:=I.shape;obtain⟨l,J⟩:=fX (nextOf c d);rw[J]at H;have ay:=fQ (show ∀ x∈l,0<=x/\x<(n:Int)from fun x o=>by rw[<-O.out];exact(D.out.to d c E.out).1 x (by rw[J];exact o));rw[J]at I ⊢;obtain⟨m,R⟩:=fX l.length;rw[R]at I ⊢;have az:m<=66:=(by rw[<-R,<-J];exact(D.out.to d c E.out).2.2);have HM:=fQ R;have HL:=fQ I;have ai:=fQ hb;have K:=a.out.1.keep hb;have T:=fQ (fun i (hi:i<n)=>K.1.cell hi);have f:=K.1.cell C;have y4:=K.1.lt;have z4:=frz K.1 d;clear I hb J R K X Y Z r3 r4 y1 y2 g0;go_wp2_with fail;go_loop [6,8] (fun sv j=>∃ q:Nat,q<=m/\j = .int .i64 q/\sv = .bool (sJ g (l.take q))) (fun _ j=>m - (intOf j).toNat)
      case atStart=>exact⟨0,by omega,rfl,by simp[sJ]⟩
      case round=>
       obtain⟨q,hq,rfl,rfl⟩:=hrel;by_cases aA:q<m
       ·have t3:decide ((q:Int)<m)=true:=(by simp;omega);have t4:(q:Int)<m:=(by omega);obtain⟨x,o⟩:∃ x,l[q]? = some x:=⟨_,Aj (by rw[HM.out];exact aA)⟩;have aq:=ay.out x (Aq o);obtain⟨z,rfl⟩:∃ z:Nat,x=z:=⟨x.toNat,by omega⟩;have aD:(z:Int)<n:=aq.2;have aj:z<n:=(by omega);have L:=fQ (cKb (g:=g) o);rw[Int.toNat_natCast]at L;obtain⟨ab,ao,rfl,hab,hcl⟩:=HL.out.cell o;have c5:=T.out _ aj;clear o aq
        cases hs:sJ g (l.take q)with
        | true=>
         have HT:=fQ (show sJ g (l.take (q+1))=true by rw[L.out,hs];rfl);clear hs L;go_wp2;go_round
         case rel=>exact⟨q+1,by omega,by simp,by rw[HT.out]⟩
         case measure=>simp[intOf];omega
        | false=>
         obtain⟨tb,ak⟩:=fX (g z);rw[ak]at c5;have HT:=fQ (show sJ g (l.take (q+1)) = !tb by rw[L.out,hs,ak];rfl);clear hs L ak;go_wp2;go_round
         case rel=>exact⟨q+1,by omega,by simp,by rw[HT.out]⟩
         case measure=>simp[intOf];omega
       ·have t3:decide ((q:Int)<m)=false:=(by simp;omega);have et:l.take q=l:=Aw (by rw[HM.out];omega);rw[et];clear et
        cases hs:sJ g l with
        | true=>
         have y:=fQ (a.out.stay ai.out (fun _=>by rw[H.out];exact hs));clear a hs;go_wp2;exact⟨⟨d,_,b,g,by omega,fQ rfl,rfl,rfl,y⟩,by first | (simp[intOf];done) | (simp[intOf];omega)⟩
        | false=>
         cases hg:g d with
         | true=>
          rw[hg]at f;have y:=fQ (a.out.stay ai.out (fun e=>by rw[hg]at e;cases e));clear a hg hs;go_wp2;exact⟨⟨d,_,b,g,by omega,fQ rfl,rfl,rfl,y⟩,by first | (simp[intOf];done) | (simp[intOf];omega)⟩
         | false=>
          rw[hg]at f;have y:=fQ (a.out.gone ai.out D.out C hg (by rw[H.out];exact hs));clear a hg hs;go_wp2;exact⟨⟨d,_,true,_,by omega,fQ rfl,rfl,rfl,y⟩,by first | (simp[intOf];done) | (simp[intOf];omega)⟩
theorem aVr(e:EnvD)(r:RowD)(ve vr:AW)(w:AV)(he:EnvV w ve e)(hr:RowV w vr r):Calls fZ 18 #[ve,vr] w (ChkPost e r w):=by
 have HE:=fQ he;have HR:=fQ hr;obtain⟨O,vb,P,rfl,h1,h2,h3⟩:=he;obtain⟨vp,vq,vr,vs,rfl,h4,h5,R,S⟩:=hr;have H4:=fQ h4;have H5:=fQ h5;have H6:=fQ R;have H7:=fQ S;obtain⟨l,cp,rfl⟩:=h4.shape;obtain⟨m,o,rfl⟩:=h5.shape;obtain⟨T,U,rfl⟩:=R.shape;obtain⟨V,cc,rfl,_⟩:=S.len;obtain⟨_,l6,aO⟩:=R.fQb;obtain⟨_,l7,aP⟩:=S.fQb;have W:=fQ (al2 w (.cells #[O,.int .i64 e.imports,vb,P,.bool e.mem] 26) (.cells #[.slice l r.sig.inn.length cp,.slice m r.sig.out.length o,.int .i64 r.places,.slice T r.params.length U,.slice V r.code.length cc] 43));have g:=fQ ((Blk.new w 26 #[O,.int .i64 e.imports,vb,P,.bool e.mem]).alloc (.cells #[.slice l r.sig.inn.length cp,.slice m r.sig.out.length o,.int .i64 r.places,.slice T r.params.length U,.slice V r.code.length cc] 43));have f:=fQ (Blk.newAt (w.alloc (.cells #[O,.int .i64 e.imports,vb,P,.bool e.mem] 26)) (N:=w.heap.size+1) 43 #[.slice l r.sig.inn.length cp,.slice m r.sig.out.length o,.int .i64 r.places,.slice T r.params.length U,.slice V r.code.length cc] (by simp));clear h1 h2 h3 h4 h5 R S;go_in;go_wp2_with fail;refine(aQn _ e _ (HE.out.below W.out (Ax _))).mono ?_;rintro z w1 ⟨rfl,X⟩;have a:=fQ (W.out.trans (X.mono W.out.size));have g:=fQ (g.out.below X g.out.lt);have f:=fQ (f.out.below X f.out.lt);clear X;obtain⟨A,B,C,D,E⟩:=gQ f.out;obtain⟨F,G,H,I,J⟩:=gQ g.out;have y0:=g.out.lt;have y1:=f.out.lt
 cases Y:envOk e with
 | false=>
  have Q:=fQ Y;clear Y;go_wp2;go_ret;exact ChkPost.no (fun d=>by have:=d.env;rw[Q.out]at this;cases this) a.out
 | true=>
  have Q0:=fQ Y;clear Y;by_cases K:r.code.length=0
  ·have g2:decide ((r.code.length:Int)<1)=true:=decide_eq_true (by omega);have aC:decide (r.code.length<1)=true:=decide_eq_true (by omega);have aD:r.code = []:=List.eq_nil_of_length_eq_zero K;have Q:=fQ K;clear K;go_wp2;go_ret;exact ChkPost.no (fun d=>by have:=d.n1;rw[Q.out]at this;omega) a.out
  have g2:decide ((r.code.length:Int)<1)=false:=decide_eq_false (by omega);have aC:decide (r.code.length<1)=false:=decide_eq_false (by omega);have aD:¬r.code = []:=fun e=>K (by rw[e];rfl);have an:1<=r.code.length:=(by omega);by_cases q3:4096<r.code.length
  ·have g3:decide (4096<(r.code.length:Int))=true:=(by simp;omega);have aE:decide (4096<r.code.length)=true:=(by simp;omega);go_wp2;go_ret;exact ChkPost.no (fun d=>by have:=d.n2;omega) a.out
  have g3:decide (4096<(r.code.length:Int))=false:=(by simp;omega);have aE:decide (4096<r.code.length)=false:=(by simp;omega);have Z:r.code.length<=4096:=(by omega);by_cases q4:r.places<0
  ·have g4:decide (r.places<0)=true:=(by simpa using q4);go_wp2;go_ret;exact ChkPost.no (fun d=>by have:=d.p1;omega) a.out
  have g4:decide (r.places<0)=false:=(by simpa using q4);by_cases q5:4096<r.places
  ·have g5:decide (4096<r.places)=true:=(by simpa using q5);go_wp2;go_ret;exact ChkPost.no (fun d=>by have:=d.p2;omega) a.out
  have g5:decide (4096<r.places)=false:=(by simpa using q5);by_cases qi:8<r.sig.inn.length
  ·have gi:decide (8<(r.sig.inn.length:Int))=true:=(by simp;omega);have aF:decide (8<r.sig.inn.length)=true:=(by simp;omega);go_wp2;go_ret;exact ChkPost.no (fun d=>by have:=(aZp d.sig).1;omega) a.out
  have gi:decide (8<(r.sig.inn.length:Int))=false:=(by simp;omega);have aF:decide (8<r.sig.inn.length)=false:=(by simp;omega);by_cases qo:8<r.sig.out.length
  ·have ao:decide (8<(r.sig.out.length:Int))=true:=(by simp;omega);have aG:decide (8<r.sig.out.length)=true:=(by simp;omega);go_wp2;go_ret;exact ChkPost.no (fun d=>by have:=(aZp d.sig).2;omega) a.out
  have ao:decide (8<(r.sig.out.length:Int))=false:=(by simp;omega);have aG:decide (8<r.sig.out.length)=false:=(by simp;omega);by_cases q6:r.params.length=r.sig.inn.length
  ·have g6:((r.params.length:Int) != (r.sig.inn.length:Int))=false:=(by simp;omega);have aH:(r.params.length != r.sig.inn.length)=false:=(by simp;omega);have Q6:=fQ q6;clear q6;go_wp2_with fail;refine(aZm true r.places _ r.params _ (H6.out.ir.below a.out (Ax _)) (by omega)).mono ?_;rintro z w3 ⟨rfl,m3,rfl⟩;have a:=fQ (fK a.out m3);have g:=fQ (g.out.drewN m3);have f:=fQ (f.out.drewN m3);generalize w1.drewN m3=w1 at *;clear A B C D E F G H I J y0 y1;obtain⟨A,B,C,D,E⟩:=gQ f.out;obtain⟨F,G,H,I,J⟩:=gQ g.out;have y0:=g.out.lt;have y1:=f.out.lt
   cases L:kJ r.places r.params true with
   | false=>
    have Q:=fQ L;clear L;go_wp2;go_ret
    exact ChkPost.no (fun d=>by
     have h:=Q.out;unfold kJ at h;rw[d.pin,decide_eq_true d.pun]at h
     cases h) a.out
   | true=>
    have Q7:=fQ (show within r.places r.params=true/\r.params.Nodup by
     unfold kJ at L
     simpa using L)
    clear L;have M:=fQ (a.out.alloc a.out.size (.cells #[.slice l r.sig.inn.length cp,.slice m r.sig.out.length o] 40));have aq:=fQ (g.out.alloc (.cells #[.slice l r.sig.inn.length cp,.slice m r.sig.out.length o] 40));have ar:=fQ (f.out.alloc (.cells #[.slice l r.sig.inn.length cp,.slice m r.sig.out.length o] 40));go_wp2_with fail;refine(aQn _ (bJj r.sig) _ (dQl (Blk.new w1 40 #[.slice l r.sig.inn.length cp,.slice m r.sig.out.length o]) (H4.out.below M.out (Ax _)) (H5.out.below M.out (Ax _)))).mono ?_;rintro z w2 ⟨rfl,aj⟩;rw[cZl];have a:=fQ (M.out.trans (aj.mono M.out.size));have g:=fQ (aq.out.below aj aq.out.lt);have f:=fQ (ar.out.below aj ar.out.lt);clear aj;clear A B C D E F G H I J y0 y1
    cases q1:sigOk r.sig with
    | false=>
     have Q:=fQ q1;clear q1;go_wp2;go_ret;exact ChkPost.no (fun d=>by have:=d.sig;rw[Q.out]at this;cases this) a.out
    | true=>
     have Q1:=fQ q1;clear q1;obtain⟨n,hn⟩:=fX r.code.length;have j:=fQ hn;have aI:=fQ (show 0<=r.places/\r.places<=4096 by omega);have hK:=fQ (show 0<n/\n<=4096 by omega);rw[hn]at f HR ⊢;rw[hn]at an Z;clear hn g2 aC aD g3 aE K q3 q4 q5 g4 g5 qi qo gi aF ao aG g6 aH l6 aO l7 aP W aq ar M;go_wp2;go_loopw [6] (fun i wr=>∃ k:Nat,k<=n/\i = .int .i64 k/\Hid (∀ c∈r.code.take k,codeOk e r c=true)/\Hid (AY w.heap.size w wr)/\Hid (Blk wr w.heap.size 26 #[O,.int .i64 e.imports,vb,P,.bool e.mem])/\Hid (Blk wr (w.heap.size+1) 43 #[.slice l r.sig.inn.length cp,.slice m r.sig.out.length o,.int .i64 r.places,.slice T r.params.length U,.slice V n cc])) (fun i _=>n - (intOf i).toNat)
     case atStart=>exact⟨0,by omega,rfl,fQ (by simp),a,g,f⟩
     case round=>
      clear a g f;obtain⟨k,hk,rfl,IC,a,g,f⟩:=hrel;obtain⟨A,B,C,D,E⟩:=gQ f.out;obtain⟨F,G,H,I,J⟩:=gQ g.out;have y0:=g.out.lt;have y1:=f.out.lt;by_cases aQ:k<n
      ·have t1:decide ((k:Int)<n)=true:=(by simp;omega);have t2:(k:Int)<n:=(by omega);obtain⟨c,hc⟩:∃ c,r.code[k]? = some c:=⟨_,Aj (by rw[j.out];exact aQ)⟩;have HC:=fQ hc;clear hc;go_wp2_with fail;refine(dQx e r c k _ _ _ (HE.out.below a.out (Ax _)) (HR.out.below a.out (Ax _)) HC.out Q0.out Q1.out (by rw[j.out];exact Z)).mono ?_;rintro z w5 ⟨rfl,ak⟩;have aJ:=fQ (a.out.trans (ak.mono a.out.size));have aR:=fQ (g.out.below ak g.out.lt);have aS:=fQ (f.out.below ak f.out.lt);clear ak A B C D E F G H I J y0 y1
       cases q9:codeOk e r c with
       | false=>
        have Q:=fQ q9;clear q9;go_wp2;go_ret;exact ChkPost.no (fun d=>by have:=d.code c (Aq HC.out);rw[Q.out]at this;cases this) aJ.out
       | true=>
        have HA:=fQ (show ∀ c∈r.code.take (k+1),codeOk e r c=true from fun c' aK=>by
         obtain⟨aT,e'⟩:=List.getElem?_eq_some_iff.1 HC.out;rw[Ay aT,e',List.mem_append]at aK;rcases aK with h | h
         ·exact IC.out c' h
         ·simp at h;rw[h];exact q9)
        clear q9 IC;go_wp2;exact⟨⟨k+1,by omega,by simp,HA,aJ,aR,aS⟩,by simp[intOf];omega⟩
      ·have t1:decide ((k:Int)<n)=false:=by simp;omega
       have Q9:=fQ (show ∀ c∈r.code,codeOk e r c=true by
        have:=IC.out
        rwa[Aw (by rw[j.out];omega)]at this)
       have aU:(0:Int)<(n:Int):=(by omega);have aV:0<n:=(by omega);obtain⟨s,au⟩:∃ s,r.code[0]? = some s:=⟨_,Aj (by rw[j.out];omega)⟩;obtain⟨c1,av⟩:∃ c1,r.code[r.code.length - 1]? = some c1:=⟨_,Aj (by rw[j.out];omega)⟩;have al:=H7.out.below a.out (Ax _) (fun _ _ h=>h.below a.out (Ax _));rw[j.out]at al;obtain⟨gb,go,p,q,t,eA,a7,m0,_⟩:=al.code au;obtain⟨a8,ao,p',q',t',aw,aW,m1,_⟩:=al.code av;subst eA;injection aw with aw;injection aw with e1 e2;subst e1;subst e2;rw[j.out]at m1;obtain⟨u,ax⟩:∃ u,n=u+1:=⟨n - 1,by omega⟩;have m1:=m1;rw[ax]at m1;simp only[Nat.add_sub_cancel,Nat.zero_mul,AZ]at m0 m1;have ba:(u:Int)<(n:Int):=(by omega);have aX:u<n:=(by omega);have bb:IntKind.i64.wrap ((n:Int) - 1)=(u:Int):=(by rw[show(n:Int) - 1=(u:Int) by omega];exact AJ _ (by omega));have C0:=fQ au;have C1:=fQ av;have HK:=fQ ax;clear au av al ax;have ay:=fQ (fun(h:¬(s.op=258/\(273<=c1.op/\c1.op<=277)/\c1.op≠274))=>(show ¬CheckP e r from fun d=>h ⟨d.first s C0.out,by have:=d.last c1 C1.out;omega,by have:=d.last c1 C1.out;omega⟩));by_cases v:s.op=258
       ·have g10:(s.op == 258)=true:=(by simpa using v);have az:=fQ v;clear v;go_wp2_with fail;refine(dVq c1.op _).mono ?_;rintro z w6 ⟨rfl,rfl⟩;by_cases x:273<=c1.op/\c1.op<=277
        ·rw[decide_eq_true x];have aA:=fQ x;clear x;by_cases y:c1.op=274
         ·have g12:(c1.op != 274)=false:=(by simp[y]);have aB:=fQ y;clear y;go_wp2;go_ret;exact ChkPost.no (ay.out (fun h=>h.2.2 aB.out)) a.out
         ·have g12:(c1.op != 274)=true:=(by simp[y]);have aB:=fQ y;clear y;have af:=fQ (show c1.op=273\/c1.op=275\/c1.op=276\/c1.op=277 by have:=aA.out;have:=aB.out;omega);have aY:=fQ (bJk (by rw[j.out];exact an) (by rw[j.out];exact Z) Q9.out (fun c hc=>by rw[C1.out]at hc;injection hc with hc;rw[<-hc];exact(xQ _).2 af.out));go_wp2_with fail;refine(cXr r _ _ (HR.out.below a.out (Ax _)) aY.out).mono ?_;rintro z w7 ⟨b,rfl,aL,aM⟩;have aZ:=fQ (a.out.trans (aM.mono a.out.size));have aN:=fQ aL;clear aM aL;go_wp2;go_ret;refine⟨!b,rfl,⟨fun hb=>?_,fun d=>?_⟩,aZ.out⟩
          ·have a1:¬b=true:=(by simpa using hb);have a6:Ranked r:=Classical.byContradiction fun h=>a1 (aN.out.2 h);exact⟨Q0.out,Q1.out,by rw[j.out];exact an,by rw[j.out];exact Z,aI.out.1,aI.out.2,Q6.out,Q7.out.1,Q7.out.2,Q9.out,(fun c hc=>by rw[C0.out]at hc;injection hc with hc;rw[<-hc];exact az.out),(fun c hc=>by rw[C1.out]at hc;injection hc with hc;rw[<-hc];exact af.out),a6⟩
          ·cases b with
           | false=>rfl
           | true=>exact absurd d.rank (aN.out.1 rfl)
        ·rw[decide_eq_false x];have aA:=fQ x;clear x;go_wp2;go_ret;exact ChkPost.no (ay.out (fun h=>aA.out h.2.1)) a.out
       ·have g10:(s.op == 258)=false:=(by simpa using v);have az:=fQ v;clear v;go_wp2;go_ret;exact ChkPost.no (ay.out (fun h=>az.out h.1)) a.out
  ·have g6:((r.params.length:Int) != (r.sig.inn.length:Int))=true:=(by simp;omega);have aH:(r.params.length != r.sig.inn.length)=true:=(by simp;omega);have Q6:=fQ q6;clear q6;go_wp2;go_ret;exact ChkPost.no (fun d=>Q6.out d.par) a.out
structure RS (r:RowD) (P:Nat) (Req:Rel2) (T:Nat->Nat->Bool):Prop where
 snd:∀ a b:Nat,a<P->b<P->T a b=true->Clashes r a b
 req:∀ x y:Nat,x<P->y<P->Req x y->x≠y->T x y=true/\T y x=true
def aVl(T:Nat->Nat->Bool)(a b:Nat):Nat->Nat->Bool:=if a=b then T else upd (upd T a (fun q=>if q=b then true else T a q)) b (fun q=>if q=a then true else T b q)
theorem bKe(T:Nat->Nat->Bool)(a:Nat):aVl T a a=T:=by simp[aVl]
theorem cZj{T:Nat->Nat->Bool}{a:Nat}(h:a≠b):aVl T a b=upd (upd T a (fun q=>if q=b then true else T a q)) b (fun q=>if q=a then true else T b q):=by simp[aVl,h]
theorem aJd{T:Nat->Nat->Bool}{a x y:Nat}:aVl T a b x y=true↔T x y=true\/(a≠b/\((x=a/\y=b)\/(x=b/\y=a))):=by
 by_cases h:a=b
 ·subst h;rw[bKe];simp
 ·rw[cZj h];unfold upd;by_cases d:x=b
  ·subst d;rw[if_pos rfl];by_cases c:y=a
   ·subst c;simp[h]
   ·rw[if_neg c];simp[c];intro _ h2;exact absurd h2.symm h
  ·rw[if_neg d];by_cases ha:x=a
   ·subst ha;rw[if_pos rfl];by_cases c:y=b
    ·subst c;simp[h]
    ·rw[if_neg c];simp[c,d]
   ·rw[if_neg ha];simp[ha,d]
theorem RS.put{r:RowD}{a:Nat}{Req Req':Rel2}{T:Nat->Nat->Bool}(h:RS r P Req T)(hs:Sall r a b)(hq:∀ x y,Req' x y->Req x y\/(x=(a:Int)/\y=(b:Int))):RS r P Req' (aVl T a b):=by
 refine⟨fun x y c d e=>?_,fun x y c d hr f=>?_⟩
 ·rcases aJd.1 e with e | ⟨hn,⟨rfl,rfl⟩ | ⟨rfl,rfl⟩⟩
  ·exact h.snd x y c d e
  ·exact⟨by omega,.inl hs⟩
  ·exact⟨by omega,.inr hs⟩
 ·rcases hq x y hr with hr | ⟨g,e2⟩
  ·have:=h.req x y c d hr f;exact⟨aJd.2 (.inl this.1),aJd.2 (.inl this.2)⟩
  ·have g:x=a:=(by omega);have e2:y=b:=(by omega);subst g;subst e2;exact⟨aJd.2 (.inr ⟨f,.inl ⟨rfl,rfl⟩⟩),aJd.2 (.inr ⟨f,.inr ⟨rfl,rfl⟩⟩)⟩
theorem RS.fQd{r:RowD}{Req Req':Rel2}{T:Nat->Nat->Bool}(h:RS r P Req T)(hq:∀ x y,Req' x y->Req x y):RS r P Req' T:=⟨h.snd,fun x y a b hr=>h.req x y a b (hq _ _ hr)⟩
theorem RS.start(r:RowD)(P:Nat){Req:Rel2}(hn:∀ x y,¬Req x y):RS r P Req (fun _ _=>false):=⟨fun a b _ _ h=>(by cases h),fun x y _ _ h=>absurd h (hn _ _)⟩
theorem RS.done{e:EnvD}{r:RowD}{Req:Rel2}{T:Nat->Nat->Bool}(h:RS r P Req T)(hc:CheckP e r)(hq:∀ x y,Sall r x y->Req x y){a:Nat}(ha:a<P)(c:b<P):T a b=true↔Clashes r a b:=by
 refine⟨h.snd a b ha c,fun hcl=>?_⟩;obtain⟨aa,hs | hs⟩:=hcl
 ·exact(h.req a b ha c (hq _ _ hs) (by omega)).1
 ·exact(h.req b a c ha (hq _ _ hs) (by omega)).2
def aJe(r:RowD)(k:Nat)(c:CodeD)(j:Nat)(o:Int)(t:List Int)(n:Nat):Rel2:=fun x y=>aZf r k c j x y\/(x=o/\y∈t.take n/\(c.op=272->∀ a,c.args[0]? = some a->y≠a))
theorem cJn{r:RowD}{c:CodeD}(x y:Int)(h:aJe r k c j o t 0 x y):aZf r k c j x y:=by
 rcases h with h | ⟨_,h2,_⟩
 ·exact h
 ·simp at h2
theorem dQc{r:RowD}{c:CodeD}(e:t[n]? = some p)(hp:¬(c.op=272->∀ a,c.args[0]? = some a->p≠a))(x y:Int)(h:aJe r k c j o t (n+1) x y):aJe r k c j o t n x y:=by
 rcases h with h | ⟨h1,h2,d⟩
 ·exact .inl h
 ·rcases(oQ e).1 h2 with b | b
  ·exact .inr ⟨h1,b,d⟩
  ·subst b;exact absurd d hp
theorem bWt{r:RowD}{c:CodeD}(b:t[n]? = some p)(x y:Int)(h:aJe r k c j o t (n+1) x y):aJe r k c j o t n x y\/(x=o/\y=p):=by
 rcases h with h | ⟨h1,h2,d⟩
 ·exact .inl (.inl h)
 ·rcases(oQ b).1 h2 with a | a
  ·exact .inl (.inr ⟨h1,a,d⟩)
  ·exact .inr ⟨h1,a⟩
theorem dQd{r:RowD}{c:CodeD}(hn:t.length<=n)(a:∀ x,x∈t↔LiveB r k x)(x y:Int)(h:aKi r k c j o 0 x y):aJe r k c j o t n x y:=by
 rcases h with h | ⟨h1,⟨h2,b⟩ | h2⟩
 ·exact .inl h
 ·exact .inr ⟨h1,(zJ hn).2 ((a y).2 h2),b⟩
 ·simp at h2
def bXb(r:RowD)(k:Nat)(a:Int)(u:List Int)(n:Nat):Rel2:=fun x y=>aZg r k x y\/(x=a/\(y∈r.params\/y∈u.take n))
theorem cJo{r:RowD}{a:Int}(hj:r.params.length<=j)(x y:Int)(h:bXb r k a u 0 x y):aKj r k a j x y:=by
 rcases h with h | ⟨h1,h2 | h2⟩
 ·exact .inl h
 ·exact .inr ⟨h1,(zJ hj).2 h2⟩
 ·simp at h2
theorem dVe{r:RowD}{a:Int}(c:u[n]? = some p)(x y:Int)(h:bXb r k a u (n+1) x y):bXb r k a u n x y\/(x=a/\y=p):=by
 rcases h with h | ⟨h1,h2 | h2⟩
 ·exact .inl (.inl h)
 ·exact .inl (.inr ⟨h1,.inl h2⟩)
 ·rcases(oQ c).1 h2 with b | b
  ·exact .inl (.inr ⟨h1,.inr b⟩)
  ·exact .inr ⟨h1,b⟩
theorem dQe{r:RowD}{a:Int}(c:r.params[k]? = some a)(hn:u.length<=n)(d:∀ x,x∈u↔Live r 0 x)(x y:Int)(h:aZg r (k+1) x y):bXb r k a u n x y:=by
 rcases h with h | ⟨h1,h2⟩
 ·exact .inl (.inl h)
 ·rcases(oQ c).1 h1 with b | b
  ·exact .inl (.inr ⟨b,h2⟩)
  ·rcases h2 with h2 | h2
   ·exact .inr ⟨b,.inl h2⟩
   ·exact .inr ⟨b,.inr ((zJ hn).2 ((d y).2 h2))⟩
def yV(f g:Nat->Bool)(k:Nat):Bool:=(List.range k).any fun p=>f p != g p
theorem cJp(f g:Nat->Bool)(k:Nat):yV f g (k+1)=(yV f g k || (f k != g k)):=by
 unfold yV;rw[List.range_succ,AK];simp
theorem dVf{f g:Nat->Bool}(h:yV f g k=false):∀ p,p<k->f p=g p:=by
 intro p hp;unfold yV at h;rw[List.any_eq_false]at h;have:=h p (List.mem_range.2 hp)
 simpa using this
theorem dQf{f g:Nat->Bool}(h:yV f g k=true):∃ p,p<k/\f p≠g p:=by
 unfold yV at h;rw[List.any_eq_true]at h;obtain⟨p,hp,h2⟩:=h;exact⟨p,List.mem_range.1 hp,by simpa using h2⟩
structure TSw (r:RowD) (n P M k:Nat) (b:Bool) (T:Nat->Nat->Bool):Prop where
 i:TInv r P T
 le:cnt2 n P T<=M
 lt:b=true->cnt2 n P T<M
 st:b=false->∀ j c p,k<=j->r.code[j]? = some c->p<P->Fv c j T p=true->T j p=true
theorem TSw.step{r:RowD}{n P M k:Nat}{b:Bool}{T:Nat->Nat->Bool}(h:TSw r n P M (k+1) b T)(hf:FlowOk r)(hn:r.code.length=n){c:CodeD}(hc:r.code[k]? = some c):TSw r n P M k (b || yV (Fv c k T) (T k) P) (upd T k (Fv c k T)):=by
 have l:k<n:=(by rw[<-hn];exact(List.getElem?_eq_some_iff.1 hc).1);have f:=fun p hp=>h.i.pre k c p hc hp;have hle:cnt2 n P (upd T k (Fv c k T))<=cnt2 n P T:=eXc f;refine⟨h.i.step hf hc,Nat.le_trans hle h.le,fun a=>?_,fun a=>?_⟩
 ·rcases Bool.or_eq_true_iff.1 a with a | a
  ·exact Nat.lt_of_le_of_lt hle (h.lt a)
  ·obtain⟨p,hp,hd⟩:=dQf a;exact Nat.lt_of_lt_of_le (eXd f l hp hd) h.le
 ·have m:b=false:=(by cases b <;> simp_all);have g:=dVf (show yV (Fv c k T) (T k) P=false by cases hd:yV (Fv c k T) (T k) P <;> simp_all)
  have same:∀ j p,p<P->upd T k (Fv c k T) j p=T j p:=by
   intro j p hp;by_cases e:j=k
   ·subst e;rw[tZ];exact g p hp
   ·rw[sZ e]
  intro j o p hj d hp hF;rw[dWb hf d (T':=T) (fun j _=>same j p hp)]at hF;rw[same j p hp];by_cases e:j=k
  ·subst e;rw[hc]at d;injection d with d;subst d;rw[<-g p hp];exact hF
  ·exact h.st m j o p (by omega) d hp hF
theorem bXw:(fZ.info? 24).map (fun i=>(i.zero,i.size,i.bytes))=some (some (.slice none 0 0),1,24):=by kernel_rfl
theorem aXw(A:Option Addr)(n c:Nat):∀ u ∈ [Value.slice A n c],u.oneCell'=true:=by
 intro u a;obtain rfl:=List.mem_singleton.1 a;rfl
section
variable {w w':AV} {base n P:Nat} {v:AW} {T:Nat->Nat->Bool} {gs:List Nat}
theorem TM.other{gl:Nat}{f:Nat->Bool}(h:TM w base v n P T gs)(hg:RB 4 w gl P f)(hn:∀ x∈gs,x≠gl)(i:Nat)(u:AW):TM (w.setCell ⟨gl,i,none⟩ u) base v n P T gs:=
 ⟨gY h.own (own_ne h.own hg (by decide)),h.len,h.nd,fun j x a=>⟨(h.rows j x a).1,rY (h.rows j x a).2 (hn x (Aq a))⟩⟩
theorem TM.at2{a c:Nat}(h:TM w base (.slice (some ⟨a,0,none⟩) n c) n P T gs)(hn:0<n):base<=a/\a<w.heap.size/\(∀ i,w.frozen? ⟨a,i,none⟩=false)/\(∀ i g,gs[i]? = some g->w.cell? ⟨a,i,none⟩=some (.slice (some ⟨g,0,none⟩) P P))/\(∀ g∈gs,g≠a):=by
 obtain⟨aa,c',e,h1,h2,d,f,j⟩:=h.at_ hn;injection e with b e2 e3;injection b with b;injection b with b;subst b;exact⟨h1,h2,d,f,j⟩
theorem TM.lt_(h:TM w base v n P T gs):∀ x∈gs,x<w.heap.size:=fun x a=>by
 obtain⟨i,hi⟩:=List.mem_iff_getElem?.1 a;exact Blk.lt (h.rows i x hi).2
end
structure TaM (w:AV) (n P:Nat) (rv:Array AW) (v:AW) (T:Nat->Nat->Bool) (gs:List Nat) (wi:AV):Prop where
 t:TM wi w.heap.size v n P T gs
 r:Blk wi w.heap.size 43 rv
 b:AY w.heap.size w wi
theorem TaM.keep{rv:Array AW}{T:Nat->Nat->Bool}{wi wj:AV}(h:TaM w n P rv v T gs wi)(a:AY wi.heap.size wi wj):TaM w n P rv v T gs wj:=
 ⟨h.t.below a,h.r.below a h.r.lt,h.b.trans (a.mono h.b.size)⟩
structure TaW (w:AV) (n P:Nat) (rv:Array AW) (v:AW) (T:Nat->Nat->Bool) (gs:List Nat) (gl:Nat) (f:Nat->Bool) (wi:AV):Prop where
 m:TaM w n P rv v T gs wi
 l:RB 4 wi gl P f
 lo:w.heap.size<gl
 ne:∀ x∈gs,x≠gl
section
variable {w:AV} {n P:Nat} {rv:Array AW} {v:AW} {T:Nat->Nat->Bool} {gs:List Nat} {gl:Nat} {f:Nat->Bool} {wi wj:AV}
theorem TaW.start(h:TaM w n P rv v T gs wi)(a:AY wi.heap.size wi wj)(b:RB 4 wj gl P f)(hg:wi.heap.size<=gl):TaW w n P rv v T gs gl f wj:=
 ⟨h.keep a,b,by have:=h.r.lt;omega,fun x c=>by have:=h.t.lt_ x c;omega⟩
theorem TaW.set(h:TaW w n P rv v T gs gl f wi)(p:Nat)(b:Bool):TaW w n P rv v T gs gl (fun q=>if q=p then b else f q) (wi.setCell ⟨gl,p,none⟩ (.bool b)):=
 ⟨⟨h.m.t.other h.l h.ne p _,rY h.m.r (by have:=h.lo;omega),h.m.b.setCell (p:=⟨gl,p,none⟩) (by have:=h.lo;simp;omega) _⟩,h.l.set p b,h.lo,h.ne⟩
theorem TaW.congr{f':Nat->Bool}(h:TaW w n P rv v T gs gl f wi)(he:∀ q,q<P->f q=f' q):TaW w n P rv v T gs gl f' wi:=⟨h.m,h.l.congr he,h.lo,h.ne⟩
theorem TaW.drewN(h:TaW w n P rv v T gs gl f wi)(k:Nat):TaW w n P rv v T gs gl f (wi.drewN k):=⟨⟨h.m.t.drewN k,h.m.r.drewN k,fK h.m.b k⟩,h.l,h.lo,h.ne⟩
theorem TaW.done{a c:Nat}(h:TaW w n P rv (.slice (some ⟨a,0,none⟩) n c) T gs gl f wi)(hn:0<n):TaM w n P rv (.slice (some ⟨a,0,none⟩) n c) (upd T i f) (gs.set i gl) (wi.setCell ⟨a,i,none⟩ (.slice (some ⟨gl,0,none⟩) P P)):=by
 have h2:=h.m.t.at2 hn;obtain⟨cur,d⟩:=sW h.m.t.own (g:=a) rfl;exact⟨h.m.t.put h.l (Nat.le_of_lt h.lo) h.ne,rY h.m.r (blk_ne h.m.r d (by decide)),h.m.b.setCell (p:=⟨a,i,none⟩) h2.1 _⟩
end
def eJl(r:RowD)(n P:Nat)(w:AV)(a:Ending)(w':AV):Prop:=∃ v gs T,a = .returned v/\TM w' w.heap.size v n P T gs/\(∀ i p,i<n->p<P->(T i p=true↔Live r i p))/\AY w.heap.size w w'
theorem bKf(e:EnvD)(r:RowD)(vr:AW)(n P:Nat)(w:AV)(hr:RowV w vr r)(hc:CheckP e r)(hn:r.code.length=n)(hP:r.places=P):Calls fZ 114 #[vr] w (eJl r n P w):=by
 have aI:P<=4096:=(by have:=hc.p2;omega);have aV:1<=n:=(by have:=hc.n1;omega);have aW:n<=4096:=(by have:=hc.n2;omega);obtain⟨s,A,vs,vd,rfl,h4,h5,h6,h7⟩:=hr;obtain⟨O,cc,rfl,_⟩:=h7.len;have H7:=fQ h7;have av:=fQ hc;have HF:=fQ hc.fQl;have HR:=fQ (show RowV w (.agg #[s,A,.int .i64 (P:Int),vs,.slice O n cc]) r from⟨s,A,vs,_,by rw[hP,hn],h4,h5,h6,h7⟩);rw[hn,hP];have U:=fQ hn;have HP:=fQ hP;have K0:=fQ (Blk.new w 43 #[s,A,.int .i64 (P:Int),vs,.slice O n cc]);have mk:=vZ (P:=fZ) 24 4 (.bool false) 1 underlying24 aQt rfl P (by omega) (by omega);clear h4 h5 h6 h7 hc hn hP;go_in;go_wp2;go_loopw [3,4] (fun v i wi=>∃ (k:Nat) (gs:List Nat),k<=n/\i = .int .i64 k/\Hid (TM wi w.heap.size v k P (fun _ _=>false) gs)/\Hid (Blk wi w.heap.size 43 #[s,A,.int .i64 (P:Int),vs,.slice O n cc])/\Hid (AY w.heap.size w wi)) (fun _ i _=>n - (intOf i).toNat)
 case atStart=>exact⟨0,[],by omega,rfl,fQ (TM.nil _ _ _ _),K0,fQ ((Ak _ _).alloc (Ax _) _)⟩
 case round=>
  clear K0;obtain⟨k,gs,hk,rfl,IT,H,V⟩:=hrel;obtain⟨Av,I,hv,_⟩:=fW IT.out.own;subst hv;obtain⟨B,C,D,E,F⟩:=gQ H.out;have y1:=H.out.lt;have aj:=V.out.size;by_cases aX:k<n
  ·have t1:decide ((k:Int)<n)=true:=(by simp;omega);have t2:(k:Int)<n:=(by omega);have ah:=fQ (iJ (iJ IT.out.own (.cells (Az P (.bool false)) 4)) (.cells #[.slice (some ⟨wr.heap.size,0,none⟩) P P] 24));go_wp2_with (at_builtin;refine jY _ rfl (.tmp 18) (.tmp 22) 139 rfl w.heap.size 24 (.slice none 0 0) 1 24 underlying139 bXw rfl (by omega) (.slice Av k I) k (rowsV gs P) rfl ah.out (some ⟨wr.heap.size+1,0,none⟩) 1 1 [.slice (some ⟨wr.heap.size,0,none⟩) P P] rfl (Blk.fQc (cs:=#[.slice (some ⟨wr.heap.size,0,none⟩) P P]) (Blk.newAt _ _ _ (by simp)) rfl) (aXw _ _ _) (by unfold maxLen;omega) (by omega) (by simp;omega) ?_);rintro v' w' h1 h2 h3 _;have aw:=fQ (((IT.out.alloc (.cells (Az P (.bool false)) 4)).alloc (.cells #[.slice (some ⟨wr.heap.size,0,none⟩) P P] 24)).push (g:=wr.heap.size) (f:=fun _=>false) (Blk.alloc (RB.new (t:=4) wr (n:=P) false rfl) _) aj (fun x o=>by have:=IT.out.lt_ x o;omega) h1 h2)
   have aJ:=fQ (aw.out.congr (T':=fun _ _=>false) (fun i p _ _=>by
    by_cases e:i=k
    ·subst e;rw[tZ]
    ·rw[sZ e]))
   have aK:=fQ (((H.out.alloc (.cells (Az P (.bool false)) 4)).alloc (.cells #[.slice (some ⟨wr.heap.size,0,none⟩) P P] 24)).grown h2 (own_ne ah.out ((H.out.alloc (.cells (Az P (.bool false)) 4)).alloc (.cells #[.slice (some ⟨wr.heap.size,0,none⟩) P P] 24)) (by decide)));have aL:=fQ (iK ((V.out.alloc aj (.cells (Az P (.bool false)) 4)).alloc (by simp;omega) (.cells #[.slice (some ⟨wr.heap.size,0,none⟩) P P] 24)) h2 (by simp;omega) (fun j hj=>(ah.out.lt j hj).1));clear h1 h2 h3 IT H V ah aw;go_wp2;exact⟨⟨k+1,_,by omega,by simp,aJ,aK,aL⟩,by simp[intOf];omega⟩
  ·have t1:decide ((k:Int)<n)=false:=(by simp;omega);have ak:k=n:=(by omega);subst ak;clear mk;obtain⟨Q,cT,hv,_⟩:=mW IT.out.own (by omega);injection hv with aM aY aN;subst aM;subst aN;have ax:=fQ (show TaM w k P #[s,A,.int .i64 (P:Int),vs,.slice O k cc] (.slice (some ⟨Q,0,none⟩) k I) (fun _ _=>false) gs wr from⟨IT.out,H.out,V.out⟩);clear IT H V aj;go_wp2;clear B C D E F y1;go_loopg [5] (cnt2 k P (fun _ _=>false)*2+1) (fun gk v wi=>∃ (b:Bool) (T:Nat->Nat->Bool) (gs:List Nat),v = .bool b/\Hid (TaM w k P #[s,A,.int .i64 (P:Int),vs,.slice O k cc] (.slice (some ⟨Q,0,none⟩) k I) T gs wi)/\Hid (TInv r P T)/\Hid (b=false->∀ j c p,r.code[j]? = some c->p<P->Fv c j T p=true->T j p=true)/\Hid (cnt2 k P T*2+(if b then 1 else 0)=gk))
   case atStart=>exact⟨true,_,gs,rfl,ax,fQ (TInv.start r P),fQ (fun e=>by cases e),fQ rfl⟩
   case round=>
    clear ax;obtain⟨b,T,gs,rfl,IM,II,G,IG⟩:=hrel
    cases b with
    | false=>
     have HD:=fQ (II.out.done av.out HP.out (G.out rfl));rw[U.out]at HD;go_wp2;go_ret;exact⟨_,gs,T,rfl,IM.out.t,HD.out,IM.out.b⟩
    | true=>
     obtain⟨M,hM⟩:=fX (cnt2 k P T);have HK:=fQ (show M*2+1=gk by have:=IG.out;rw[hM]at this;simpa using this)
     have ay:=fQ (show TSw r k P M k false T from⟨II.out,AX hM,(fun e=>by cases e),fun _ j c p h1 h2=>by
      have h3:=(List.getElem?_eq_some_iff.1 h2).1;have h4:=U.out
      omega⟩)
     obtain⟨B,C,D,E,F⟩:=gQ IM.out.r;have y1:=IM.out.r.lt;have z1:IntKind.i64.wrap ((k:Int) - 1)=(k:Int) - 1:=AJ _ (by omega);clear hM II G IG B C D E;go_wp2_with fail;clear F y1;go_loopw [5,6] (fun tv iv wi=>∃ (q:Nat) (x:Int) (b:Bool) (T:Nat->Nat->Bool) (gs:List Nat),q<=k/\Hid (x=(q:Int) - 1)/\iv = .int .i64 x/\tv = .bool b/\Hid (TaM w k P #[s,A,.int .i64 (P:Int),vs,.slice O k cc] (.slice (some ⟨Q,0,none⟩) k I) T gs wi)/\Hid (TSw r k P M q b T)) (fun _ iv _=>(intOf iv+1).toNat)
     case atStart=>exact⟨k,_,false,T,gs,by omega,fQ rfl,rfl,rfl,IM,ay⟩
     case round=>
      clear ay IM;obtain⟨q,x,b,T,gs,hq,HX,rfl,rfl,IM,G⟩:=hrel;rcases AQ q with rfl | al
      ·have o:x = -1:=(by have:=HX.out;omega);subst o;clear HX;go_wp2;go_roundg (cnt2 k P T*2+(if b then 1 else 0))
       case measure=>
        rw[<-HK.out];have h1:=G.out.le;have h2:=G.out.lt
        cases b with
        | true=>have:=h2 rfl;simp;omega
        | false=>simp;omega
       case rel=>exact⟨b,T,gs,rfl,IM,fQ G.out.i,fQ (fun e j c p h1 h2=>G.out.st e j c p (by omega) h1 h2),fQ rfl⟩
      ·as_aux_lemma=>
       obtain⟨d,rfl⟩:∃ d,q=d+1:=⟨q - 1,by omega⟩;have o:x=(d:Int):=(by have:=HX.out;omega);subst o;have t2:decide ((0:Int)<=(d:Int))=true:=(by simp);have an:d<k:=(by omega);have aO:(d:Int)<k:=(by omega);have z2:IntKind.i64.wrap ((d:Int) - 1)=(d:Int) - 1:=AJ _ (by omega);obtain⟨c,hc⟩:∃ c,r.code[d]? = some c:=⟨_,Aj (by rw[U.out];exact an)⟩;have HC:=fQ hc;obtain⟨B,C,D,E,F⟩:=gQ IM.out.r;have y1:=IM.out.r.lt;clear hc HX al;go_wp2_with fail;refine(bXz r _ _ d k P c T _ (HR.out.below IM.out.b (Ax _)) IM.out.t.tb HC.out U.out HP.out aI HF.out).mono ?_;rintro en w1 ⟨gl,rfl,az,aA,hb⟩;have a:=fQ (TaW.start IM.out hb aA az);clear az aA hb IM B C D E F y1;obtain⟨J,go,aZ,a7,a8,rfl,aB,g0,g1,W,X,g4,s0,s1,s2,s3⟩:=H7.out.code HC.out;obtain⟨pA,pc,rfl⟩:=s1.shape;obtain⟨qA,qc,rfl⟩:=s2.shape;have aC:=fQ s1.ir;have aD:=fQ s2.ir;obtain⟨ma,aq⟩:∃ m,c.args.length=m:=⟨_,rfl⟩;obtain⟨R,ar⟩:∃ m,c.outs.length=m:=⟨_,rfl⟩;have aE:=fQ (qY (av.out.code c (Aq HC.out)));obtain⟨_,_,_,_,aP⟩:=s1.len;obtain⟨_,_,_,_,aQ⟩:=s2.len;rw[aq]at aC W aP;rw[ar]at aD X aQ;have aF:=fQ aq;have aG:=fQ ar;have G2:=fQ W;have G3:=fQ X;clear aq ar g0 g1 g4 s0 s1 s2 s3 W X;go_wp2_with fail;go_loopw [8] (fun i wi=>∃ j:Nat,j<=R/\i = .int .i64 j/\Hid (TaW w k P #[s,A,.int .i64 (P:Int),vs,.slice (some ⟨J,go,none⟩) k cc] (.slice (some ⟨Q,0,none⟩) k I) T gs gl (fun q=>bh (nextOf c d) T q && !decide ((q:Int)∈c.outs.take j)) wi)) (fun i _=>R - (intOf i).toNat)
       case atStart=>exact⟨0,by omega,rfl,fQ (a.out.congr fun q _=>by simp)⟩
       case round=>
        clear a;obtain⟨j,hj,rfl,a⟩:=hrel;obtain⟨B,C,D,E,F⟩:=gQ a.out.m.r;have y1:=a.out.m.r.lt;have X:=(a.out.m.b.cell (p:=⟨J,_,none⟩) aB).trans G3.out;have y2:J<wr.heap.size:=(by have:=a.out.m.b.size;omega);by_cases aR:j<R
        ·have K:decide ((j:Int)<R)=true:=(by simp;omega);have t4:(j:Int)<R:=(by omega);obtain⟨x,o⟩:∃ x,c.outs[j]? = some x:=⟨_,Aj (by rw[aG.out];exact aR)⟩;have L:=aE.out.2.1 x (Aq o);rw[HP.out]at L;obtain⟨z,rfl⟩:∃ z:Nat,x=z:=⟨x.toNat,by omega⟩;have aS:(z:Int)<P:=L.2;obtain⟨ab,ao,rfl,hab,hcl⟩:=(aD.out.below a.out.m.b (Ax _)).cell o;have y3:=Blk.lt a.out.l;have z3:=frz a.out.l z;obtain⟨u3,c3⟩:∃ u,wr.cell? ⟨gl,z,none⟩=some u:=⟨_,a.out.l.cell (by omega)⟩
         have Y:=fQ ((a.out.set z false).congr (f':=fun q=>bh (nextOf c d) T q && !decide ((q:Int)∈c.outs.take (j+1))) (fun q _=>by
          have Z:=oQ (y:=(q:Int)) o;by_cases e:q=z
          ·subst e;rw[if_pos rfl,decide_eq_true (Z.2 (.inr rfl))];simp
          ·rw[if_neg e]
           have:((q:Int)∈c.outs.take (j+1))↔((q:Int)∈c.outs.take j):=by
            rw[Z];exact⟨fun h=>h.elim id (fun h=>absurd (by omega) e),.inl⟩
           rw[decide_eq_decide.2 this]))
         clear a o L;go_wp2;exact⟨⟨j+1,by omega,by simp,Y⟩,by simp[intOf];omega⟩
        ·have K:decide ((j:Int)<R)=false:=by simp;omega
         have ag:=fQ (a.out.congr (f':=fun q=>decide ((q:Int)∈c.args.take 0) || (bh (nextOf c d) T q && !decide ((q:Int)∈c.outs))) (fun q _=>by
          rw[Aw (by rw[aG.out];omega)]
          simp))
         clear a;go_wp2_with fail;clear B C D E F y1 X y2 K;go_loopw [9] (fun i wi=>∃ j:Nat,j<=ma/\i = .int .i64 j/\Hid (TaW w k P #[s,A,.int .i64 (P:Int),vs,.slice (some ⟨J,go,none⟩) k cc] (.slice (some ⟨Q,0,none⟩) k I) T gs gl (fun q=>decide ((q:Int)∈c.args.take j) || (bh (nextOf c d) T q && !decide ((q:Int)∈c.outs))) wi)) (fun i _=>ma - (intOf i).toNat)
         case atStart=>exact⟨0,by omega,rfl,ag⟩
         case round=>
          clear ag;obtain⟨j,hj,rfl,a⟩:=hrel;obtain⟨B,C,D,E,F⟩:=gQ a.out.m.r;have y1:=a.out.m.r.lt;have W:=(a.out.m.b.cell (p:=⟨J,_,none⟩) aB).trans G2.out;have y2:J<wr.heap.size:=(by have:=a.out.m.b.size;omega);by_cases aT:j<ma
          ·have K:decide ((j:Int)<ma)=true:=(by simp;omega);have t4:(j:Int)<ma:=(by omega);obtain⟨x,o⟩:∃ x,c.args[j]? = some x:=⟨_,Aj (by rw[aF.out];exact aT)⟩;have L:=aE.out.1 x (Aq o);rw[HP.out]at L;obtain⟨z,rfl⟩:∃ z:Nat,x=z:=⟨x.toNat,by omega⟩;have aS:(z:Int)<P:=L.2;obtain⟨ab,ao,rfl,hab,hcl⟩:=(aC.out.below a.out.m.b (Ax _)).cell o;have y3:=Blk.lt a.out.l;have z3:=frz a.out.l z;obtain⟨u3,c3⟩:∃ u,wr.cell? ⟨gl,z,none⟩=some u:=⟨_,a.out.l.cell (by omega)⟩
           have Y:=fQ ((a.out.set z true).congr (f':=fun q=>decide ((q:Int)∈c.args.take (j+1)) || (bh (nextOf c d) T q && !decide ((q:Int)∈c.outs))) (fun q _=>by
            have Z:=oQ (y:=(q:Int)) o;by_cases e:q=z
            ·subst e;rw[if_pos rfl,decide_eq_true (Z.2 (.inr rfl))];simp
            ·rw[if_neg e]
             have:((q:Int)∈c.args.take (j+1))↔((q:Int)∈c.args.take j):=by
              rw[Z];exact⟨fun h=>h.elim id (fun h=>absurd (by omega) e),.inl⟩
             rw[decide_eq_decide.2 this]))
           clear a o L;go_wp2;exact⟨⟨j+1,by omega,by simp,Y⟩,by simp[intOf];omega⟩
          ·have K:decide ((j:Int)<ma)=false:=by simp;omega
           have ag:=fQ (a.out.congr (f':=Fv c d T) (fun q _=>by
            rw[Aw (by rw[aF.out];omega)]
            rfl))
           clear a;go_wp2_with fail;clear B C D E F y1 W y2 K;go_loopw [5,10] (fun tv i wi=>∃ j:Nat,j<=P/\i = .int .i64 j/\tv = .bool (b || yV (Fv c d T) (T d) j)/\Hid (TaW w k P #[s,A,.int .i64 (P:Int),vs,.slice (some ⟨J,go,none⟩) k cc] (.slice (some ⟨Q,0,none⟩) k I) T gs gl (Fv c d T) wi)) (fun _ i _=>P - (intOf i).toNat)
           case atStart=>exact⟨0,by omega,rfl,by simp[yV],ag⟩
           case round=>
            clear ag;obtain⟨j,hj,rfl,rfl,a⟩:=hrel;obtain⟨B,C,D,E,F⟩:=gQ a.out.m.r;have y1:=a.out.m.r.lt;by_cases aH:j<P
            ·have K:decide ((j:Int)<P)=true:=(by simp;omega);have t4:(j:Int)<P:=(by omega);obtain⟨gk,N⟩:∃ gk,gs[d]? = some gk:=⟨_,Aj (by rw[a.out.m.t.len];exact an)⟩;have h2:=a.out.m.t.at2 (by omega);have a1:=h2.2.2.2.1 d gk N;have a2:=h2.2.1;have a3:=(a.out.m.t.rows d gk N).2.cell aH;have a4:=Blk.lt (a.out.m.t.rows d gk N).2;have a5:=a.out.l.cell aH;have a6:=Blk.lt a.out.l;have ai:=fQ (cJp (Fv c d T) (T d) j);obtain⟨u,hu⟩:=fX (Fv c d T j);obtain⟨t,ht⟩:=fX (T d j);obtain⟨bd,S⟩:=fX ((b || yV (Fv c d T) (T d) j));rw[hu]at a5 ai;rw[ht]at a3 ai;rw[S];have aU:=fQ S;clear N h2 hu ht S;cases u <;> cases t
             all_goals
              go_wp2_with fail;go_quiet (fail);go_wp2;exact⟨⟨j+1,by omega,by simp,by first | (rw[ai.out,<-aU.out];simp;done) | (rw[ai.out];simp),fQ (a.out.drewN _)⟩,by simp[intOf];omega⟩
            ·have K:decide ((j:Int)<P)=false:=(by simp;omega);have au:j=P:=(by omega);subst au;have h2:=a.out.m.t.at2 (by omega);have a2:=h2.2.1;have a3:=h2.2.2.1 d;obtain⟨gk,N⟩:∃ gk,gs[d]? = some gk:=⟨_,Aj (by rw[a.out.m.t.len];exact an)⟩;have a1:=h2.2.2.2.1 d gk N;have Y:=fQ (a.out.done (i:=d) (by omega));have HS:=fQ (G.out.step HF.out U.out HC.out);obtain⟨bd,S⟩:=fX ((b || yV (Fv c d T) (T d) j));rw[S]at HS ⊢;clear a G h2 S N;go_wp2;exact⟨⟨d,_,bd,_,_,by omega,fQ rfl,rfl,rfl,Y,HS⟩,by first | (simp[intOf];done) | (simp[intOf];omega)⟩
theorem aVm{e:EnvD}{r:RowD}{f:Nat->Bool}{Q:Int->Prop}{p:List Int}(h:IsSet p (fun x=>∃ i:Nat,x=i/\i<P/\f i=true))(hf:∀ q:Nat,q<P->(f q=true↔Q q))(hr:∀ x,Q x->0<=x/\x<(P:Int)):IsSet p Q:=
 h.imp fun x=>⟨fun⟨i,e,hi,h⟩=>by subst e;exact(hf i hi).1 h,fun hq=>by
  have:=hr x hq;obtain⟨i,rfl⟩:∃ i:Nat,x=i:=⟨x.toNat,by omega⟩
  exact⟨i,rfl,by omega,(hf i (by omega)).2 hq⟩⟩
def TolS(a:AV)(v:AW)(k:Nat)(Q:Nat->Int->Prop)(wr:AV):Prop:=∃ vs PP,wr.ownsRow a.heap.size 23 1 v k vs/\RowsOf wr a.heap.size vs PP/\PP.length=k/\(∀ (i:Nat) p,PP[i]? = some p->IsSet p (Q i))/\AY a.heap.size a wr
theorem TolS.start(a:AV)(Q:Nat->Int->Prop):TolS a (.slice none 0 0) 0 Q a:=⟨[],[],World.ownsRow_nil _ _ _ _,⟨rfl,fun i u p h=>by simp at h⟩,rfl,fun i p h=>by simp at h,Ak _ _⟩
theorem TolS.told{Q:Nat->Int->Prop}(h:TolS a v k Q wr):Told wr a.heap.size v k Q:=by
 obtain⟨vs,PP,h1,h2,b,c,_⟩:=h;exact⟨vs,PP,h1,h2,b,c⟩
theorem TolS.below{Q:Nat->Int->Prop}(h:TolS a v k Q wr):AY a.heap.size a wr:=by
 obtain⟨vs,PP,h1,h2,h3,h4,b⟩:=h;exact b
theorem TolS.keep{b c:AV}{Q:Nat->Int->Prop}(h:TolS b v k Q wr)(a:AY wr.heap.size wr c):TolS b v k Q c:=by
 obtain⟨vs,PP,h1,h2,e,f,d⟩:=h;exact⟨vs,PP,nK h1 a (Ax _),h2.grown (rQ a) (fun _ _ _=>by simp),e,f,d.trans (a.mono d.size)⟩
theorem TolS.shape{Q:Nat->Int->Prop}(h:TolS a v k Q wr):∃ A c,v = .slice A k c:=by
 obtain⟨vs,PP,h1,_⟩:=h;obtain⟨A,c,e,_⟩:=fW h1;exact⟨A,c,e⟩
theorem TolS.open{Q:Nat->Int->Prop}(h:TolS a v k Q wr):∃ vs PP,wr.ownsRow a.heap.size 23 1 v k vs/\RowsOf wr a.heap.size vs PP/\PP.length=k/\(∀ (i:Nat) p,PP[i]? = some p->IsSet p (Q i))/\AY a.heap.size a wr:=h
theorem TolS.fQw{b:AV}{d u:AW}{Q:Nat->Int->Prop}{p:List Int}{vs:List AW}{PP:List (List Int)}(h1:wr.ownsRow a.heap.size 23 1 v k vs)(h:RowsOf wr a.heap.size vs PP/\PP.length=k/\(∀ (i:Nat) p,PP[i]? = some p->IsSet p (Q i))/\AY a.heap.size a wr)
  (e:wr.ownsRow a.heap.size 3 1 u p.length (i64s p)) (hp:IsSet p (Q k)) (l:b.ownsRow a.heap.size 23 1 d (k+1) (vs ++ [u])) (hg:wr.grownBy b v.ownBlock):TolS a d (k+1) Q b:=by
 obtain⟨h2,m,n,f⟩:=h;have hr:∀ g cs,Blk wr g 3 cs->v.ownBlock≠some g:=fun g cs c=>own_ne h1 c (by decide)
 refine⟨vs ++ [u],PP ++ [p],l,(h2.grown hg hr).push (kV e hg (fun g o=>by
   obtain⟨cur,c⟩:=sW e o
   exact hr g cur c)),by simp[m],fun i q hq=>?_,iK f hg f.size (fun j hj=>(h1.lt j hj).1)⟩
 by_cases hi:i<PP.length
 ·rw[List.getElem?_append_left hi]at hq;exact n i q hq
 ·rw[List.getElem?_append_right (by omega)]at hq
  have r:i - PP.length=0:=by
   have:=(List.getElem?_eq_some_iff.1 hq).1;simp at this;omega
  rw[r]at hq;simp at hq;subst hq;have:i=k:=(by omega);rw[this];exact hp
theorem cJq(e:EnvD)(r:RowD)(E d:AW)(w:AV)(he:EnvV w E e)(hr:RowV w d r):Calls fZ 91 #[E,d] w (bXy e r r.code.length (Live r) w):=by
 have HE:=fQ he;have F:=fQ hr;obtain⟨G,vb,H,rfl,h1,h2,h3⟩:=he;obtain⟨I,J,d,vs,rfl,h4,h5,h6,h7⟩:=hr;clear h1 h2 h3 h4 h5 h6 h7;have g:=fQ (al2 w (.cells #[G,.int .i64 e.imports,vb,H,.bool e.mem] 26) (.cells #[I,J,.int .i64 r.places,d,vs] 43));have K:=fQ (Blk.newAt (w.alloc (.cells #[G,.int .i64 e.imports,vb,H,.bool e.mem] 26)) (N:=w.heap.size+1) 43 #[I,J,.int .i64 r.places,d,vs] (by simp));obtain⟨n,hn⟩:=fX r.code.length;rw[hn];have s:=fQ hn;clear hn;go_in;go_wp2_with fail;refine(aVr e r _ _ _ (HE.out.below g.out (Ax _)) (F.out.below g.out (Ax _))).mono ?_;rintro L w1 ⟨b,rfl,M,t⟩;have j:=fQ (g.out.trans (t.mono g.out.size));have O:=fQ M;have l:=fQ (K.out.below t K.out.lt);clear t M
 cases b with
 | false=>
  go_wp2;go_ret2;exact .inl ⟨(fun h=>by have:=O.out.2 h;cases this),rfl,j.out⟩
 | true=>
  have a:=fQ (O.out.1 rfl);obtain⟨P,Q⟩:∃ P:Nat,r.places=P:=⟨r.places.toNat,by have:=a.out.p1;omega⟩;have ay:P<=4096:=(by have:=a.out.p2;omega);have aE:n<=4096:=(by have:=a.out.n2;have:=s.out;omega);have aF:0<n:=(by have:=a.out.n1;have:=s.out;omega);have R:=fQ Q;obtain⟨r0,r1,r2,r3,r4⟩:=gQ l.out;have y1:=l.out.lt;clear Q;go_wp2_with fail;refine(bKf e r _ n P _ (F.out.below j.out (Ax _)) a.out s.out R.out).mono ?_;rintro L y ⟨vt,gs,T,rfl,z,S,A⟩;have B:=fQ (j.out.trans (A.mono j.out.size));have HT:=fQ z;have HL:=fQ S;have aG:=fQ (l.out.below A l.out.lt);obtain⟨At,ct,rfl⟩:=z.shape;have U:=fQ (TolS.start y (Live r));clear z S A r0 r1 r2 r3 r4 y1;go_wp2;go_loopw [7,8] (fun v i wr=>∃ k:Nat,k<=n/\i = .int .i64 k/\Hid (TolS y v k (Live r) wr)) (fun _ i _=>n - (intOf i).toNat)
  case atStart=>exact⟨0,by omega,rfl,U⟩
  case round=>
   clear U;obtain⟨k,hk,rfl,c⟩:=hrel;obtain⟨Av,cv,hv⟩:=c.out.shape;subst hv;by_cases V:k<n
   ·have t1:decide ((k:Int)<n)=true:=(by simp;omega);have t2:(k:Int)<n:=(by omega);obtain⟨b,o,C,kC,rfl,hb,hc,hs⟩:=(HT.out.below c.out.below).tb.row V;have HS:=fQ hs;clear hs;go_wp2_with fail;refine(aVn _ P _ (T k) _ HS.out ay).mono ?_;rintro L w3 ⟨u,p,rfl,m,az,W,X⟩;have aA:=fQ (show IsSet p (Live r k)from aVm (e:=e) (r:=r) W (fun q hq=>HL.out k q V hq) (fun x hx=>by have:=hx.range a.out;rw[R.out]at this;exact this));have D:=fQ (c.out.keep X);have Y:=fQ (jX m c.out.below.size);obtain⟨q,hq⟩:=fX p.length;obtain⟨f,c1,e1,_⟩:=fW m;subst e1;rw[hq]at m Y az ⊢;have HQ:=fQ hq;have aB:=fQ (iJ Y.out (.cells #[.slice f q c1] 23));have Z:=fQ (D.out.keep ((Ak _ _).alloc (Ax _) (.cells #[.slice f q c1] 23)));have hz:=D.out.below.size;obtain⟨vs,PP,av,aw⟩:=Z.out.open;have ax:=fQ av;have aC:=fQ aw;clear m W X hq av aw Z D;go_wp2_with (at_builtin;refine jY _ rfl (.tmp 21) (.tmp 27) 44 rfl y.heap.size 23 (.slice none 0 0) 1 24 underlying44 zX rfl (by omega) (.slice Av k cv) k vs rfl ax.out (some ⟨w3.heap.size,0,none⟩) 1 1 [.slice f q c1] rfl (Blk.fQc (cs:=#[.slice f q c1]) (Blk.newAt _ _ _ rfl) rfl) (aXw _ _ _) (by unfold maxLen;omega) (by omega) (by simp;omega) ?_);rintro v' w' g1 g2 g3 _;have aD:=fQ (TolS.fQw (u:=.slice f q c1) (p:=p) ax.out aC.out (by rw[HQ.out];exact aB.out) aA.out g1 g2);clear g1 g2 g3;go_wp2;exact⟨⟨k+1,by omega,by simp,aD⟩,by simp[intOf];omega⟩
   ·have t1:decide ((k:Int)<n)=false:=(by simp;omega);have aj:k=n:=(by omega);subst aj;go_wp2;go_ret2;exact .inr ⟨a.out,_,rfl,c.out.told.mono B.out.size,B.out.trans (c.out.below.mono B.out.size)⟩
theorem bQh(e:EnvD)(r:RowD)(M g:AW)(w:AV)(he:EnvV w M e)(hr:RowV w g r):Calls fZ 89 #[M,g] w (bXy e r r.code.length (LiveB r) w):=by
 have HE:=fQ he;have z:=fQ hr;obtain⟨O,vb,Q,rfl,h1,h2,h3⟩:=he;obtain⟨R,S,g,vs,rfl,h4,h5,h6,h7⟩:=hr;clear h1 h2 h3 h4 h5 h6 h7;have m:=fQ (al2 w (.cells #[O,.int .i64 e.imports,vb,Q,.bool e.mem] 26) (.cells #[R,S,.int .i64 r.places,g,vs] 43));have U:=fQ (Blk.newAt (w.alloc (.cells #[O,.int .i64 e.imports,vb,Q,.bool e.mem] 26)) (N:=w.heap.size+1) 43 #[R,S,.int .i64 r.places,g,vs] (by simp));obtain⟨n,hn⟩:=fX r.code.length;rw[hn];have f:=fQ hn;clear hn;go_in;go_wp2_with fail;refine(aVr e r _ _ _ (HE.out.below m.out (Ax _)) (z.out.below m.out (Ax _))).mono ?_;rintro A w1 ⟨b,rfl,V,B⟩;have o:=fQ (m.out.trans (B.mono m.out.size));have W:=fQ V;have s:=fQ (U.out.below B U.out.lt);clear B V
 cases b with
 | false=>
  go_wp2;go_ret2;exact .inl ⟨(fun h=>by have:=W.out.2 h;cases this),rfl,o.out⟩
 | true=>
  have a:=fQ (W.out.1 rfl);obtain⟨P,X⟩:∃ P:Nat,r.places=P:=⟨r.places.toNat,by have:=a.out.p1;omega⟩;have Y:P<=4096:=(by have:=a.out.p2;omega);have aM:n<=4096:=(by have:=a.out.n2;have:=f.out;omega);have aN:0<n:=(by have:=a.out.n1;have:=f.out;omega);have C:=fQ X;obtain⟨D,E,F,G,H⟩:=gQ s.out;have y1:=s.out.lt;clear X;go_wp2_with fail;refine(bKf e r _ n P _ (z.out.below o.out (Ax _)) a.out f.out C.out).mono ?_;rintro A I ⟨vt,gs,T,rfl,J,Z,K⟩;have j:=fQ (o.out.trans (K.mono o.out.size));have HT:=fQ J;have HL:=fQ Z;have t:=fQ (s.out.below K s.out.lt);obtain⟨At,ct,rfl⟩:=J.shape;have ar:=fQ (TolS.start I (LiveB r));clear J Z K D E F G H y1;go_wp2;go_loopw [7,8] (fun v i wr=>∃ k:Nat,k<=n/\i = .int .i64 k/\Hid (TolS I v k (LiveB r) wr)) (fun _ i _=>n - (intOf i).toNat)
  case atStart=>exact⟨0,by omega,rfl,ar⟩
  case round=>
   clear ar;obtain⟨k,hk,rfl,d⟩:=hrel;obtain⟨Av,cv,hv⟩:=d.out.shape;subst hv;by_cases aD:k<n
   ·have t1:decide ((k:Int)<n)=true:=(by simp;omega);have t2:(k:Int)<n:=(by omega);obtain⟨c,hc⟩:∃ c,r.code[k]? = some c:=⟨_,Aj (by rw[f.out];exact aD)⟩;have au:=fQ hc;clear hc;obtain⟨D,E,F,G,H⟩:=gQ (t.out.below d.out.below t.out.lt);have y1:=(t.out.below d.out.below t.out.lt).lt;have aE:=fQ (j.out.trans (d.out.below.mono j.out.size));go_wp2_with fail;refine(bXz r _ _ k n P c T _ (z.out.below aE.out (Ax _)) (HT.out.below d.out.below).tb au.out f.out C.out Y a.out.fQl).mono ?_;rintro A w4 ⟨gl,rfl,aF,av,aw⟩;have ax:=fQ (d.out.keep aw);have aG:=fQ av.src;clear aF av aw d D E F G H y1;go_wp2_with fail;refine(aVn _ P _ (bh (nextOf c k) T) _ aG.out Y).mono ?_;rintro A w3 ⟨u,p,rfl,y,aH,ab,ay⟩;have aI:=fQ (show IsSet p (LiveB r k)from aVm (e:=e) (r:=r) ab (fun q hq=>eXf a.out (by rw[f.out];exact HL.out) au.out hq) (fun x hx=>by have:=hx.range a.out;rw[C.out]at this;exact this));have L:=fQ (ax.out.keep ay);have HO:=fQ (jX y ax.out.below.size);obtain⟨q,hq⟩:=fX p.length;obtain⟨l,c1,e1,_⟩:=fW y;subst e1;rw[hq]at y HO aH ⊢;have HQ:=fQ hq;have aJ:=fQ (iJ HO.out (.cells #[.slice l q c1] 23));have az:=fQ (L.out.keep ((Ak _ _).alloc (Ax _) (.cells #[.slice l q c1] 23)));have hz:=L.out.below.size;obtain⟨vs,PP,aA,aB⟩:=az.out.open;have aC:=fQ aA;have aK:=fQ aB;clear y ab ay hq aA aB az L;go_wp2_with (at_builtin;refine jY _ rfl (.tmp 21) (.tmp 27) 44 rfl I.heap.size 23 (.slice none 0 0) 1 24 underlying44 zX rfl (by omega) (.slice Av k cv) k vs rfl aC.out (some ⟨w3.heap.size,0,none⟩) 1 1 [.slice l q c1] rfl (Blk.fQc (cs:=#[.slice l q c1]) (Blk.newAt _ _ _ rfl) rfl) (aXw _ _ _) (by unfold maxLen;omega) (by omega) (by simp;omega) ?_);rintro v' w' g1 g2 g3 _;have aL:=fQ (TolS.fQw (u:=.slice l q c1) (p:=p) aC.out aK.out (by rw[HQ.out];exact aJ.out) aI.out g1 g2);clear g1 g2 g3;go_wp2;exact⟨⟨k+1,by omega,by simp,aL⟩,by simp[intOf];omega⟩
   ·have t1:decide ((k:Int)<n)=false:=(by simp;omega);have ak:k=n:=(by omega);subst ak;go_wp2;go_ret2;exact .inr ⟨a.out,_,rfl,d.out.told.mono j.out.size,j.out.trans (d.out.below.mono j.out.size)⟩
theorem bWu{size:Nat}{e:TypeId}{xs:List AW}(h:w.ownsRow base e size v n xs)(a:KeptBut S w w')(b:∀ g,v.ownBlock=some g->g ∉ S):w'.ownsRow base e size v n xs:=by
 refine⟨h.1,?_⟩;rcases h.2 with h2 | ⟨g,cap,cur,rfl,h2,c,r⟩
 ·exact .inl h2
 ·exact .inr ⟨g,cap,cur,rfl,h2,bXh (show Blk w g e cur from c) a (b g rfl),r⟩
theorem KeptBut.drewN(S:List Nat)(w:AV)(n:Nat):KeptBut S w (w.drewN n):=⟨Ax _,fun _ _ _=>rfl⟩
theorem aXg(u:AW)(hg:g∈S):KeptBut S w (w.setCell ⟨g,i,none⟩ u):=KeptBut.grown (nV w g i u) hg
theorem Told.kept{Q:Nat->Int->Prop}(h:Told w base v n Q)(a:KeptBut S w w')(c:∀ g∈S,∃ cs,Blk w g 4 cs):Told w' base v n Q:=by
 obtain⟨vs,P,h1,h2,d,f⟩:=h
 have no:∀ {e:TypeId} {base n:Nat} {v:AW} {xs:List AW},w.ownsRow base e 1 v n xs->e≠4->∀ g,v.ownBlock=some g->g ∉ S:=by
  intro e base n v xs j he g hg k;obtain⟨cs,l⟩:=c g k;exact own_ne j l he hg
 exact⟨vs,P,bWu h1 a (no h1 (by decide)),⟨h2.1,fun i u p q1 b=>bWu (h2.2 i u p q1 b) a (no (h2.2 i u p q1 b) (by decide))⟩,d,f⟩
theorem Told.first{A:Option Addr}{c:Nat}{Q:Nat->Int->Prop}{p:List Int}(h:Told w base (.slice A n c) n Q)(hn:i<n)(hp:IsSet p (Q i)):∃ b o B k,A=some ⟨b,o,none⟩/\b<w.heap.size/\w.cell? ⟨b,o+i,none⟩=some (.slice B p.length k)/\IR w (.slice B p.length k) p:=by
 obtain⟨P,a,hlen,hs⟩:=h.lists;obtain⟨q,hq⟩:∃ q,P[i]? = some q:=⟨_,Aj (by omega)⟩;have e:=IsSet.one (hs i q hq) hp;subst e;exact a.at hq
theorem Told.get{Q:Nat->Int->Prop}(h:Told w base v n Q)(hn:i<n):∃ p,IsSet p (Q i):=by
 obtain⟨P,hl,hlen,hs⟩:=h.lists;exact⟨_,hs i _ (Aj (by omega))⟩
theorem Told.shape{Q:Nat->Int->Prop}(h:Told w base v n Q):∃ A c,v = .slice A n c:=by
 obtain⟨vs,P,h1,_⟩:=h;obtain⟨A,c,e,_⟩:=fW h1;exact⟨A,c,e⟩
structure KM (w1 w:AV) (gC:Nat) (v:AW) (n P:Nat) (T:Nat->Nat->Bool) (gs:List Nat):Prop where
 t:TM w w1.heap.size v n P T gs
 c:Blk w gC 141 #[v]
 lo:w1.heap.size<=gC
 b:AY w1.heap.size w1 w
section
variable {w1 w w':AV} {gC n P:Nat} {v:AW} {T:Nat->Nat->Bool} {gs:List Nat}
theorem KM.keep(h:KM w1 w gC v n P T gs)(a:AY w.heap.size w w'):KM w1 w' gC v n P T gs:=⟨h.t.below a,h.c.below a h.c.lt,h.lo,h.b.trans (a.mono h.b.size)⟩
theorem KM.alloc(h:KM w1 w gC v n P T gs)(o:Obj):KM w1 (w.alloc o) gC v n P T gs:=h.keep ((Ak _ _).alloc (Ax _) _)
theorem KM.drewN(h:KM w1 w gC v n P T gs)(k:Nat):KM w1 (w.drewN k) gC v n P T gs:=⟨h.t.drewN k,h.c,h.lo,fK h.b k⟩
theorem KM.congr{T':Nat->Nat->Bool}(h:KM w1 w gC v n P T gs)(he:∀ i p,i<n->p<P->T i p=T' i p):KM w1 w gC v n P T' gs:=⟨h.t.congr he,h.c,h.lo,h.b⟩
theorem KM.fQn(h:KM w1 w gC v n P T gs):∀ g∈gs,∃ cs,Blk w g 4 cs:=fun g hg=>by
 obtain⟨i,hi⟩:=List.mem_iff_getElem?.1 hg;exact⟨_,(h.t.rows i g hi).2⟩
theorem KM.set{p:Nat}{b:Bool}(h:KM w1 w gC v n P T gs)(hg:gs[i]? = some g):KM w1 (w.setCell ⟨g,p,none⟩ (.bool b)) gC v n P (upd T i (fun q=>if q=p then b else T i q)) gs:=by
 have hr:=h.t.rows i g hg;refine⟨h.t.setAt hg,rY h.c (fun e=>?_),h.lo,h.b.setCell (p:=⟨g,p,none⟩) hr.1 _⟩;have a:=h.c;rw[e]at a;exact absurd (blk_ne a (show Blk w g 4 _ from hr.2) (by decide)) (fun h=>h rfl)
end
def RK(r:RowD)(P:Nat)(Req:Rel2)(w1:AV)(gC:Nat)(v:AW)(gs:List Nat)(w:AV):Prop:=∃ T,KM w1 w gC v P P T gs/\RS r P Req T
section
variable {r:RowD} {P gC:Nat} {Req Req':Rel2} {w1 w w':AV} {v:AW} {gs:List Nat}
theorem RK.fQd(h:RK r P Req w1 gC v gs w)(hq:∀ x y,Req' x y->Req x y):RK r P Req' w1 gC v gs w:=by
 obtain⟨T,h1,h2⟩:=h;exact⟨T,h1,h2.fQd hq⟩
theorem RK.keep(h:RK r P Req w1 gC v gs w)(a:AY w.heap.size w w'):RK r P Req w1 gC v gs w':=by
 obtain⟨T,h1,h2⟩:=h;exact⟨T,h1.keep a,h2⟩
theorem RK.drewN(h:RK r P Req w1 gC v gs w)(k:Nat):RK r P Req w1 gC v gs (w.drewN k):=by
 obtain⟨T,h1,h2⟩:=h;exact⟨T,h1.drewN k,h2⟩
theorem RK.bel(h:RK r P Req w1 gC v gs w):AY w1.heap.size w1 w:=by
 obtain⟨T,h1,h2⟩:=h;exact h1.b
theorem RK.fQn(h:RK r P Req w1 gC v gs w):∀ g∈gs,∃ cs,Blk w g 4 cs:=by
 obtain⟨T,h1,h2⟩:=h;exact h1.fQn
end
def dQg(w1:AV)(gC:Nat)(v:AW)(P:Nat)(T:Nat->Nat->Bool)(gs:List Nat)(a b:Nat)(w:AV)(c:Ending)(w':AV):Prop:=c = .returned (.tuple #[])/\KM w1 w' gC v P P (aVl T a b) gs/\KeptBut gs w w'
theorem eQr(w1:AV)(gC:Nat)(v:AW)(P:Nat)(T:Nat->Nat->Bool)(gs:List Nat)(a b:Nat)(w:AV)(h:KM w1 w gC v P P T gs)(ha:a<P)(n:b<P):Calls fZ 90 #[.pointer (some ⟨gC,0,none⟩),.int .i64 (a:Int),.int .i64 (b:Int)] w (dQg w1 gC v P T gs a b w):=by
 by_cases hab:a=b
 ·subst hab;have y:((a:Int) != (a:Int))=false:=(by simp);have z:=fQ (show dQg w1 gC v P T gs a a w (.returned (.tuple #[])) w from⟨rfl,by rw[bKe];exact h,KeptBut.refl _ _⟩);clear h;go_in;go_wp2;go_end0;exact z.out
 ·have y:((a:Int) != (b:Int))=true:=(by simp;omega);obtain⟨o,c,rfl,h1,h2,A,m,B⟩:=h.t.at_ (by omega);obtain⟨d,f⟩:∃ g,gs[a]? = some g:=⟨_,Aj (by rw[h.t.len];exact ha)⟩;obtain⟨j,k⟩:∃ g,gs[b]? = some g:=⟨_,Aj (by rw[h.t.len];exact n)⟩;have C:=h.c.cell 0;simp at C;have y0:=h.c.lt;have c1:=m a d f;have c2:=m b j k;have l:=(h.t.rows a d f).2;have rb:=(h.t.rows b j k).2;have y1:=Blk.lt l;have y2:=Blk.lt rb;have z1:=frz l b;have z2:=frz rb a;have n1:d≠j:=fun e=>hab (aXq h.t.nd f (e ▸ k));have n2:j≠d:=fun e=>n1 e.symm;have ca:=l.cell n;have cb:=rb.cell ha;have t2:(a:Int)<P:=(by omega);have t3:(b:Int)<P:=(by omega);have q:=fQ (cZj (T:=T) hab)
  have r:=fQ (show KM w1 ((w.setCell ⟨d,b,none⟩ (.bool true)).setCell ⟨j,a,none⟩ (.bool true)) gC (.slice (some ⟨o,0,none⟩) P c) P P (aVl T a b) gs by
   rw[q.out];refine((h.set (p:=b) (b:=true) f).set (p:=a) (b:=true) k).congr (fun i p _ _=>?_);unfold upd
   by_cases e:i=b <;> by_cases e2:i=a <;> by_cases D:p=a <;> by_cases E:p=b <;> simp_all)
  have s:=fQ (show KM w1 ((w.setCell ⟨j,a,none⟩ (.bool true)).setCell ⟨d,b,none⟩ (.bool true)) gC (.slice (some ⟨o,0,none⟩) P c) P P (aVl T a b) gs by
   rw[q.out];refine((h.set (p:=a) (b:=true) k).set (p:=b) (b:=true) f).congr (fun i p _ _=>?_);unfold upd
   by_cases e:i=b <;> by_cases e2:i=a <;> by_cases D:p=a <;> by_cases E:p=b <;> simp_all)
  have u:=fQ (((aXg (w:=w) (S:=gs) (g:=d) (i:=b) (.bool true) (Aq f)).trans (aXg (g:=j) (i:=a) (.bool true) (Aq k))));have x:=fQ (((aXg (w:=w) (S:=gs) (g:=j) (i:=a) (.bool true) (Aq k)).trans (aXg (g:=d) (i:=b) (.bool true) (Aq f))));clear h h1 A m B f k l rb hab;go_in;go_wp2_with fail;go_region
  all_goals
   go_wp2;go_end0
   first
    | exact⟨rfl,r.out.drewN _,u.out.trans (KeptBut.drewN _ _ _)⟩
    | exact⟨rfl,s.out.drewN _,x.out.trans (KeptBut.drewN _ _ _)⟩
    | exact⟨rfl,r.out.drewN 1,u.out.trans (KeptBut.drewN _ _ 1)⟩
    | exact⟨rfl,s.out.drewN 1,x.out.trans (KeptBut.drewN _ _ 1)⟩
def eJm(r:RowD)(P:Nat)(Req:Rel2)(w1:AV)(gC:Nat)(v:AW)(gs:List Nat)(a b:Nat)(w:AV)(c:Ending)(w':AV):Prop:=
 c = .returned (.tuple #[])/\(∀ Req':Rel2,(∀ x y,Req' x y->Req x y\/(x=(a:Int)/\y=(b:Int)))->RK r P Req' w1 gC v gs w')/\KeptBut gs w w'
theorem aWp(r:RowD)(P:Nat)(Req:Rel2)(w1:AV)(gC:Nat)(v:AW)(gs:List Nat)(a b:Nat)(w:AV)(h:RK r P Req w1 gC v gs w)(ha:a<P)(c:b<P)(hs:Sall r a b):
  Calls fZ 90 #[.pointer (some ⟨gC,0,none⟩),.int .i64 (a:Int),.int .i64 (b:Int)] w (eJm r P Req w1 gC v gs a b w):=by
 obtain⟨T,h1,h2⟩:=h;exact(eQr w1 gC v P T gs a b w h1 ha c).mono fun en w' ⟨e,d,f⟩=>⟨e,fun Req' hq=>⟨_,d,h2.put hs hq⟩,f⟩
structure AS (r:RowD) (P k:Nat) (l:List Int) (n:Nat) (f:Nat->Bool):Prop where
 snd:∀ p:Nat,p<P->f p=true->AcrossP r p
 req:∀ (i:Nat) c (p:Nat),i<k->r.code[i]? = some c->c.op=16->p<P->LiveB r i p->(p:Int) ∉ c.outs->f p=true
 now:∀ c (p:Nat),r.code[k]? = some c->c.op=16->p<P->(p:Int)∈l.take n->(p:Int) ∉ c.outs->f p=true
theorem AS.start(r:RowD)(P:Nat)(l:List Int):AS r P 0 l 0 (fun _=>false):=⟨fun p _ h=>(by cases h),fun i c p h=>by omega,fun c p _ _ _ h=>by simp at h⟩
theorem AS.fresh{r:RowD}{l':List Int}{f:Nat->Bool}(h:AS r P k l n f):AS r P k l' 0 f:=⟨h.snd,h.req,fun c p _ _ _ h=>by simp at h⟩
theorem AS.next{r:RowD}{l':List Int}{f:Nat->Bool}(h:AS r P k l n f)(d:∀ c,r.code[k]? = some c->c.op=16->(∀ x,x∈l↔LiveB r k x)/\l.length<=n):AS r P (k+1) l' 0 f:=
 ⟨h.snd,fun i c p hi hc a hp b hn=>by
  by_cases e:i=k
  ·subst e;have h2:=d c hc a;exact h.now c p hc a hp ((zJ h2.2).2 ((h2.1 p).2 b)) hn
  ·exact h.req i c p (by omega) hc a hp b hn,fun c p _ _ _ h=>by simp at h⟩
theorem AS.skip{r:RowD}{f:Nat->Bool}{c:CodeD}{z:Int}(h:AS r P k l n f)(hc:r.code[k]? = some c)(hz:l[n]? = some z)(b:z∈c.outs):AS r P k l (n+1) f:=
 ⟨h.snd,h.req,fun c' p a d hp e hn=>by
  rw[hc]at a;injection a with a;subst a;rcases(oQ hz).1 e with h1 | h1
  ·exact h.now c p hc d hp h1 hn
  ·rw[h1]at hn;exact absurd b hn⟩
theorem AS.put{r:RowD}{f:Nat->Bool}{c:CodeD}{z:Nat}(h:AS r P k l n f)(hc:r.code[k]? = some c)(d:c.op=16)(hz:l[n]? = some (z:Int))(g:(z:Int) ∉ c.outs)(j:LiveB r k z):AS r P k l (n+1) (fun q=>if q=z then true else f q):=
 ⟨fun p hp hf=>by
  by_cases e:p=z
  ·subst e;exact⟨k,c,hc,d,j,g⟩
  ·rw[if_neg e]at hf;exact h.snd p hp hf,fun i a p hi b m hp o hn=>by
   have:=h.req i a p hi b m hp o hn
   rw[this];simp,fun a p b s hp t hn=>by
  rcases(oQ hz).1 t with h1 | h1
  ·have:=h.now a p b s hp h1 hn;rw[this];simp
  ·have:p=z:=by omega
   simp[this]⟩
theorem AS.done{e:EnvD}{r:RowD}{f:Nat->Bool}(h:AS r P r.code.length l n f){p:Nat}(hp:p<P):f p=true↔AcrossP r p:=
 ⟨h.snd p hp,fun⟨i,c,hc,a,b,hn⟩=>h.req i c p (List.getElem?_eq_some_iff.1 hc).1 hc a hp b hn⟩
theorem AcrossP.range{e:EnvD}{r:RowD}(hc:CheckP e r){x:Int}(h:AcrossP r x):0<=x/\x<r.places:=by
 obtain⟨i,c,h1,h2,a,h4⟩:=h;exact a.range hc
structure AcM (w w1:AV) (gl P:Nat) (f:Nat->Bool) (wi:AV):Prop where
 l:RB 4 wi gl P f
 lo:w1.heap.size<=gl
 b:AY w1.heap.size w1 wi
theorem AcM.set{w w1 wi:AV}{gl P:Nat}{f:Nat->Bool}(h:AcM w w1 gl P f wi)(p:Nat):AcM w w1 gl P (fun q=>if q=p then true else f q) (wi.setCell ⟨gl,p,none⟩ (.bool true)):=
 ⟨h.l.set p true,h.lo,h.b.setCell (p:=⟨gl,p,none⟩) h.lo _⟩
theorem AcM.drewN{w w1 wi:AV}{gl P:Nat}{f:Nat->Bool}(h:AcM w w1 gl P f wi)(k:Nat):AcM w w1 gl P f (wi.drewN k):=⟨h.l,h.lo,fK h.b k⟩
def eQs(e:EnvD)(r:RowD)(w:AV)(a:Ending)(w':AV):Prop:=
 (¬CheckP e r/\a = .returned (.tuple #[.slice none 0 0,.int .i64 6])/\AY w.heap.size w w') \/
 (CheckP e r/\∃ v p,a = .returned (.tuple #[v,.int .i64 0])/\w'.ownsRow w.heap.size 3 1 v p.length (i64s p)/\p.length<=4096/\IsSet p (AcrossP r)/\AY w.heap.size w w')
theorem dYt{x:Int}{b:Bool}(hs:IR w v l)(a:l.length<=9223372036854775806)(c:decide (x∈l)=b):
  Calls fZ 93 #[v,.int .i64 x] w fun e w'=>e = .returned (.bool b)/\w'=w:=by
 subst c;exact(eQx v l x w hs a).mono fun _ _ h=>⟨h.1,h.2.symm⟩
theorem cXd(e:EnvD)(r:RowD)(ve y:AW)(w:AV)(he:EnvV w ve e)(hr:RowV w y r):Calls fZ 61 #[ve,y] w (eQs e r w):=by
 have HE:=fQ he;obtain⟨va,vb,vd,rfl,h1,h2,h3⟩:=he;obtain⟨L,M,y,vs,rfl,h4,h5,h6,O⟩:=hr;obtain⟨Y,cc,rfl,_⟩:=O.len;have H7:=fQ O;have ax:=fQ (show RowV w (.agg #[L,M,.int .i64 r.places,y,.slice Y r.code.length cc]) r from⟨L,M,y,_,rfl,h4,h5,h6,O⟩);obtain⟨n,hn⟩:=fX r.code.length;rw[hn]at ax ⊢;have Q:=fQ hn;clear h1 h2 h3 h4 h5 h6 O hn;have D:=fQ (al2 w (.cells #[va,.int .i64 e.imports,vb,vd,.bool e.mem] 26) (.cells #[L,M,.int .i64 r.places,y,.slice Y n cc] 43));have ay:=fQ (Blk.newAt (w.alloc (.cells #[va,.int .i64 e.imports,vb,vd,.bool e.mem] 26)) (N:=w.heap.size+1) 43 #[L,M,.int .i64 r.places,y,.slice Y n cc] (by simp));go_in;go_wp2_with fail;refine(bQh e r _ _ _ (HE.out.below D.out (Ax _)) (ax.out.below D.out (Ax _))).mono ?_;rintro en w1 (⟨az,rfl,A⟩ | ⟨hc,v,rfl,R,A⟩)
 ·have E:=fQ (D.out.trans (A.mono D.out.size));have aG:=fQ az;clear az A;go_wp2;go_ret2;exact .inl ⟨aG.out,rfl,E.out⟩
 ·have E:=fQ (D.out.trans (A.mono D.out.size));have H:=fQ hc;have I:=ay.out.below A ay.out.lt;obtain⟨P,Z⟩:∃ P:Nat,r.places=P:=⟨r.places.toNat,by have:=hc.p1;omega⟩;rw[Z]at I;have aH:P<=4096:=(by have:=hc.p2;omega);have aS:n<=4096:=(by have:=hc.n2;have:=Q.out;omega);have HP:=fQ Z;rw[Q.out]at R;have HT:=fQ R;obtain⟨Av,cv,rfl⟩:=R.shape;have F:=fQ I;obtain⟨S,T,U,V,W⟩:=gQ I;have y1:=I.lt;have mk:=vZ (P:=fZ) 24 4 (.bool false) 1 underlying24 aQt rfl P (by omega) (by omega);clear A hc R Z I S T V W;go_wp2;have aA:=fQ (show AcM w w1 w1.heap.size P (fun _=>false) (w1.alloc (.cells (Az P (.bool false)) 4))from⟨RB.new (t:=4) w1 (n:=P) false rfl,Ax _,(Ak _ _).alloc (Ax _) _⟩);clear mk U y1;go_loopw [9] (fun i wi=>∃ (k:Nat) (f:Nat->Bool),k<=n/\i = .int .i64 k/\Hid (AcM w w1 w1.heap.size P f wi)/\Hid (AS r P k [] 0 f)) (fun i _=>n - (intOf i).toNat)
  case atStart=>exact⟨0,_,by omega,rfl,aA,fQ (AS.start r P _)⟩
  case round=>
   clear aA;obtain⟨k,f,hk,rfl,IM,a⟩:=hrel;obtain⟨S,T,U,V,W⟩:=gQ (F.out.below IM.out.b F.out.lt);have y1:=(F.out.below IM.out.b F.out.lt).lt;by_cases ai:k<n
   ·have t1:decide ((k:Int)<n)=true:=(by simp;omega);have t2:(k:Int)<n:=(by omega);obtain⟨c,hc⟩:∃ c,r.code[k]? = some c:=⟨_,Aj (by rw[Q.out];exact ai)⟩;have aj:=fQ hc;obtain⟨gb,go,aT,aU,aV,rfl,aB,g0,g1,g2,X,g4,s0,s1,s2,s3⟩:=H7.out.code hc;obtain⟨qA,qc,rfl⟩:=s2.shape;have ak:=fQ s2.ir;obtain⟨mo,al⟩:∃ m,c.outs.length=m:=⟨_,rfl⟩;obtain⟨_,_,_,_,aI⟩:=s2.len;rw[al]at ak X aI;have aC:=fQ al;have G0:=fQ g0;have G3:=fQ X;obtain⟨p,hp⟩:=HT.out.get ai;have an:=fQ hp;have aJ:=hp.small H.out (fun x s=>s.range H.out);obtain⟨m,hm⟩:=fX p.length;rw[hm]at aJ;have HM:=fQ hm;have aD:=fQ (a.out.fresh (l':=p));clear hc al g0 g1 g2 X g4 s0 s1 s2 s3 hp hm a;go_wp2_with fail;clear S T U V W y1;go_loopw [10] (fun i wi=>∃ (j:Nat) (f:Nat->Bool),j<=m/\i = .int .i64 j/\Hid (AcM w w1 w1.heap.size P f wi)/\Hid (AS r P k p j f)) (fun i _=>m - (intOf i).toNat)
    case atStart=>exact⟨0,f,by omega,rfl,IM,aD⟩
    case round=>
     clear aD IM;obtain⟨j,f,hj,rfl,IM,a⟩:=hrel;have aq:=F.out.below IM.out.b F.out.lt;obtain⟨S,T,U,V,W⟩:=gQ aq;have y1:=aq.lt;have d:=fQ (E.out.trans (IM.out.b.mono E.out.size));have g0:=(d.out.cell (p:=⟨gb,_,none⟩) aB).trans G0.out;have X:=(d.out.cell (p:=⟨gb,_,none⟩) aB).trans G3.out;have y2:gb<wr.heap.size:=(by have:=d.out.size;omega);obtain⟨b,o,B,kB,rfl,A,hcl,ar⟩:=(HT.out.below IM.out.b).first ai an.out;rw[HM.out]at hcl ar;have aK:=fQ ar;clear ar aq;by_cases aL:j<m
     ·have t3:decide ((j:Int)<m)=true:=(by simp;omega);have t4:(j:Int)<m:=(by omega);obtain⟨x,s⟩:∃ x,p[j]? = some x:=⟨_,Aj (by rw[HM.out];exact aL)⟩;have au:=(an.out.2 x).1 (Aq s);have av:=au.range H.out;rw[HP.out]at av;obtain⟨z,rfl⟩:∃ z:Nat,x=z:=⟨x.toNat,by omega⟩;have aW:(z:Int)<P:=av.2;obtain⟨ab,ao,rfl,hab,aX⟩:=aK.out.cell s;have y3:=Blk.lt IM.out.l;have z3:=frz IM.out.l z;obtain⟨u3,c3⟩:∃ u,wr.cell? ⟨w1.heap.size,z,none⟩=some u:=⟨_,IM.out.l.cell (by omega)⟩;have HX:=fQ s;have aM:=fQ au;clear s au av;by_cases G:c.op=16
      ·have t5:(c.op == 16)=true:=(by simp[G]);have aN:=fQ G;clear G;by_cases g:(z:Int)∈c.outs
       ·have C:=fQ (a.out.skip aj.out HX.out g);have J:=fQ (decide_eq_true g);clear g a;go_wp2_with fail;go_quiet ((go_at_call 93;exact Calls.quiet_of_same (dYt ((ak.out.below d.out (Ax _)).drewN _) (by rw[aC.out];omega) J.out)));go_wp2;exact⟨⟨j+1,f,by omega,by simp,fQ (IM.out.drewN _),C⟩,by simp[intOf];omega⟩
       ·have C:=fQ (a.out.put aj.out aN.out HX.out g aM.out);have J:=fQ (decide_eq_false g);clear g a;go_wp2_with fail;go_quiet ((go_at_call 93;exact Calls.quiet_of_same (dYt ((ak.out.below d.out (Ax _)).drewN _) (by rw[aC.out];omega) J.out)));go_wp2;exact⟨⟨j+1,_,by omega,by simp,fQ ((IM.out.drewN _).set z),C⟩,by simp[intOf];omega⟩
      ·have t5:(c.op == 16)=false:=(by simp[G]);have C:=fQ (a.out.next (l':=[]) (fun c' K aE=>by rw[aj.out]at K;injection K with K;subst K;exact absurd aE G));clear G a;go_wp2;exact⟨⟨k+1,f,by omega,by simp,IM,C⟩,by simp[intOf];omega⟩
     ·have t3:decide ((j:Int)<m)=false:=(by simp;omega);have C:=fQ (a.out.next (l':=[]) (fun c' K aE=>⟨an.out.2,by rw[HM.out];omega⟩));clear a;go_wp2;exact⟨⟨k+1,f,by omega,by simp,IM,C⟩,by simp[intOf];omega⟩
   ·have t1:decide ((k:Int)<n)=false:=(by simp;omega);have aw:k=n:=(by omega);subst aw;have aO:=fQ IM.out.l.src;have d:=fQ (E.out.trans (IM.out.b.mono E.out.size));go_wp2_with fail;refine(aVn _ P _ f _ aO.out aH).mono ?_;rintro en w3 ⟨u,q,rfl,g,aP,ah,aF⟩;have J:=fQ (jX g d.out.size);have HQ:=fQ (show q.length<=4096 by omega)
    have aQ:=fQ (show IsSet q (AcrossP r)from aVm (e:=e) (r:=r) ah (fun z hz=>by
     have h:=a.out;rw[<-Q.out]at h
     exact h.done (e:=e) hz) (fun x s=>by have:=s.range H.out;rw[HP.out]at this;exact this))
    have aR:=fQ (d.out.trans (aF.mono d.out.size));clear g aP ah aF;go_wp2;go_ret2;exact .inr ⟨H.out,u,q,rfl,J.out,HQ.out,aQ.out,aR.out⟩
theorem aQm{r:Option Nat}(h:w.drew.grownBy w' r):w.grownBy w' r:=⟨h.os,h.tape,h.output,h.size,h.block⟩
theorem KM.push{w1 w w':AV}{gC k P d cap:Nat}{v:AW}{gs:List Nat}(h:KM w1 w gC v k P (fun _ _=>false) gs)
  (m:w'.ownsRow w1.heap.size 24 1 (.slice (some ⟨d,0,none⟩) (k+1) cap) (k+1) (rowsV gs P ++ [.slice (some ⟨w.heap.size,0,none⟩) P P]))
  (hg:((w.alloc (.cells (Az P (.bool false)) 4)).alloc (.cells #[.slice (some ⟨w.heap.size,0,none⟩) P P] 24)).grownBy w' v.ownBlock) :
  KM w1 (w'.setCell ⟨gC,0,none⟩ (.slice (some ⟨d,0,none⟩) (k+1) cap)) gC (.slice (some ⟨d,0,none⟩) (k+1) cap) (k+1) P (fun _ _=>false) (gs ++ [w.heap.size]):=by
 have h2:=(h.alloc (.cells (Az P (.bool false)) 4)).alloc (.cells #[.slice (some ⟨w.heap.size,0,none⟩) P P] 24);have o:=h2.t.push (g:=w.heap.size) (f:=fun _=>false) (Blk.alloc (RB.new (t:=4) w (n:=P) false rfl) _) h.b.size (fun x q=>by have:=h.t.lt_ x q;omega) m hg;have hc:=h2.c.grown hg (own_ne h2.t.own h2.c (by decide))
 have a:=o.congr (T':=fun _ _=>false) (fun i p _ _=>by
  by_cases e:i=k
  ·subst e;rw[tZ]
  ·rw[sZ e])
 refine⟨⟨gY a.own (own_ne a.own hc (by decide)),a.len,a.nd,fun i g l=>⟨(a.rows i g l).1,rY (a.rows i g l).2 (blk_ne (show Blk w' g 4 _ from(a.rows i g l).2) hc (by decide))⟩⟩,?_,h.lo,?_⟩
 ·have:=fV hc 0 (.slice (some ⟨d,0,none⟩) (k+1) cap)
  simpa using this
 ·exact(iK h2.b hg h2.b.size (fun j hj=>(h2.t.own.lt j hj).1)).setCell (p:=⟨gC,0,none⟩) h.lo _
theorem KM.drew'{w1:AV}{gC:Nat}{T:Nat->Nat->Bool}(h:KM w1 w gC v n P T gs):KM w1 w.drew gC v n P T gs:=⟨h.t.drew,h.c,h.lo,⟨h.b.os,h.b.tape,h.b.output,h.b.size,h.b.block⟩⟩
theorem RK.drew'{r:RowD}{P gC:Nat}{Req:Rel2}{w1 w:AV}{v:AW}{gs:List Nat}(h:RK r P Req w1 gC v gs w):RK r P Req w1 gC v gs w.drew:=by
 obtain⟨T,h1,h2⟩:=h;exact⟨T,h1.drew',h2⟩
theorem RK.drewN'{r:RowD}{gC:Nat}{Req:Rel2}{w1:AV}(h:RK r P Req w1 gC v gs w)(n:Nat):RK r P Req w1 gC v gs (w.drewN n):=by
 induction n with
 | zero=>exact h
 | succ n a=>
  have:=a.drew';exact this
theorem Told.drew'{Q:Nat->Int->Prop}(h:Told w base v n Q):Told w.drew base v n Q:=by
 obtain⟨vs,P,h1,h2,a,b⟩:=h;exact⟨vs,P,h1,⟨h2.1,h2.2⟩,a,b⟩
theorem dQh{e:TypeId}{size:Nat}{xs:List AW}(h:w.ownsRow base e size v n xs):w.drew.ownsRow base e size v n xs:=h
theorem bXc{t:TypeId}{cs:Array AW}(h:Blk w g t cs)(a:KeptBut S w w')(b:∀ g∈S,∃ cs,Blk w g 4 cs)(c:t≠4):Blk w' g t cs:=
 bXh h a (fun d=>by
  obtain⟨ab,e⟩:=b g d
  exact blk_ne h e c rfl)
theorem cJr(e:EnvD)(r:RowD)(ve vr:AW)(w:AV)(he:EnvV w ve e)(hr:RowV w vr r):Calls fZ 60 #[ve,vr] w (bXy e r r.places.toNat (fun i=>Clashes r (i:Int)) w):=by
  have HE:=fQ he;obtain⟨va,vb,vd,rfl,h1,h2,h3⟩:=he;obtain⟨vp,vq,vr,vs,rfl,h4,h5,h6,h7⟩:=hr;obtain⟨Ac,cc,rfl,_⟩:=h7.len;obtain⟨Ar,cr,rfl⟩:=h6.shape;have H7:=fQ h7;have a1:=fQ h6.ir;obtain⟨_,_,_,_,b7⟩:=h6.len;have aS:=fQ (show RowV w (.agg #[vp,vq,.int .i64 r.places,.slice Ar r.params.length cr,.slice Ac r.code.length cc]) r from⟨vp,vq,_,_,rfl,h4,h5,h6,h7⟩);obtain⟨n,hn⟩:=fX r.code.length;obtain⟨G,aT⟩:=fX r.params.length;rw[hn,aT]at aS ⊢;rw[aT]at a1 b7;have HN:=fQ hn;have aU:=fQ aT;clear h1 h2 h3 h4 h5 h6 h7 hn aT;have ax:=fQ (al2 w (.cells #[va,.int .i64 e.imports,vb,vd,.bool e.mem] 26) (.cells #[vp,vq,.int .i64 r.places,.slice Ar G cr,.slice Ac n cc] 43));have a6:=fQ (Blk.newAt (w.alloc (.cells #[va,.int .i64 e.imports,vb,vd,.bool e.mem] 26)) (N:=w.heap.size+1) 43 #[vp,vq,.int .i64 r.places,.slice Ar G cr,.slice Ac n cc] (by simp));have a7:=fQ (Blk.alloc (Blk.new w 26 #[va,.int .i64 e.imports,vb,vd,.bool e.mem]) (.cells #[vp,vq,.int .i64 r.places,.slice Ar G cr,.slice Ac n cc] 43));go_in;go_wp2_with fail;refine(bQh e r _ _ _ (HE.out.below ax.out (Ax _)) (aS.out.below ax.out (Ax _))).mono ?_;rintro en w1 (⟨aV,rfl,J⟩ | ⟨hc,v,rfl,hT,J⟩)
  · have E:=fQ (ax.out.trans (J.mono ax.out.size))
    have b8:=fQ aV;clear aV J;go_wp2;go_ret2;exact .inl ⟨b8.out,rfl,E.out⟩
  · have E:=fQ (ax.out.trans (J.mono ax.out.size))
    have M:=fQ hc;have k1:=a6.out.below J a6.out.lt;have bG:=a7.out.below J a7.out.lt;obtain⟨P,hP⟩:∃ P:Nat,r.places=P:=⟨r.places.toNat,by have:=hc.p1;omega⟩;have bH:r.places.toNat=P:=(by omega);have b9:=fQ bH;rw[hP]at k1 aS;have ca:P<=4096:=(by have:=hc.p2;omega);have cS:n<=4096:=(by have:=hc.n2;have:=HN.out;omega);have bI:0<n:=(by have:=hc.n1;have:=HN.out;omega);have HP:=fQ hP;rw[HN.out]at hT;have HT:=fQ hT;obtain⟨Av,cv,rfl⟩:=hT.shape;have U:=fQ k1;have bJ:=fQ bG;obtain⟨gC,aJ⟩:=fX w1.heap.size
    have bL:=fQ (show KM w1 (w1.alloc (.cells #[.slice none 0 0] 141)) gC (.slice none 0 0) 0 P (fun _ _=>false) []from
      ⟨TM.nil _ _ _ _,Blk.newAt _ _ _ aJ,AX aJ,(Ak _ _).alloc (Ax _) _⟩)
    have cT:=fQ aJ;have mk:=vZ (P:=fZ) 24 4 (.bool false) 1 underlying24 aQt rfl P (by omega) (by omega);clear J hc hT hP bH k1 bG a6 a7 ax;go_wp2
    (try rw[aJ])
    clear aJ;go_loopw [9] (fun i wr=>∃ (k:Nat) (v:AW) (gs:List Nat),k<=P/\i = .int .i64 k/\Hid (KM w1 wr gC v k P (fun _ _=>false) gs)) (fun i _=>P - (intOf i).toNat)
    case atStart=>exact⟨0,_,[],by omega,rfl,bL⟩
    case round=>
      as_aux_lemma=>
      clear bL;obtain⟨k,v,gs,hk,rfl,IM⟩:=hrel;obtain⟨ar,au,hv⟩:=IM.out.t.shape;subst hv;have g:=U.out.below IM.out.b U.out.lt;obtain⟨O,Q,V,R,S⟩:=gQ g;have y1:=g.lt;have cd:=IM.out.b.size;by_cases cf:k<P
      · have t1:decide ((k:Int)<P)=true:=by simp;omega
        have t2:(k:Int)<P:=(by omega);have c0:=IM.out.c.cell 0;simp at c0;have c1:=frz IM.out.c 0;have c2:=IM.out.c.lt;obtain⟨i0,ch,cj,ck,a8⟩:=info_parts bXw;have ba:=fQ (iJ (iJ IM.out.t.own (.cells (Az P (.bool false)) 4)) (.cells #[.slice (some ⟨wr.heap.size,0,none⟩) P P] 24));have aK:=fQ ((IM.out.c.alloc (.cells (Az P (.bool false)) 4)).alloc (.cells #[.slice (some ⟨wr.heap.size,0,none⟩) P P] 24));have aW:=fQ (own_ne ba.out aK.out (by decide));clear g O Q R S;go_wp2_with fail
        go_region_law
          ((refine step_append_lies _ (by rfl) _ _ _ (by rfl) w1.heap.size 24 i0 _ 1 24 underlying139 ch cj ck a8 rfl (by omega) _ k (rowsV gs P) (by rfl) (dQh ba.out)
              ⟨wr.heap.size+1,0,none⟩ 1 1 [.slice (some ⟨wr.heap.size,0,none⟩) P P] (by rfl) (by rfl) (World.news_of_block (cs:=#[.slice (some ⟨wr.heap.size,0,none⟩) P P]) (t:=24) (fr:=(0,0)) (Blk.newAt _ _ _ (by simp))) (aXw _ _ _)
              (by omega) (by unfold maxLen;omega) (by omega) (by simp;omega) (wr.heap.size+2) (by simp) ?_;intro gg cap w3 av af cm bb;have k0:=(aK.out.grown (aQm af) aW.out).cell 0;have k2:=frz (aK.out.grown (aQm af) aW.out) 0;have k3:=(aK.out.grown (aQm af) aW.out).lt))
        all_goals
          have cn:=fQ (IM.out.push av (aQm af));clear av af cm bb k0 k2 k3 IM ba aK aW;go_wp2;exact⟨⟨k+1,_,_,by omega,by simp,cn⟩,by simp[intOf];omega⟩
      · have t1:decide ((k:Int)<P)=false:=by simp;omega
        have bc:k=P:=(by omega);subst bc;have bM:=fQ (show RK r k (aKh r 0) w1 gC (.slice ar k au) gs wr from⟨_,IM.out,RS.start r k (fun x y ⟨i,_,h,_⟩=>by omega)⟩);clear IM g cd mk;go_wp2;clear O Q V R S y1 t1 hk cf;go_loopw [10] (fun i wr=>∃ q:Nat,q<=n/\i = .int .i64 q/\Hid (RK r k (aKh r q) w1 gC (.slice ar k au) gs wr)) (fun i _=>n - (intOf i).toNat)
        case atStart=>exact⟨0,by omega,rfl,bM⟩
        case round=>
          as_aux_lemma=>
          clear bM;obtain⟨q,hq,rfl,d⟩:=hrel;have g:=U.out.below d.out.bel U.out.lt;obtain⟨O,Q,V,R,S⟩:=gQ g;have y1:=g.lt;by_cases bd:q<n
          · as_aux_lemma=>
            have t1:decide ((q:Int)<n)=true:=(by simp;omega);have t2:(q:Int)<n:=(by omega);obtain⟨c,hc⟩:∃ c,r.code[q]? = some c:=⟨_,Aj (by rw[HN.out];exact bd)⟩;have aL:=fQ hc;have Z:=fQ (E.out.trans (d.out.bel.mono E.out.size));obtain⟨gb,go,cU,cV,cW,rfl,aM,g0,g1,g2,g3,g4,s0,s1,s2,s3⟩:=H7.out.code hc;replace g0:=(Z.out.cell (p:=⟨gb,_,none⟩) aM).trans g0;replace g1:=(Z.out.cell (p:=⟨gb,_,none⟩) aM).trans g1;replace g2:=(Z.out.cell (p:=⟨gb,_,none⟩) aM).trans g2;replace g3:=(Z.out.cell (p:=⟨gb,_,none⟩) aM).trans g3;replace g4:=(Z.out.cell (p:=⟨gb,_,none⟩) aM).trans g4;have y2:gb<wr.heap.size:=(by have:=Z.out.size;omega);obtain⟨pA,pc,rfl⟩:=s1.shape;obtain⟨qA,qc,rfl⟩:=s2.shape;obtain⟨tA,tc,rfl⟩:=s3.shape;have bN:=fQ s1.ir;have be:=fQ s2.ir;obtain⟨_,_,_,_,cq⟩:=s1.len;obtain⟨_,_,_,_,ct⟩:=s2.len;obtain⟨ma,bf⟩:∃ m,c.args.length=m:=⟨_,rfl⟩;obtain⟨D,bg⟩:∃ m,c.outs.length=m:=⟨_,rfl⟩;rw[bf]at bN g2 cq;rw[bg]at be g3 ct;have bO:=fQ bf;have aX:=fQ bg;have aY:=fQ (qY (M.out.code c (Aq hc)));obtain⟨p,hp⟩:=HT.out.get bd;have bj:=fQ hp;have cw:=hp.small M.out (fun x f=>f.range M.out);obtain⟨m,hm⟩:=fX p.length;rw[hm]at cw;have HM:=fQ hm;obtain⟨gk,bk⟩:=fX wr.heap.size;have aN:=fQ ((d.out.fQd (Req':=aZf r q c 0) (fun x y h=>bZa x y h)).keep ((Ak wr.heap.size wr).alloc (Ax _) (.cells #[.int .i64 c.op,.int .u64 (c.n:Int),.slice pA ma pc,.slice qA D qc,.slice tA c.to.length tc] 52)));have bP:=fQ (Blk.newAt wr (N:=gk) 52 #[.int .i64 c.op,.int .u64 (c.n:Int),.slice pA ma pc,.slice qA D qc,.slice tA c.to.length tc] bk);clear hc s0 s1 s2 s3 bf bg hp hm g d;go_wp2_with fail
            (try rw[bk])
            clear bk g0 g1 g2 g3 g4 O Q V R S y1 y2;go_loopw [12] (fun i wr=>∃ j:Nat,j<=D/\i = .int .i64 j/\Hid (RK r k (aZf r q c j) w1 gC (.slice ar k au) gs wr)/\Hid (Blk wr gk 52 #[.int .i64 c.op,.int .u64 (c.n:Int),.slice pA ma pc,.slice qA D qc,.slice tA c.to.length tc])) (fun i _=>D - (intOf i).toNat)
            case atStart=>exact⟨0,by omega,rfl,aN,bP⟩
            case round=>
              as_aux_lemma=>
              clear aN bP;obtain⟨j,hj,rfl,d,s⟩:=hrel;obtain⟨d0,d1,d2,d3,d4⟩:=gQ s.out;have y3:=s.out.lt;by_cases cx:j<D
              · have t3:decide ((j:Int)<D)=true:=by simp;omega
                have t4:(j:Int)<D:=(by omega);obtain⟨o,ho⟩:∃ o,c.outs[j]? = some o:=⟨_,Aj (by rw[aX.out];exact cx)⟩;have bQ:=aY.out.2.1 o (Aq ho);rw[HP.out]at bQ;obtain⟨H,rfl⟩:∃ z:Nat,o=z:=⟨o.toNat,by omega⟩;have bl:H<k:=(by omega);have HO:=fQ ho;have ay:=fQ (d.out.fQd (Req':=aJe r q c j (H:Int) p 0) (fun x y h=>cJn x y h));clear ho bQ d;go_wp2_with fail;clear d0 d1 d2 d3 d4 y3;go_loopw [13] (fun i wr=>∃ z:Nat,z<=m/\i = .int .i64 z/\Hid (RK r k (aJe r q c j (H:Int) p z) w1 gC (.slice ar k au) gs wr)/\Hid (Blk wr gk 52 #[.int .i64 c.op,.int .u64 (c.n:Int),.slice pA ma pc,.slice qA D qc,.slice tA c.to.length tc])) (fun i _=>m - (intOf i).toNat)
                case atStart=>exact⟨0,by omega,rfl,ay,s⟩
                case round=>
                  as_aux_lemma=>
                  clear ay s;obtain⟨z,hz,rfl,d,s⟩:=hrel;obtain⟨d0,d1,d2,d3,d4⟩:=gQ s.out;have y3:=s.out.lt;have F:=fQ (E.out.trans (d.out.bel.mono E.out.size));obtain⟨b,o,B,kB,rfl,J,hcl,az⟩:=(HT.out.below d.out.bel).first bd bj.out;rw[HM.out]at hcl az;have bm:=fQ az;clear az;by_cases cy:z<m
                  · have t5:decide ((z:Int)<m)=true:=by simp;omega
                    have t6:(z:Int)<m:=(by omega);obtain⟨x,f⟩:∃ x,p[z]? = some x:=⟨_,Aj (by rw[HM.out];exact cy)⟩;have bn:=(bj.out.2 x).1 (Aq f);have al:=bn.range M.out;rw[HP.out]at al;obtain⟨A,rfl⟩:∃ z:Nat,x=z:=⟨x.toNat,by omega⟩;have aw:A<k:=(by omega);obtain⟨ab,ao,rfl,hab,aA⟩:=bm.out.cell f;obtain⟨ob,oo,rfl,bo,aB⟩:=(be.out.below F.out (Ax _)).cell HO.out;have HX:=fQ f;have bT:=fQ bn;clear f bn al;by_cases aC:c.op=272
                    · have t7:(c.op != 272)=false:=by simp[aC]
                      have bU:=bKj (M.out.code c (Aq aL.out)) aC;rw[bO.out]at bU;obtain⟨a0,bp⟩:∃ a,c.args[0]? = some a:=⟨_,Aj (by rw[bO.out];omega)⟩;obtain⟨eb,eo,rfl,cX,cz⟩:=(bN.out.below F.out (Ax _)).cell bp;rw[AZ]at cz;have t8:(0:Int)<(ma:Int):=(by omega);have cY:0<ma:=(by omega);have bV:=fQ bp;have cA:=fQ aC;clear bp aC bU;by_cases aI:(A:Int)=a0
                      · have t9:((A:Int) != a0)=false:=by simp[aI]
                        have aD:=fQ (d.out.fQd (Req':=aJe r q c j (H:Int) p (z+1)) (fun x y h=>dQc HX.out (fun hh=>hh cA.out a0 bV.out aI) x y h));clear aI d;go_wp2_with fail;go_quiet (fail);go_wp2;exact⟨⟨z+1,by omega,by simp,fQ (aD.out.drewN _),fQ (s.out.drewN _)⟩,by simp[intOf];omega⟩
                      · have t9:((A:Int) != a0)=true:=by simp[aI]
                        have W:=fQ (show Sall r (H:Int) (A:Int)from .inl ⟨q,c,aL.out,Aq HO.out,.inl ⟨bT.out,fun _ a ha=>by rw[bV.out]at ha;injection ha with ha;rw[<-ha];exact aI⟩⟩);clear aI;go_wp2_with fail;go_quiet (fail);have q3:(wr.drewN nq).cell? _=_:=d3;have qo:(wr.drewN nq).cell? _=_:=aB;have ql:(wr.drewN nq).cell? _=_:=hcl;have qx:(wr.drewN nq).cell? _=_:=aA;have qy:gk<(wr.drewN nq).heap.size:=y3;have aE:=fQ (d.out.drewN' nq);have aF:=fQ (s.out.drewN nq);generalize wr.drewN nq=wq at q3 qo ql qx qy aE aF ⊢;clear d0 d1 d2 d3 d4 aB hcl aA y3 d s F;go_wp2_with fail;have l:=fQ (show RK r k _ w1 gC _ gs (wq.drew)from aE.out.drew');have X:=fQ (show Blk (wq.drew) gk 52 _ from aF.out.drew);go_still_tail 12,(by kernel_rfl);change wpList _ _ _ _ _ (wq.drew);generalize wq.drew=wd at l X ⊢;clear aE aF;go_wp2_with fail;refine(aWp r k _ w1 gC _ gs H A _ l.out bl aw W.out).mono ?_;rintro en w6 ⟨rfl,K,L⟩;have an:=fQ (K (aJe r q c j (H:Int) p (z+1)) (fun x y h=>bWt HX.out x y h));have aO:=fQ (bXc X.out L l.out.fQn (by decide));clear K L l X;go_wp2;exact⟨⟨z+1,by omega,by simp,an,aO⟩,by simp[intOf];omega⟩
                    · have t7:(c.op != 272)=true:=by simp[aC]
                      have W:=fQ (show Sall r (H:Int) (A:Int)from .inl ⟨q,c,aL.out,Aq HO.out,.inl ⟨bT.out,fun h=>absurd h aC⟩⟩);clear aC;go_wp2_with fail;go_quiet (fail);have q3:(wr.drewN nq).cell? _=_:=d3;have qo:(wr.drewN nq).cell? _=_:=aB;have ql:(wr.drewN nq).cell? _=_:=hcl;have qx:(wr.drewN nq).cell? _=_:=aA;have qy:gk<(wr.drewN nq).heap.size:=y3;have aE:=fQ (d.out.drewN' nq);have aF:=fQ (s.out.drewN nq);generalize wr.drewN nq=wq at q3 qo ql qx qy aE aF ⊢;clear d0 d1 d2 d3 d4 aB hcl aA y3 d s F;go_wp2_with fail;have l:=fQ (show RK r k _ w1 gC _ gs (wq.drew)from aE.out.drew');have X:=fQ (show Blk (wq.drew) gk 52 _ from aF.out.drew);go_still_tail 12,(by kernel_rfl);change wpList _ _ _ _ _ (wq.drew);generalize wq.drew=wd at l X ⊢;clear aE aF;go_wp2_with fail;refine(aWp r k _ w1 gC _ gs H A _ l.out bl aw W.out).mono ?_;rintro en w6 ⟨rfl,K,L⟩;have an:=fQ (K (aJe r q c j (H:Int) p (z+1)) (fun x y h=>bWt HX.out x y h));have aO:=fQ (bXc X.out L l.out.fQn (by decide));clear K L l X;go_wp2;exact⟨⟨z+1,by omega,by simp,an,aO⟩,by simp[intOf];omega⟩
                  · have t5:decide ((z:Int)<m)=false:=by simp;omega
                    have aD:=fQ (d.out.fQd (Req':=aKi r q c j (H:Int) 0) (fun x y h=>dQd (by rw[HM.out];omega) bj.out.2 x y h));clear d;go_wp2_with fail;clear d0 d1 d2 d3 d4 y3 hcl J F;go_loopw [14] (fun i wr=>∃ z:Nat,z<=D/\i = .int .i64 z/\Hid (RK r k (aKi r q c j (H:Int) z) w1 gC (.slice ar k au) gs wr)/\Hid (Blk wr gk 52 #[.int .i64 c.op,.int .u64 (c.n:Int),.slice pA ma pc,.slice qA D qc,.slice tA c.to.length tc])) (fun i _=>D - (intOf i).toNat)
                    case atStart=>exact⟨0,by omega,rfl,aD,s⟩
                    case round=>
                      as_aux_lemma=>
                      clear aD s;obtain⟨I,a8,rfl,d,s⟩:=hrel;obtain⟨d0,d1,d2,d3,d4⟩:=gQ s.out;have y3:=s.out.lt;have F:=fQ (E.out.trans (d.out.bel.mono E.out.size));by_cases bq:I<D
                      · have t7:decide ((I:Int)<D)=true:=by simp;omega
                        have t8:(I:Int)<D:=(by omega);obtain⟨x,f⟩:∃ x,c.outs[I]? = some x:=⟨_,Aj (by rw[aX.out];exact bq)⟩;have al:=aY.out.2.1 x (Aq f);rw[HP.out]at al;obtain⟨A,rfl⟩:∃ z:Nat,x=z:=⟨x.toNat,by omega⟩;have aw:A<k:=(by omega);have hh:=be.out.below F.out (Ax _);obtain⟨ob,oo,rfl,bo,aB⟩:=hh.cell HO.out;obtain⟨cB,cC,aG,br,aA⟩:=hh.cell f;injection aG with aG;injection aG with e1 e2;subst e1;subst e2;have HX:=fQ f;have W:=fQ (show Sall r (H:Int) (A:Int)from .inl ⟨q,c,aL.out,Aq HO.out,.inr (Aq f)⟩);clear f al hh;go_wp2_with fail;have l:=fQ (show RK r k _ w1 gC _ gs (wr.drew)from d.out.drew');have X:=fQ (show Blk (wr.drew) gk 52 _ from s.out.drew);go_still_tail 10,(by kernel_rfl);change wpList _ _ _ _ _ (wr.drew);generalize wr.drew=wd at l X ⊢;clear d s;go_wp2_with fail;refine(aWp r k _ w1 gC _ gs H A _ l.out bl aw W.out).mono ?_;rintro en w6 ⟨rfl,K,L⟩;have an:=fQ (K (aKi r q c j (H:Int) (I+1)) (fun x y h=>bWy HX.out x y h));have aO:=fQ (bXc X.out L l.out.fQn (by decide));clear K L l X;go_wp2;exact⟨⟨I+1,by omega,by simp,an,aO⟩,by simp[intOf];omega⟩
                      · have t7:decide ((I:Int)<D)=false:=by simp;omega
                        have aZ:=fQ (d.out.fQd (Req':=aZf r q c (j+1)) (fun x y h=>bKi HO.out (by rw[aX.out];omega) x y h));clear d;go_wp2;exact⟨⟨j+1,by omega,by simp,aZ,s⟩,by simp[intOf];omega⟩
              · have t3:decide ((j:Int)<D)=false:=by simp;omega
                have ay:=fQ (d.out.fQd (Req':=aKh r (q+1)) (fun x y h=>bKh aL.out (by rw[aX.out];omega) x y h));clear d;go_wp2;exact⟨⟨q+1,by omega,by simp,ay⟩,by simp[intOf];omega⟩
          · as_aux_lemma=>
            have t1:decide ((q:Int)<n)=false:=(by simp;omega);have bs:q=n:=(by omega);subst bs;have Z:=fQ (E.out.trans (d.out.bel.mono E.out.size));have bt:=bJ.out.below d.out.bel bJ.out.lt;obtain⟨e0,e1,e2,e3,e4⟩:=gQ bt;have y2:=bt.lt;have aN:=fQ (d.out.fQd (Req':=aZg r 0) (fun x y h=>by rw[<-HN.out];exact bZb x y h));clear bt g d;go_wp2_with fail;refine(cJq e r _ _ _ (HE.out.below Z.out (Ax _)) (aS.out.below Z.out (Ax _))).mono ?_;rintro en w4 (⟨aV,_,_⟩ | ⟨_,v4,rfl,aP,bW⟩)
            · exact absurd M.out aV
            obtain⟨wb,cD⟩:=fX wr.heap.size;rw[HN.out,cD]at aP;obtain⟨A4,c4,rfl⟩:=aP.shape;have bX:=fQ aP;have ay:=fQ (aN.out.keep bW);obtain⟨u,hu⟩:=aP.get bI;have HU:=fQ hu;have cE:=hu.small M.out (fun x f=>f.range M.out);obtain⟨mu,bu⟩:∃ m,u.length=m:=⟨_,rfl⟩;rw[bu]at cE;have bw:=fQ bu;have bx:=fQ (fun x (f:x∈r.params)=>pQ M.out.pin f);rw[HP.out]at bx;clear aP bW hu bu e0 e1 e2 e3 e4 O Q V R S y1 y2 aN Z;go_wp2;go_loopw [17] (fun i wr=>∃ j:Nat,j<=G/\i = .int .i64 j/\Hid (RK r k (aZg r j) w1 gC (.slice ar k au) gs wr)/\Hid (Told wr wb (.slice A4 q c4) q (Live r))) (fun i _=>G - (intOf i).toNat)
            case atStart=>exact⟨0,by omega,rfl,ay,bX⟩
            case round=>
              as_aux_lemma=>
              clear ay bX;obtain⟨j,hj,rfl,d,IT⟩:=hrel;have g:=U.out.below d.out.bel U.out.lt;obtain⟨O,Q,V,R,S⟩:=gQ g;have y1:=g.lt;clear g;by_cases cF:j<G
              · have t3:decide ((j:Int)<G)=true:=by simp;omega
                have t4:(j:Int)<G:=(by omega);obtain⟨a,ha⟩:∃ a,r.params[j]? = some a:=⟨_,Aj (by rw[aU.out];exact cF)⟩;have cG:=bx.out a (Aq ha);obtain⟨Y,rfl⟩:∃ z:Nat,a=z:=⟨a.toNat,by omega⟩;have bY:Y<k:=(by omega);have HA:=fQ ha;have aD:=fQ (d.out.fQd (Req':=aKj r j (Y:Int) 0) (fun x y h=>bZc x y h));clear ha cG d;go_wp2_with fail;clear O Q V R S y1;go_loopw [18] (fun i wr=>∃ z:Nat,z<=G/\i = .int .i64 z/\Hid (RK r k (aKj r j (Y:Int) z) w1 gC (.slice ar k au) gs wr)/\Hid (Told wr wb (.slice A4 q c4) q (Live r))) (fun i _=>G - (intOf i).toNat)
                case atStart=>exact⟨0,by omega,rfl,aD,IT⟩
                case round=>
                  as_aux_lemma=>
                  clear aD IT;obtain⟨z,hz,rfl,d,IT⟩:=hrel;have g:=U.out.below d.out.bel U.out.lt;obtain⟨O,Q,V,R,S⟩:=gQ g;have y1:=g.lt;have F:=fQ (E.out.trans (d.out.bel.mono E.out.size));clear g;by_cases cH:z<G
                  · have t5:decide ((z:Int)<G)=true:=by simp;omega
                    have t6:(z:Int)<G:=(by omega);obtain⟨x,f⟩:∃ x,r.params[z]? = some x:=⟨_,Aj (by rw[aU.out];exact cH)⟩;have al:=bx.out x (Aq f);obtain⟨A,rfl⟩:∃ z:Nat,x=z:=⟨x.toNat,by omega⟩;have aw:A<k:=(by omega);have hh:=a1.out.below F.out (Ax _);obtain⟨ob,oo,rfl,bo,aB⟩:=hh.cell HA.out;obtain⟨cB,cC,aG,br,aA⟩:=hh.cell f;injection aG with aG;injection aG with e1 e2;subst e1;subst e2;have HX:=fQ f;have W:=fQ (show Sall r (Y:Int) (A:Int)from .inr ⟨Aq HA.out,.inl (Aq f)⟩);clear f al hh;go_wp2_with fail;have l:=fQ (show RK r k _ w1 gC _ gs (wr.drew)from d.out.drew');have aH:=fQ (show Told (wr.drew) wb _ q (Live r)from IT.out.drew');go_still_tail 10,(by kernel_rfl);change wpList _ _ _ _ _ (wr.drew);generalize wr.drew=wd at l aH ⊢;clear d IT;go_wp2_with fail;refine(aWp r k _ w1 gC _ gs Y A _ l.out bY aw W.out).mono ?_;rintro en w6 ⟨rfl,K,L⟩;have an:=fQ (K (aKj r j (Y:Int) (z+1)) (fun x y h=>bWz HX.out x y h));have bz:=fQ (aH.out.kept L l.out.fQn);clear K L l aH;go_wp2;exact⟨⟨z+1,by omega,by simp,an,bz⟩,by simp[intOf];omega⟩
                  · have t5:decide ((z:Int)<G)=false:=by simp;omega
                    have aZ:=fQ (d.out.fQd (Req':=bXb r j (Y:Int) u 0) (fun x y h=>cJo (by rw[aU.out];omega) x y h));clear d;go_wp2_with fail;clear O Q V R S y1 F;go_loopw [19] (fun i wr=>∃ z:Nat,z<=mu/\i = .int .i64 z/\Hid (RK r k (bXb r j (Y:Int) u z) w1 gC (.slice ar k au) gs wr)/\Hid (Told wr wb (.slice A4 q c4) q (Live r))) (fun i _=>mu - (intOf i).toNat)
                    case atStart=>exact⟨0,by omega,rfl,aZ,IT⟩
                    case round=>
                      as_aux_lemma=>
                      clear aZ IT;obtain⟨I,a8,rfl,d,IT⟩:=hrel;have g:=U.out.below d.out.bel U.out.lt;obtain⟨O,Q,V,R,S⟩:=gQ g;have y1:=g.lt;have F:=fQ (E.out.trans (d.out.bel.mono E.out.size));obtain⟨b,o,B,kB,rfl,J,hcl,az⟩:=IT.out.first bI HU.out;rw[bw.out]at hcl az;rw[AZ]at hcl;have bm:=fQ az;have t9:(0:Int)<(q:Int):=(by omega);clear az g;by_cases cI:I<mu
                      · have t7:decide ((I:Int)<mu)=true:=by simp;omega
                        have t8:(I:Int)<mu:=(by omega);obtain⟨x,f⟩:∃ x,u[I]? = some x:=⟨_,Aj (by rw[bw.out];exact cI)⟩;have bD:=(HU.out.2 x).1 (Aq f);have al:=bD.range M.out;rw[HP.out]at al;obtain⟨A,rfl⟩:∃ z:Nat,x=z:=⟨x.toNat,by omega⟩;have aw:A<k:=(by omega);obtain⟨ob,oo,rfl,bo,aB⟩:=(a1.out.below F.out (Ax _)).cell HA.out;obtain⟨xb,xo,rfl,cZ,aA⟩:=bm.out.cell f;have HX:=fQ f;have W:=fQ (show Sall r (Y:Int) (A:Int)from .inr ⟨Aq HA.out,.inr bD⟩);clear f al bD;go_wp2_with fail;have l:=fQ (show RK r k _ w1 gC _ gs (wr.drew)from d.out.drew');have aH:=fQ (show Told (wr.drew) wb _ q (Live r)from IT.out.drew');go_still_tail 11,(by kernel_rfl);change wpList _ _ _ _ _ (wr.drew);generalize wr.drew=wd at l aH ⊢;clear d IT;go_wp2_with fail;refine(aWp r k _ w1 gC _ gs Y A _ l.out bY aw W.out).mono ?_;rintro en w6 ⟨rfl,K,L⟩;have an:=fQ (K (bXb r j (Y:Int) u (I+1)) (fun x y h=>dVe HX.out x y h));have bz:=fQ (aH.out.kept L l.out.fQn);clear K L l aH;go_wp2;exact⟨⟨I+1,by omega,by simp,an,bz⟩,by simp[intOf];omega⟩
                      · have t7:decide ((I:Int)<mu)=false:=by simp;omega
                        have cJ:=fQ (d.out.fQd (Req':=aZg r (j+1)) (fun x y h=>dQe HA.out (by rw[bw.out];omega) HU.out.2 x y h));clear d;go_wp2;exact⟨⟨j+1,by omega,by simp,cJ,IT⟩,by simp[intOf];omega⟩
              · as_aux_lemma=>
                have t3:decide ((j:Int)<G)=false:=(by simp;omega);obtain⟨T,aq,bZ⟩:=d.out;have HD:=fQ (fun a b (ha:a<k) (J:b<k)=>bZ.done M.out (fun x y h=>bYa (by rw[aU.out];omega) x y h) ha J);have cK:=fQ aq;have b0:=fQ (TolS.start wr (fun i=>Clashes r (i:Int)));have F:=fQ (E.out.trans (d.out.bel.mono E.out.size));clear aq bZ d IT;go_wp2;clear O Q V R S y1;obtain⟨w5,rfl⟩:∃ w5:AV,w5=wr:=⟨_,rfl⟩;go_loopw [20,21] (fun v i wr=>∃ z:Nat,z<=k/\i = .int .i64 z/\Hid (TolS w5 v z (fun i=>Clashes r (i:Int)) wr)) (fun _ i _=>k - (intOf i).toNat)
                case atStart=>exact⟨0,by omega,rfl,b0⟩
                case round=>
                  as_aux_lemma=>
                  clear b0;obtain⟨z,hz,rfl,IS⟩:=hrel;obtain⟨cL,cM,hv⟩:=IS.out.shape;subst hv;have aq:=cK.out.keep IS.out.below;have c0:=aq.c.cell 0;simp at c0;have y4:=aq.c.lt;have g:=U.out.below aq.b U.out.lt;obtain⟨O,Q,V,R,S⟩:=gQ g;have y1:=g.lt;clear g;by_cases b1:z<k
                  · have t5:decide ((z:Int)<k)=true:=by simp;omega
                    have t6:(z:Int)<k:=(by omega);obtain⟨b,o,C,kC,rfl,J,hc,hs⟩:=aq.t.tb.row b1;have W:=fQ hs;clear hs aq;go_wp2_with fail;refine(aVn _ k _ (T z) _ W.out ca).mono ?_;rintro en w3 ⟨u5,p,rfl,ho,aY,aQ,b2⟩;have cN:=fQ (show IsSet p (Clashes r (z:Int))from aVm (e:=e) (r:=r) aQ (fun q5 aR=>HD.out z q5 b1 aR) (fun x f=>by have:=f.range M.out;rw[HP.out]at this;exact this));have bE:=fQ (IS.out.keep b2);have HO:=fQ (jX ho IS.out.below.size);obtain⟨q5,aR⟩:∃ q,p.length=q:=⟨_,rfl⟩;obtain⟨A1,c1,e1,_⟩:=fW ho;subst e1;rw[aR]at ho HO aY ⊢;have HQ:=fQ aR;have cO:=fQ (iJ HO.out (.cells #[.slice A1 q5 c1] 23));have b3:=fQ (bE.out.keep ((Ak _ _).alloc (Ax _) (.cells #[.slice A1 q5 c1] 23)));have c3:=bE.out.below.size;obtain⟨cP,PP,b4,b5⟩:=b3.out.open;have b6:=fQ b4;have cQ:=fQ b5;clear ho aQ b2 aR b4 b5 b3 bE c0 y4 O Q V R S y1 hc J;go_wp2_with (at_builtin;refine jY _ rfl (.tmp 178) (.tmp 185) 44 rfl w5.heap.size 23 (.slice none 0 0) 1 24 underlying44 zX rfl (by omega) (.slice cL z cM) z cP rfl b6.out (some ⟨w3.heap.size,0,none⟩) 1 1 [.slice A1 q5 c1] rfl (Blk.fQc (cs:=#[.slice A1 q5 c1]) (Blk.newAt _ _ _ rfl) rfl) (aXw _ _ _) (by unfold maxLen;omega) (by omega) (by simp;omega) ?_);rintro v' w' g1 g2 g3 _;have cR:=fQ (TolS.fQw (u:=.slice A1 q5 c1) (p:=p) b6.out cQ.out (by rw[HQ.out];exact cO.out) cN.out g1 g2);clear g1 g2 g3;go_wp2;exact⟨⟨z+1,by omega,by simp,cR⟩,by simp[intOf];omega⟩
                  · have t5:decide ((z:Int)<k)=false:=by simp;omega
                    have bF:z=k:=(by omega);subst bF;clear aq;go_wp2;go_ret2;exact .inr ⟨M.out,_,rfl,by rw[b9.out];exact IS.out.told.mono F.out.size,F.out.trans (IS.out.below.mono F.out.size)⟩
end Go.Proofs.YtabibkpfgmolkaaGreat

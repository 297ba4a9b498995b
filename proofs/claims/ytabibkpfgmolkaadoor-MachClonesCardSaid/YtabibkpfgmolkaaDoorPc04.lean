/- Lemmas for the claim, part 4. Conditions: none. -/
import Derived.Test.YtabibkpfgmolkaaDoorPc03
import Derived.Deep.LoopGhost
import Derived.Shelf.Small.Bits
import Derived.Test.YtabibkpfgmolkaaDoorChecked
set_option maxRecDepth 100000
set_option maxHeartbeats 16000000
set_option linter.unusedVariables false
set_option linter.unusedSimpArgs false
open Go.Lib renaming hid→cQ
open Go.Proofs.Tryd renaming prog→cZ
open Go.Proofs.Tryd
open Go.RowKit
open List renaming getElem?_eq_getElem→Aj,getElem?_set_self→Az,eq_nil_or_concat→Aw,concat_eq_append→Ay,getElem?_set_ne→AJ,take_succ_eq_append_getElem→AQ,take_of_length_le→AX,mem_append_left→AK,mem_of_getElem?→AV,length_append→AW,length_cons→AY,length_nil→Aa,replicate→Ab
open Nat renaming le_refl→Ax,zero_add→Ad
open Bool renaming and_eq_true→Ak
open Array renaming replicate→AZ
open Go renaming World→Ae,Value→Af
open Go.RowKit renaming Below→Ah
namespace Go.Proofs.YtabibkpfgmolkaaDoor
structure FlowOk (r:RowD):Prop where
 n1:1<=r.code.length
 n2:r.code.length<=4096
 to:∀ (i:Nat) c,r.code[i]? = some c->(∀ x∈nextOf c i,0<=x/\x<r.code.length)/\(c.op=274->0<c.to.length)/\(nextOf c i).length<=66
theorem FlowOk.edges{r:RowD}(h:FlowOk r){i:Nat}{x:Int}(a:x∈edges r i):∃ k:Nat,x=k/\k<r.code.length:=by
 unfold _root_.Go.Proofs.YtabibkpfgmolkaaDoor.edges at a
 split at a
 ·rename_i c hc
  split at a
  ·simp at a
  ·have:=(h.to i c hc).1 x a;exact⟨x.toNat,by omega,by omega⟩
 ·simp at a
theorem yQ{r:RowD}(h:FlowOk r)(i:Nat):(edges r i).length<=66:=by
 unfold _root_.Go.Proofs.YtabibkpfgmolkaaDoor.edges
 split
 ·rename_i c hc
  split
  ·simp
  ·exact(h.to i c hc).2.2
 ·simp
theorem RInv.rest{r:RowD}{st:List Int}{stk:Stk}{D:List Nat}(h:RInv r st stk D){e:Nat×List Int}(he:e∈stk){x:Int}(a:x∈e.2):x∈edges r e.1:=by
 obtain⟨j,b⟩:=List.mem_iff_getElem?.1 he;obtain⟨proc,h1,_⟩:=h.ent j e b;rw[h1];simp[a]
def cJj(r:RowD)(w:Ae)(en:Ending)(w':Ae):Prop:=∃ b:Bool,en = .returned (.bool b)/\(b=true↔¬Ranked r)/\Ah w.heap.size w w'
def aZd(r:RowD)(base bR bS bK gS:Nat)(rv:Array Af)(w0:Ae)(k:Nat)(stk:Stk)(st:List Int)(D:List Nat)(v:Af)(vs:List Af)(wr:Ae):Prop:=
 RM wr base bR bS bK gS rv st stk v vs/\RInv r st stk D/\(∀ j,j<k->j∈D)/\Ah base w0 wr
theorem bKh(r:RowD)(vr:Af)(w:Ae)(hr:RowV w vr r)(hf:FlowOk r):Calls cZ 52 #[vr] w (cJj r w):=by
 have HR:=cQ hr;have f:=cQ hf;have aQ:=hf.n2;obtain⟨vp,vq,vr,vs,rfl,h4,h5,h6,h7⟩:=hr;obtain⟨Ap,cp,rfl⟩:=h4.shape;obtain⟨Aq,cq,rfl⟩:=h5.shape;obtain⟨Ar,cr,rfl⟩:=h6.shape;obtain⟨Ac,cc,rfl,_⟩:=h7.len;obtain⟨n,hn⟩:=cX r.code.length;rw[hn]at HR aQ ⊢;have d:=cQ hn;have aR:=bJs (P:=cZ) 23 3 (.int .i64 0) 8 underlying23 aZv rfl n (by omega) (by omega);clear h4 h5 h6 h7 hf hn;go_in;go_wp2;clear aR;obtain⟨rv,ay⟩:∃ rv:Array Af,rv=#[.slice Ap r.sig.inn.length cp,.slice Aq r.sig.out.length cq,.int .i64 r.places,.slice Ar r.params.length cr,.slice Ac n cc]:=⟨_,rfl⟩;have aX:=cQ ay;have aM:Ah w.heap.size w ((((w.alloc (.cells rv 45)).alloc (.cells (AZ n (.int .i64 0)) 3)).alloc (.cells #[.slice (some ⟨w.heap.size+1,0,none⟩) n n] 23)).alloc (.cells #[.slice none 0 0] 125)):=al4 _ _ _ _ _
 have aN:aZd r w.heap.size w.heap.size (w.heap.size+1+1) (w.heap.size+1+1+1) (w.heap.size+1) rv w 0 [] (Ab n 0) [] (.slice none 0 0) [] ((((w.alloc (.cells rv 45)).alloc (.cells (AZ n (.int .i64 0)) 3)).alloc (.cells #[.slice (some ⟨w.heap.size+1,0,none⟩) n n] 23)).alloc (.cells #[.slice none 0 0] 125)):=by
  refine⟨{ r:=?_,s:=?_,t:=?_,k:=?_,own:=World.ownsRow_nil _ _ _ _,ent:=?_,lR:=by omega,lS:=by omega,lT:=by omega,lK:=by omega,o1:=by simp[Value.ownBlock] },?_,(fun j hj=>by omega),aM⟩
  ·exact(((Blk.new w _ _).alloc _).alloc _).alloc _
  ·rw[List.length_replicate];exact(at3 _ _ _ _ _).alloc _
  ·have e:(i64s (Ab n 0)).toArray=AZ n (.int .i64 0):=(by simp[i64s]);rw[e];exact((Blk.newAt _ _ _ (by simp)).alloc _).alloc _
  ·exact at4 _ _ _ _ _ _
  ·intro j u e h;simp at h
  ·have:=RInv.start (r:=r)
   rwa[d.out]at this
 have aO:=cQ aN;clear aN aM;rw[<-ay]at HR ⊢;clear ay;go_loopw [18] (fun i wr=>∃ (k:Nat) (st:List Int) (D:List Nat) (v:Af) (vs:List Af),k<=n/\i = .int .i64 k/\Hid (aZd r w.heap.size w.heap.size (w.heap.size+1+1) (w.heap.size+1+1+1) (w.heap.size+1) rv w k [] st D v vs wr)) (fun i _=>n - (intOf i).toNat)
 case atStart=>exact⟨0,_,_,_,_,by omega,rfl,aO⟩
 case round=>
  clear aO;obtain⟨wo,rfl⟩:∃ wo:Ae,wo=wr:=⟨_,rfl⟩;obtain⟨k,st,D,v,vs,hk,rfl,IM⟩:=hrel;by_cases ax:k<n
  ·have az:decide ((k:Int)<n)=true:=(by simp;omega);have aS:(k:Int)<n:=(by omega);obtain⟨c,hc⟩:∃ c,r.code[k]? = some c:=⟨_,Aj (by rw[d.out];exact ax)⟩;have HC:=cQ hc;clear hc;go_wp2_with fail;refine(aXb r _ _ _ _ _ rv st [] v vs k c w _ IM.out.1 HR.out (Ax _) IM.out.2.2.2 HC.out IM.out.2.1.len (f.out.to k c HC.out).2.1 (f.out.to k c HC.out).2.2 (by simp) (by rw[d.out];omega)).mono ?_;rintro en w1 (⟨K,v',aT,rfl,C,hb⟩ | ⟨x,o,aP,rfl,rfl⟩)
   ·have L:=cQ (show aZd r w.heap.size w.heap.size (w.heap.size+1+1) (w.heap.size+1+1+1) (w.heap.size+1) rv w k [(k,edges r k)] (st.set k 1) D v' aT w1 from⟨by simpa using C,by simpa using IM.out.2.1.open K (fun e he=>by simp at he),IM.out.2.2.1,IM.out.2.2.2.trans hb⟩);have M:=cQ (show(st.set k 1)[k]? ≠ some 0 by rw[Az (by rw[IM.out.2.1.len,d.out];exact ax)];simp);obtain⟨aA,N⟩:=cX (st.set k 1);obtain⟨O,ae⟩:∃ O:Stk,[(k,edges r k)]=O:=⟨_,rfl⟩;rw[N,ae]at L;rw[N]at M;clear C hb K N ae IM;go_wp2;go_loopg [] (muS aA O) (fun g wi=>∃ (stk:Stk) (st:List Int) (D:List Nat) (v:Af) (vs:List Af),Hid (aZd r w.heap.size w.heap.size (w.heap.size+1+1) (w.heap.size+1+1+1) (w.heap.size+1) rv w k stk st D v vs wi)/\Hid (st[k]? ≠ some 0)/\Hid (muS st stk=g))
    case atStart=>exact⟨_,_,_,_,_,L,M,cQ rfl⟩
    case round=>
     clear L M;obtain⟨stk,st,D,v,vs,a,E,Q⟩:=hrel;have R:=a.out.2.1.len;rw[d.out]at R;have F:=cQ R;clear R;rcases Aw stk with rfl | ⟨S,e,rfl⟩
     ·obtain⟨Av,G,hv,_⟩:=cJ a.out.1.own;subst hv;have H:=a.out.1.k.cell 0;simp at H;have sK:=a.out.1.k.lt;go_wp2;refine⟨⟨k+1,st,D,_,vs,by omega,by simp,cQ ⟨a.out.1,a.out.2.1,fun j hj=>?_,a.out.2.2.2⟩⟩,by simp[intOf];omega⟩;by_cases aB:j=k
      ·subst aB;obtain⟨x,o⟩:∃ x,st[j]? = some x:=⟨_,Aj (by rw[F.out];exact ax)⟩;rcases a.out.2.1.vals j x o with h | h | h
       ·subst h;exact absurd o E.out
       ·subst h;have:=(a.out.2.1.one j).1 o;simp at this
       ·subst h;exact(a.out.2.1.two j).1 o
      ·exact a.out.2.2.1 j (by omega)
     ·rw[Ay]at *;obtain⟨t,rest⟩:=e;obtain⟨gk,G,g,c,rfl,f1,f2,f3,f4,f5,f6,f7,f8,q,f10,f11,f12,f13,f14,f15,f16,f17,f18⟩:=a.out.1.top;have H:=a.out.1.k.cell 0;have cS:=a.out.1.s.cell 0;simp at H cS;rw[F.out]at cS;have sK:=a.out.1.k.lt;have sS:=a.out.1.s.lt;have sT:=a.out.1.t.lt;have zK:=frz a.out.1.k 0;have aC:t<n:=(by have:=a.out.2.1.lt (e:=(t,rest)) (by simp);rw[d.out]at this;exact this);have aD:(t:Int)<(n:Int):=(by omega);have T:st[t]? = some 1:=(a.out.2.1.one t).2 (by simp);have cT:=aKo a.out.1.t T;have zT:=frz a.out.1.t t;obtain⟨m,C⟩:=cX S.length;have F9:=cQ q;rw[C]at f1 q f10 H;have aU:m+1<=4096:=(by have:=a.out.2.1.small;rw[d.out]at this;simp at this;omega);have U:=cQ C;have aE:=cQ T;have ao:=cQ f12;have q1:gk≠w.heap.size+1:=f6;have aV:m<G:=(by omega);have aF:(m:Int)<(G:Int):=(by omega);have aG:(m:Int)+1<=(G:Int):=(by omega);clear C T f12 f13;rcases Aw rest with rfl | ⟨b,x,rfl⟩
      ·have I:=ao.out.at_ (k:=0) (by simp);simp[i64s,ints']at I;simp at q f11;go_wp2_with fail;go_region;have P1:=cQ (a.out.1.put t 2);go_wp2;go_roundg (muS (st.set t 2) S)
       case measure=>rw[<-Q.out];exact bJv aE.out
       case rel=>
        have aq:=P1.out.pop;rw[U.out]at aq;refine⟨S,st.set t 2,D ++ [t],_,_,cQ ⟨aq.drew,a.out.2.1.pop,fun j hj=>AK _ (a.out.2.2.1 j hj),(((a.out.2.2.2).setCell (p:=⟨w.heap.size+1,t,none⟩) a.out.1.lT _).setCell (p:=⟨w.heap.size+1+1+1,0,none⟩) a.out.1.lK _).drew⟩,cQ ?_,cQ rfl⟩;by_cases e:t=k
        ·subst e;rw[Az (by rw[F.out];exact aC)];simp
        ·rw[AJ e];exact E.out
      ·rw[Ay]at *;have I:=ao.out.at_ (k:=b.length+1) (by simp);have e2:(i64s (ints' (t,b ++ [x])))[b.length+1]? = some (.int .i64 x):=(by simp[i64s,ints']);rw[Aj (by simp[i64s,ints'])]at e2;injection e2 with e2;rw[e2,Ad]at I;simp only[AW,AY,Aa]at q f11;obtain⟨l,V⟩:=cX b.length;rw[V]at I q f11
       have hle:l<=66:=by
        have h1:=yQ f.out t;obtain⟨proc,h2,_⟩:=a.out.2.1.ent S.length (t,b ++ [x]) (by simp);rw[h2]at h1;simp at h1;omega
       obtain⟨y,hy,W⟩:=f.out.edges (a.out.2.1.rest (e:=(t,b ++ [x])) (by simp) (x:=x) (by simp));subst hy;rw[d.out]at W;have aH:=cQ V;clear V e2;obtain⟨A,ar⟩:∃ A,r.code[y]? = some A:=⟨_,Aj (by rw[d.out];exact W)⟩;have X:=cQ ar;have Y:=cQ (a.out.1.shrink F9.out);rw[U.out,aH.out]at Y;have J:=cQ ((a.out.2.2.2).setCell (p:=⟨gk,m,none⟩) f3 (.slice (some ⟨g,0,none⟩) (l+1) c));clear ar;go_wp2_with fail;refine(aXb r _ _ _ _ _ rv st (S ++ [(t,b)]) _ _ y A w _ Y.out HR.out (Ax _) J.out X.out a.out.2.1.len (f.out.to y A X.out).2.1 (f.out.to y A X.out).2.2 (by simp[U.out];omega) (by rw[d.out];omega)).mono ?_;rintro en w3 (⟨K,v3,aW,rfl,au,aw⟩ | ⟨z,B,Z,rfl,rfl⟩)
       ·have aI:=cQ au;have aJ:=cQ (J.out.trans aw);have H0:=cQ K;clear au aw K;go_wp2;go_roundg (muS (st.set y 1) (S ++ [(t,b)] ++ [(y,edges r y)]))
        case measure=>rw[<-Q.out];exact aWx H0.out (yQ f.out y)
        case rel=>
         refine⟨_,_,D,_,_,cQ ⟨aI.out,a.out.2.1.fresh H0.out,a.out.2.2.1,aJ.out⟩,cQ ?_,cQ rfl⟩;by_cases e:y=k
         ·subst e;rw[Az (by rw[F.out];exact W)];simp
         ·rw[AJ e];exact E.out
       ·rcases a.out.2.1.vals y z B with h | h | h
        ·exact absurd h Z
        ·subst h;have aK:=cQ (a.out.2.1.cYm B);rw[show((1:Int) == 1)=true from rfl];clear B Z;go_wp2;go_ret;exact⟨true,rfl,⟨(fun _=>aK.out),(fun _=>rfl)⟩,J.out⟩
        ·subst h;have aL:=cQ (a.out.2.1.skip B);rw[show((2:Int) == 1)=false from rfl];clear B Z;go_wp2;go_roundg (muS st (S ++ [(t,b)]))
         case measure=>rw[<-Q.out];exact bXj
         case rel=>exact⟨_,_,D,_,_,cQ ⟨Y.out,aL.out,a.out.2.2.1,J.out⟩,E,cQ rfl⟩
   ·have L:=cQ (show aZd r w.heap.size w.heap.size (w.heap.size+1+1) (w.heap.size+1+1+1) (w.heap.size+1) rv w k [] st D v vs wo from IM.out);have M:=cQ (show st[k]? ≠ some 0 by rw[o];intro e;injection e with e;exact aP e);obtain⟨aA,N⟩:=cX st;obtain⟨O,ae⟩:∃ O:Stk,[]=O:=⟨_,rfl⟩;rw[N,ae]at L;rw[N]at M;obtain⟨y,hy⟩:∃ y:Bool,(x == 1)=y:=⟨_,rfl⟩;rw[hy];clear o aP N ae IM hy;go_wp2;go_loopg [] (muS aA O) (fun g wi=>∃ (stk:Stk) (st:List Int) (D:List Nat) (v:Af) (vs:List Af),Hid (aZd r w.heap.size w.heap.size (w.heap.size+1+1) (w.heap.size+1+1+1) (w.heap.size+1) rv w k stk st D v vs wi)/\Hid (st[k]? ≠ some 0)/\Hid (muS st stk=g))
    case atStart=>exact⟨_,_,_,_,_,L,M,cQ rfl⟩
    case round=>
     clear L M;obtain⟨stk,st,D,v,vs,a,E,Q⟩:=hrel;have R:=a.out.2.1.len;rw[d.out]at R;have F:=cQ R;clear R;rcases Aw stk with rfl | ⟨S,e,rfl⟩
     ·obtain⟨Av,G,hv,_⟩:=cJ a.out.1.own;subst hv;have H:=a.out.1.k.cell 0;simp at H;have sK:=a.out.1.k.lt;go_wp2;refine⟨⟨k+1,st,D,_,vs,by omega,by simp,cQ ⟨a.out.1,a.out.2.1,fun j hj=>?_,a.out.2.2.2⟩⟩,by simp[intOf];omega⟩;by_cases aB:j=k
      ·subst aB;obtain⟨x,o⟩:∃ x,st[j]? = some x:=⟨_,Aj (by rw[F.out];exact ax)⟩;rcases a.out.2.1.vals j x o with h | h | h
       ·subst h;exact absurd o E.out
       ·subst h;have:=(a.out.2.1.one j).1 o;simp at this
       ·subst h;exact(a.out.2.1.two j).1 o
      ·exact a.out.2.2.1 j (by omega)
     ·rw[Ay]at *;obtain⟨t,rest⟩:=e;obtain⟨gk,G,g,c,rfl,f1,f2,f3,f4,f5,f6,f7,f8,q,f10,f11,f12,f13,f14,f15,f16,f17,f18⟩:=a.out.1.top;have H:=a.out.1.k.cell 0;have cS:=a.out.1.s.cell 0;simp at H cS;rw[F.out]at cS;have sK:=a.out.1.k.lt;have sS:=a.out.1.s.lt;have sT:=a.out.1.t.lt;have zK:=frz a.out.1.k 0;have aC:t<n:=(by have:=a.out.2.1.lt (e:=(t,rest)) (by simp);rw[d.out]at this;exact this);have aD:(t:Int)<(n:Int):=(by omega);have T:st[t]? = some 1:=(a.out.2.1.one t).2 (by simp);have cT:=aKo a.out.1.t T;have zT:=frz a.out.1.t t;obtain⟨m,C⟩:=cX S.length;have F9:=cQ q;rw[C]at f1 q f10 H;have aU:m+1<=4096:=(by have:=a.out.2.1.small;rw[d.out]at this;simp at this;omega);have U:=cQ C;have aE:=cQ T;have ao:=cQ f12;have q1:gk≠w.heap.size+1:=f6;have aV:m<G:=(by omega);have aF:(m:Int)<(G:Int):=(by omega);have aG:(m:Int)+1<=(G:Int):=(by omega);clear C T f12 f13;rcases Aw rest with rfl | ⟨b,x,rfl⟩
      ·have I:=ao.out.at_ (k:=0) (by simp);simp[i64s,ints']at I;simp at q f11;go_wp2_with fail;go_region;have P1:=cQ (a.out.1.put t 2);go_wp2;go_roundg (muS (st.set t 2) S)
       case measure=>rw[<-Q.out];exact bJv aE.out
       case rel=>
        have aq:=P1.out.pop;rw[U.out]at aq;refine⟨S,st.set t 2,D ++ [t],_,_,cQ ⟨aq.drew,a.out.2.1.pop,fun j hj=>AK _ (a.out.2.2.1 j hj),(((a.out.2.2.2).setCell (p:=⟨w.heap.size+1,t,none⟩) a.out.1.lT _).setCell (p:=⟨w.heap.size+1+1+1,0,none⟩) a.out.1.lK _).drew⟩,cQ ?_,cQ rfl⟩;by_cases e:t=k
        ·subst e;rw[Az (by rw[F.out];exact aC)];simp
        ·rw[AJ e];exact E.out
      ·rw[Ay]at *;have I:=ao.out.at_ (k:=b.length+1) (by simp);have e2:(i64s (ints' (t,b ++ [x])))[b.length+1]? = some (.int .i64 x):=(by simp[i64s,ints']);rw[Aj (by simp[i64s,ints'])]at e2;injection e2 with e2;rw[e2,Ad]at I;simp only[AW,AY,Aa]at q f11;obtain⟨l,V⟩:=cX b.length;rw[V]at I q f11
       have hle:l<=66:=by
        have h1:=yQ f.out t;obtain⟨proc,h2,_⟩:=a.out.2.1.ent S.length (t,b ++ [x]) (by simp);rw[h2]at h1;simp at h1;omega
       obtain⟨y,hy,W⟩:=f.out.edges (a.out.2.1.rest (e:=(t,b ++ [x])) (by simp) (x:=x) (by simp));subst hy;rw[d.out]at W;have aH:=cQ V;clear V e2;obtain⟨A,ar⟩:∃ A,r.code[y]? = some A:=⟨_,Aj (by rw[d.out];exact W)⟩;have X:=cQ ar;have Y:=cQ (a.out.1.shrink F9.out);rw[U.out,aH.out]at Y;have J:=cQ ((a.out.2.2.2).setCell (p:=⟨gk,m,none⟩) f3 (.slice (some ⟨g,0,none⟩) (l+1) c));clear ar;go_wp2_with fail;refine(aXb r _ _ _ _ _ rv st (S ++ [(t,b)]) _ _ y A w _ Y.out HR.out (Ax _) J.out X.out a.out.2.1.len (f.out.to y A X.out).2.1 (f.out.to y A X.out).2.2 (by simp[U.out];omega) (by rw[d.out];omega)).mono ?_;rintro en w3 (⟨K,v3,aW,rfl,au,aw⟩ | ⟨z,B,Z,rfl,rfl⟩)
       ·have aI:=cQ au;have aJ:=cQ (J.out.trans aw);have H0:=cQ K;clear au aw K;go_wp2;go_roundg (muS (st.set y 1) (S ++ [(t,b)] ++ [(y,edges r y)]))
        case measure=>rw[<-Q.out];exact aWx H0.out (yQ f.out y)
        case rel=>
         refine⟨_,_,D,_,_,cQ ⟨aI.out,a.out.2.1.fresh H0.out,a.out.2.2.1,aJ.out⟩,cQ ?_,cQ rfl⟩;by_cases e:y=k
         ·subst e;rw[Az (by rw[F.out];exact W)];simp
         ·rw[AJ e];exact E.out
       ·rcases a.out.2.1.vals y z B with h | h | h
        ·exact absurd h Z
        ·subst h;have aK:=cQ (a.out.2.1.cYm B);rw[show((1:Int) == 1)=true from rfl];clear B Z;go_wp2;go_ret;exact⟨true,rfl,⟨(fun _=>aK.out),(fun _=>rfl)⟩,J.out⟩
        ·subst h;have aL:=cQ (a.out.2.1.skip B);rw[show((2:Int) == 1)=false from rfl];clear B Z;go_wp2;go_roundg (muS st (S ++ [(t,b)]))
         case measure=>rw[<-Q.out];exact bXj
         case rel=>exact⟨_,_,D,_,_,cQ ⟨Y.out,aL.out,a.out.2.2.1,J.out⟩,E,cQ rfl⟩
  ·have az:decide ((k:Int)<n)=false:=(by simp;omega);have HD:=cQ (show Ranked r from IM.out.2.1.done.cYt (fun i hi=>IM.out.2.2.1 i (by rw[d.out]at hi;omega)));go_wp2;go_ret;exact⟨false,rfl,⟨(fun h=>by cases h),(fun h=>absurd HD.out h)⟩,IM.out.2.2.2⟩
theorem Structs.cYu{w:Ae}{g:Nat}{t:TypeId}{p q:Af}{s:SigD}(h:Blk w g t #[p,q])(h1:Ints w p s.inn)(h2:Ints w q s.out):Structs 2 SigC w (.slice (some ⟨g,0,none⟩) 1 1) [s]:=by
 refine⟨some ⟨g,0,none⟩,1,[[p,q]],rfl,by simp,(fun e=>by cases e),by simp,rfl,by simp,fun i r x q1 a=>?_,?_⟩
 ·match i,q1,a with
  | 0,q1,a=>
   simp at q1 a;subst q1;subst a;exact⟨p,q,rfl,h1,h2⟩
 ·have:=h.src 2 (by simp)
  simpa using this
def aWz(s:SigD):EnvD:=⟨[s],0,[],[],false⟩
theorem cXo(s:SigD):envOk (aWz s)=sigOk s:=by
 simp[envOk,aWz,hZ]
theorem cJe{w:Ae}{g:Nat}{t:TypeId}{p q:Af}{s:SigD}(h:Blk w g t #[p,q])(h1:Ints w p s.inn)(h2:Ints w q s.out):EnvV w (.agg #[.slice (some ⟨g,0,none⟩) 1 1,.int .i64 0,.slice none 0 0,.slice none 0 0,.bool false]) (aWz s):=
 ⟨_,_,_,rfl,Structs.cYu h h1 h2,Ints.nil w,⟨none,0,rfl,Src.nil _ _,Ax _,fun _=>rfl,by simp[aWz]⟩⟩
def aZc(op:Int):Bool:=decide (op ∈ [(273:Int),275,276,277])
theorem aXc(op:Int):aZc op=true↔(op=273\/op=275\/op=276\/op=277):=by simp[aZc]
theorem bJz{e:EnvD}{r:RowD}{c:CodeD}(h:codeOk e r c=true):(∀ x∈c.to,0<=x/\x<r.code.length)/\mJ c.op<=c.to.length/\(c.to.length:Int)<=lY c.op:=by
 unfold codeOk at h
 split at h
 ·cases h
 ·simp only[Ak,decide_eq_true_eq]at h;obtain⟨⟨_,_,h1,h2⟩,_,_,_,a⟩:=h;refine⟨fun x b=>?_,h1,h2⟩;have:=List.all_eq_true.1 a x b
  simpa using this
theorem cXp{e:EnvD}{r:RowD}(n1:1<=r.code.length)(n2:r.code.length<=4096)(hc:∀ c∈r.code,codeOk e r c=true)(g:∀ c,r.code[r.code.length - 1]? = some c->aZc c.op=true):FlowOk r:=by
 refine⟨n1,n2,fun i c hi=>?_⟩;obtain⟨h1,h2,h3⟩:=bJz (hc c (AV hi));have ae:=(List.getElem?_eq_some_iff.1 hi).1
 have j:aZc c.op=false->(i:Int)+1<r.code.length:=by
  intro he;by_cases k:i=r.code.length - 1
  ·rw[k]at hi;have:=g c hi;rw[he]at this;cases this
  ·omega
 have d:c.op=274->0<c.to.length:=by
  intro e;rw[e]at h2;simp[mJ]at h2;omega
 have af:c.to.length<=65:=by
  have:lY c.op<=65:=(by unfold lY;split;omega;split <;> omega);omega
 refine⟨fun x b=>?_,d,?_⟩
 ·unfold nextOf at b
  split at b
  ·simp at b
  ·rename_i q1
   split at b
   ·exact h1 x b
   ·rename_i q2
    have he:aZc c.op=false:=by
     rw[Bool.eq_false_iff];intro h;rw[aXc]at h;omega
    have:=j he
    split at b
    ·rename_i m;simp at b;rcases b with b | b
     ·omega
     ·have f:=d m
      cases hct:c.to with
      | nil=>rw[hct]at f;simp at f
      | cons a l=>
       rw[hct]at b;simp at b;subst b;exact h1 _ (by rw[hct];simp)
    ·simp at b;omega
 ·unfold nextOf
  split
  ·simp
  ·split
   ·omega
   ·split <;> simp
theorem bYb{e:EnvD}(h:envOk e=true):e.muts.length=e.globals.length:=by
 simp only[envOk,Ak,decide_eq_true_eq]at h;exact h.1.2.2.2
def ChkPost(e:EnvD)(r:RowD)(w:Ae)(en:Ending)(w':Ae):Prop:=∃ b:Bool,en = .returned (.bool b)/\(b=true↔CheckP e r)/\Ah w.heap.size w w'
theorem ChkPost.no{e:EnvD}{r:RowD}{w w':Ae}(h:¬CheckP e r)(a:Ah w.heap.size w w'):ChkPost e r w (.returned (.bool false)) w':=⟨false,rfl,⟨(fun h=>by cases h),(fun b=>absurd b h)⟩,a⟩
theorem bKa(e:EnvD)(r:RowD)(ve vr:Af)(w:Ae)(he:EnvV w ve e)(hr:RowV w vr r):Calls cZ 33 #[ve,vr] w (ChkPost e r w):=by
 have HE:=cQ he;have HR:=cQ hr;obtain⟨va,vb,vd,rfl,h1,h2,h3⟩:=he;obtain⟨As,cs,rfl,_⟩:=h1.len;obtain⟨Ag,cg,rfl⟩:=h2.shape;obtain⟨Am,cm,rfl,_⟩:=h3;obtain⟨vp,vq,vr,vs,rfl,h4,h5,O,P⟩:=hr;have H4:=cQ h4;have H5:=cQ h5;have H6:=cQ O;have H7:=cQ P;obtain⟨i,j,rfl⟩:=h4.shape;obtain⟨l,m,rfl⟩:=h5.shape;obtain⟨Ar,cr,rfl⟩:=O.shape;obtain⟨R,S,rfl,_⟩:=P.len;obtain⟨_,l6,aO⟩:=O.cWv;obtain⟨_,l7,aP⟩:=P.cWv;have an:=cQ (al2 w (.cells #[.slice As e.sigs.length cs,.int .i64 e.imports,.slice Ag e.globals.length cg,.slice Am e.muts.length cm,.bool e.mem] 26) (.cells #[.slice i r.sig.inn.length j,.slice l r.sig.out.length m,.int .i64 r.places,.slice Ar r.params.length cr,.slice R r.code.length S] 45));have f:=cQ ((Blk.new w 26 #[.slice As e.sigs.length cs,.int .i64 e.imports,.slice Ag e.globals.length cg,.slice Am e.muts.length cm,.bool e.mem]).alloc (.cells #[.slice i r.sig.inn.length j,.slice l r.sig.out.length m,.int .i64 r.places,.slice Ar r.params.length cr,.slice R r.code.length S] 45));have g:=cQ (Blk.newAt (w.alloc (.cells #[.slice As e.sigs.length cs,.int .i64 e.imports,.slice Ag e.globals.length cg,.slice Am e.muts.length cm,.bool e.mem] 26)) (N:=w.heap.size+1) 45 #[.slice i r.sig.inn.length j,.slice l r.sig.out.length m,.int .i64 r.places,.slice Ar r.params.length cr,.slice R r.code.length S] (by simp));clear h1 h2 h4 h5 O P;go_in;go_wp2_with fail;refine(rW _ e _ (HE.out.below an.out (Ax _))).mono ?_;rintro en w1 ⟨rfl,T⟩;have a:=cQ (an.out.trans (T.mono an.out.size));have f:=cQ (f.out.below T f.out.lt);have g:=cQ (g.out.below T g.out.lt);clear T;obtain⟨o,s,u,x,y⟩:=dZ g.out;obtain⟨z,B,C,D,E⟩:=dZ f.out;have F:=f.out.lt;have G:=g.out.lt
 cases U:envOk e with
 | false=>
  have Q:=cQ U;clear U;go_wp2;go_ret;exact ChkPost.no (fun d=>by have:=d.env;rw[Q.out]at this;cases this) a.out
 | true=>
  have Q0:=cQ U;clear U;have V:=cQ (a.out.alloc a.out.size (.cells #[.slice i r.sig.inn.length j,.slice l r.sig.out.length m] 42));have ax:=cQ (f.out.alloc (.cells #[.slice i r.sig.inn.length j,.slice l r.sig.out.length m] 42));have ay:=cQ (g.out.alloc (.cells #[.slice i r.sig.inn.length j,.slice l r.sig.out.length m] 42));go_wp2_with fail;refine(rW _ (aWz r.sig) _ (cJe (Blk.new w1 42 #[.slice i r.sig.inn.length j,.slice l r.sig.out.length m]) (H4.out.below V.out (Ax _)) (H5.out.below V.out (Ax _)))).mono ?_;rintro en w2 ⟨rfl,W⟩;rw[cXo];have a:=cQ (V.out.trans (W.mono V.out.size));have f:=cQ (ax.out.below W ax.out.lt);have g:=cQ (ay.out.below W ay.out.lt);clear W;clear o s u x y z B C D E F G;obtain⟨o,s,u,x,y⟩:=dZ g.out;obtain⟨z,B,C,D,E⟩:=dZ f.out;have F:=f.out.lt;have G:=g.out.lt
  cases q1:sigOk r.sig with
  | false=>
   have Q:=cQ q1;clear q1;go_wp2;go_ret;exact ChkPost.no (fun d=>by have:=d.sig;rw[Q.out]at this;cases this) a.out
  | true=>
   have Q1:=cQ q1;clear q1;by_cases H:r.code.length=0
   ·have g2:((r.code.length:Int) == 0)=true:=(by rw[H];rfl);have aC:(r.code.length == 0)=true:=(by rw[H];rfl);have aD:r.code = []:=List.eq_nil_of_length_eq_zero H;have Q:=cQ H;clear H;go_wp2;go_ret;exact ChkPost.no (fun d=>by have:=d.n1;rw[Q.out]at this;omega) a.out
   have g2:((r.code.length:Int) == 0)=false:=(by rw[beq_eq_false_iff_ne];omega);have aC:(r.code.length == 0)=false:=(by rw[beq_eq_false_iff_ne];omega);have aD:¬r.code = []:=fun e=>H (by rw[e];rfl);have aE:1<=r.code.length:=(by omega);by_cases q3:4096<r.code.length
   ·have g3:decide (4096<(r.code.length:Int))=true:=(by simp;omega);go_wp2;go_ret;exact ChkPost.no (fun d=>by have:=d.n2;omega) a.out
   have g3:decide (4096<(r.code.length:Int))=false:=(by simp;omega);have aF:r.code.length<=4096:=(by omega);by_cases q4:r.places<0
   ·have g4:decide (r.places<0)=true:=(by simpa using q4);go_wp2;go_ret;exact ChkPost.no (fun d=>by have:=d.p1;omega) a.out
   have g4:decide (r.places<0)=false:=(by simpa using q4);by_cases q5:4096<r.places
   ·have g5:decide (4096<r.places)=true:=(by simpa using q5);go_wp2;go_ret;exact ChkPost.no (fun d=>by have:=d.p2;omega) a.out
   have g5:decide (4096<r.places)=false:=(by simpa using q5);by_cases X:r.params.length=r.sig.inn.length
   ·have g6:((r.params.length:Int) != (r.sig.inn.length:Int))=false:=(by simp;omega);have aG:(r.params.length != r.sig.inn.length)=false:=(by simp;omega);have Q6:=cQ X;clear X;go_wp2_with fail;refine(iJ r.places _ r.params _ (H6.out.ir.below a.out (Ax _)) (by omega)).mono ?_;rintro en w3 ⟨rfl,Y⟩;have a:=cQ (a.out.trans (Y.mono a.out.size));have f:=cQ (f.out.below Y f.out.lt);have g:=cQ (g.out.below Y g.out.lt);clear Y;clear o s u x y z B C D E F G;obtain⟨o,s,u,x,y⟩:=dZ g.out;obtain⟨z,B,C,D,E⟩:=dZ f.out;have F:=f.out.lt;have G:=g.out.lt
    cases Z:within r.places r.params with
    | false=>
     have Q:=cQ Z;clear Z;go_wp2;go_ret;exact ChkPost.no (fun d=>by have:=d.pin;rw[Q.out]at this;cases this) a.out
    | true=>
     have Q7:=cQ Z;clear Z;go_wp2_with fail;refine(uW _ r.params _ (H6.out.ir.below a.out (Ax _)) (by omega) (fun A n c h=>by injection h with e1 e2 e3;omega)).mono ?_;rintro en w4 ⟨rfl,rfl⟩;by_cases I:r.params.Nodup
     ·rw[decide_eq_true I];have Q8:=cQ I;clear I;go_wp2_with fail;refine(aWj R r.code.length S r.code (fun c=>!codeOk e r c) w.heap.size (w.heap.size+1) _ (H7.out.below a.out (Ax _) (fun _ _ h=>h.below a.out (Ax _))) (by omega) (fun c hc v w' J hv=>bZn e r c _ _ v v v _ _ w' (HE.out.below (a.out.trans (J.mono a.out.size)) (Ax _)) (HR.out.below (a.out.trans (J.mono a.out.size)) (Ax _)) hv (bYb Q0.out) (f.out.below J f.out.lt) (g.out.below J g.out.lt))).mono ?_;rintro en w5 ⟨rfl,ai⟩;have a:=cQ (a.out.trans (ai.mono a.out.size));have f:=cQ (f.out.below ai f.out.lt);have g:=cQ (g.out.below ai g.out.lt);clear ai;clear o s u x y z B C D E F G;obtain⟨o,s,u,x,y⟩:=dZ g.out;obtain⟨z,B,C,D,E⟩:=dZ f.out;have F:=f.out.lt;have G:=g.out.lt
      cases q9:r.code.any (fun c=>!codeOk e r c)with
      | true=>
       have Q:=cQ q9;clear q9;go_wp2;go_ret;exact ChkPost.no (fun d=>by obtain⟨c,h1,h2⟩:=List.any_eq_true.1 Q.out;rw[d.code c h1]at h2;cases h2) a.out
      | false=>
       have Q9:=cQ (show ∀ c∈r.code,codeOk e r c=true from fun c hc=>by have:=List.any_eq_false.1 q9 c hc;simpa using this);clear q9;have aH:(0:Int)<(r.code.length:Int):=(by omega);have aI:0<r.code.length:=(by omega);obtain⟨K,ao⟩:∃ K,r.code[0]? = some K:=⟨_,Aj (by omega)⟩;obtain⟨c1,aq⟩:∃ c1,r.code[r.code.length - 1]? = some c1:=⟨_,Aj (by omega)⟩;have ar:=H7.out.below a.out (Ax _) (fun _ _ h=>h.below a.out (Ax _));obtain⟨gb,go,p,q,t,eA,aQ,m0,_⟩:=ar.code ao;obtain⟨aR,aS,p',q',t',au,aJ,m1,_⟩:=ar.code aq;subst eA;injection au with au;injection au with e1 e2;subst e1;subst e2;obtain⟨k,hk⟩:∃ k,r.code.length=k+1:=⟨r.code.length - 1,by omega⟩;rw[hk]at m1;simp only[Nat.add_sub_cancel,Nat.zero_mul,Nat.add_zero]at m0 m1;have aT:(k:Int)<(r.code.length:Int):=(by omega);have aK:k<r.code.length:=(by omega);have aU:(r.code.length:Int) - 1=(k:Int):=(by omega);have aV:((r.code.length:Int) - 1).toNat=k:=(by omega);have C0:=cQ ao;have C1:=cQ aq;have HK:=cQ hk;clear ao aq ar hk;by_cases L:K.op=258
       ·have g10:(K.op == 258)=true:=(by simpa using L);have aw:=cQ L;clear L;have aj:=cQ (a.out.alloc a.out.size (.cells #[.int .i64 273,.int .i64 275,.int .i64 276,.int .i64 277] 3));have aW:=cQ (f.out.alloc (.cells #[.int .i64 273,.int .i64 275,.int .i64 276,.int .i64 277] 3));have aX:=cQ (g.out.alloc (.cells #[.int .i64 273,.int .i64 275,.int .i64 276,.int .i64 277] 3));go_wp2_with fail;refine(wK _ [273,275,276,277] c1.op _ ⟨_,_,rfl,Blk.cWx (cs:=#[.int .i64 273,.int .i64 275,.int .i64 276,.int .i64 277]) (Blk.new _ _ _) rfl⟩ (by simp)).mono ?_;rintro en w6 ⟨rfl,rfl⟩
        cases M:aZc c1.op with
        | false=>
         have ak:=cQ M;rw[show decide (c1.op ∈ [(273:Int),275,276,277])=false from M];clear M;go_wp2;go_ret;exact ChkPost.no (fun d=>by have:=d.last c1 C1.out;rw[<-aXc,ak.out]at this;cases this) aj.out
        | true=>
         have ak:=cQ M;rw[show decide (c1.op ∈ [(273:Int),275,276,277])=true from M];clear M;have al:=cQ (show 1<=r.code.length/\r.code.length<=4096 from⟨aE,aF⟩);go_wp2_with fail;refine(bKh r _ _ (HR.out.below aj.out (Ax _)) (cXp al.out.1 al.out.2 Q9.out (fun c hc=>by rw[C1.out]at hc;injection hc with hc;rw[<-hc];exact ak.out))).mono ?_;rintro en w7 ⟨b,rfl,az,aA⟩;have aL:=cQ (aj.out.trans (aA.mono aj.out.size));have aB:=cQ az;clear aA az;go_wp2;go_ret;refine⟨!b,rfl,⟨fun J=>?_,fun d=>?_⟩,aL.out⟩
         ·have aM:¬b=true:=(by simpa using J);have aN:Ranked r:=Classical.byContradiction fun h=>aM (aB.out.2 h);exact⟨Q0.out,Q1.out,al.out.1,al.out.2,by omega,by omega,Q6.out,Q7.out,Q8.out,Q9.out,(fun c hc=>by rw[C0.out]at hc;injection hc with hc;rw[<-hc];exact aw.out),(fun c hc=>by rw[C1.out]at hc;injection hc with hc;rw[<-hc];exact(aXc _).1 ak.out),aN⟩
         ·cases b with
          | false=>rfl
          | true=>exact absurd d.rank (aB.out.1 rfl)
       ·have g10:(K.op == 258)=false:=(by simpa using L);have aw:=cQ L;clear L;go_wp2;go_ret;exact ChkPost.no (fun d=>aw.out (d.first K C0.out)) (a.out.alloc a.out.size _)
     ·rw[decide_eq_false I];have Q8:=cQ I;clear I;go_wp2;go_ret;exact ChkPost.no (fun d=>Q8.out d.pun) a.out
   ·have g6:((r.params.length:Int) != (r.sig.inn.length:Int))=true:=(by simp;omega);have aG:(r.params.length != r.sig.inn.length)=true:=(by simp;omega);have Q6:=cQ X;clear X;go_wp2;go_ret;exact ChkPost.no (fun d=>Q6.out d.par) a.out
end Go.Proofs.YtabibkpfgmolkaaDoor
namespace Go.Proofs
open Go.Shelf
def Tryd.dQn:Go.Shelf.Ren:=⟨fun | 128=>100 | n=>n,fun | 51=>93 | 3=>3 | 4=>4 | 46=>86 | 5=>5 | 9=>9 | n=>n,fun | n=>n⟩
def Tryd.dQl:Go.Shelf.Ren:=⟨fun | 133=>89 | 128=>100 | n=>n,fun | 51=>93 | 3=>3 | 4=>4 | 46=>86 | 5=>5 | 9=>9 | n=>n,fun | n=>n⟩
theorem Tryd.cYk:Go.Proofs.Lays.n133 cZ Tryd.dQl:={
 mixed:=by kernel_rfl
 f128:=Tryd.func100.trans (congrArg some (by kernel_rfl))
 f133:=Tryd.func89.trans (congrArg some (by kernel_rfl))
 t3:=underlying3
 a3:=isAgg3
 z3:=sizeOf3
 v3:=zeroValue3
 t4:=underlying4
 a4:=isAgg4
 z4:=sizeOf4
 v4:=zeroValue4
 t5:=underlying5
 a5:=isAgg5
 z5:=sizeOf5
 v5:=zeroValue5
 t9:=underlying9
 a9:=isAgg9
 z9:=sizeOf9
 v9:=zeroValue9
 t46:=underlying86
 a46:=isAgg86
 z46:=sizeOf86
 v46:=zeroValue86
 t51:=underlying93
 a51:=isAgg93
 z51:=sizeOf93
 v51:=zeroValue93 }
theorem Tryd.bits_LeadingZeros32(x:Int)(w:Ae)(a:0<=x)(h1:x<=4294967295):
  Calls cZ 89 #[.int .u32 x] w fun e w'=>e = .returned (.int .i64 (32 - (Lib.bitLen x.toNat:Int)))/\w'=w:=Any.bits_LeadingZeros32 Tryd.cYk x w a h1
def Tryd.dQm:Go.Shelf.Ren:=⟨fun | 134=>86 | 129=>99 | n=>n,fun | 53=>62 | 3=>3 | 4=>4 | 46=>86 | 5=>5 | 9=>9 | n=>n,fun | n=>n⟩
theorem Tryd.cYl:Go.Proofs.Lays.n134 cZ Tryd.dQm:={
 mixed:=by kernel_rfl
 f129:=Tryd.func99.trans (congrArg some (by kernel_rfl))
 f134:=Tryd.func86.trans (congrArg some (by kernel_rfl))
 t3:=underlying3
 a3:=isAgg3
 z3:=sizeOf3
 v3:=zeroValue3
 t4:=underlying4
 a4:=isAgg4
 z4:=sizeOf4
 v4:=zeroValue4
 t5:=underlying5
 a5:=isAgg5
 z5:=sizeOf5
 v5:=zeroValue5
 t9:=underlying9
 a9:=isAgg9
 z9:=sizeOf9
 v9:=zeroValue9
 t46:=underlying86
 a46:=isAgg86
 z46:=sizeOf86
 v46:=zeroValue86
 t53:=underlying62
 a53:=isAgg62
 z53:=sizeOf62
 v53:=zeroValue62 }
theorem Tryd.bits_LeadingZeros64(x:Int)(w:Ae)(a:0<=x)(h1:x<=18446744073709551615):
  Calls cZ 86 #[.int .u64 x] w fun e w'=>e = .returned (.int .i64 (64 - (Lib.bitLen x.toNat:Int)))/\w'=w:=Any.bits_LeadingZeros64 Tryd.cYl x w a h1
end Go.Proofs
namespace Go.Proofs.YtabibkpfgmolkaaDoor
end Go.Proofs.YtabibkpfgmolkaaDoor
namespace Go.Proofs.YtabibkpfgmolkaaDoor
def cKu(n:Nat)(f:Nat->Bool):List Bool:=(List.range n).map f
theorem aVe{m:Nat}{l:List Int}(h:hZ m l=true):l.length<=m:=by
 unfold hZ at h;simp only[Ak,decide_eq_true_eq]at h;exact h.1
theorem bXk{s:SigD}(h:sigOk s=true):s.inn.length<=8/\s.out.length<=8:=by
 unfold sigOk at h;simp only[Ak]at h;exact⟨aVe h.1,aVe h.2⟩
theorem bYc(op:Int):(fW op).length<=2:=by
 unfold fW
 split <;> (try split) <;> simp
theorem aVf{e:EnvD}{s:SigD}{op:Int}{n:Nat}{i o:List Int}(he:envOk e=true)(hs:sigOk s=true)(h:dJ e s op n=some (i,o)):i.length<=8/\o.length<=8:=by
 have h1:=bXk hs;unfold dJ at h
 split at h
 ·simp at h;obtain⟨rfl,rfl⟩:=h;simp
 split at h
 ·split at h <;> simp at h;obtain⟨rfl,rfl⟩:=h;simp
 split at h
 ·split at h <;> simp at h;obtain⟨rfl,rfl⟩:=h;simp
 split at h
 ·split at h <;> simp at h;obtain⟨rfl,rfl⟩:=h;simp
 split at h
 ·split at h <;> simp at h;obtain⟨rfl,rfl⟩:=h;exact⟨h1.2,by simp⟩
 split at h
 ·split at h <;> simp at h;obtain⟨rfl,rfl⟩:=h;simp
 split at h
 ·obtain⟨g,hg,h2⟩:=Option.map_eq_some_iff.1 h;injection h2 with h2 a;subst h2;subst a;unfold envOk at he;simp only[Ak,List.all_eq_true]at he;exact bXk (he.2.2 g (AV hg))
 split at h
 ·obtain⟨g,hg,h2⟩:=Option.map_eq_some_iff.1 h;injection h2 with h2 a;subst h2;subst a;simp
 split at h
 ·split at h
  ·simp at h;obtain⟨rfl,rfl⟩:=h;simp
  ·cases h
 split at h
 ·split at h <;> simp at h
  obtain⟨rfl,rfl⟩:=h;have:=bYc op;exact⟨by omega,by simp⟩
 ·unfold hY at h
  split at h
  ·cases h
  split at h
  ·split at h <;> simp at h;obtain⟨rfl,rfl⟩:=h;simp
  split at h
  ·split at h
   ·simp at h
    split at h <;> (injection h with h2 a;subst h2;subst a;simp)
   ·cases h
  ·split at h
   ·split at h <;> simp at h;obtain⟨rfl,rfl⟩:=h;simp
   split at h
   ·split at h <;> simp at h;obtain⟨rfl,rfl⟩:=h;simp
   ·cases h
section
variable {H:Type} {enc:TypeId×Af->H} {w:Ae}
theorem tX:iY enc cZ w 23 (fun w cs (l:List Int)=>∃ v,cs = [v]/\Ints w v l):=bXx underlying23 underlying3 (by kernel_rfl) (by kernel_rfl)
theorem bYe:iY enc cZ w 24 (fun w cs (l:List Bool)=>∃ v,cs = [v]/\Bools w v l):=bQb underlying24 underlying4 (by kernel_rfl) (show 1<=cZ.bytesOf 4 by decide +kernel)
theorem c1:cZ.cellsOf 23=1:=by kernel_rfl
theorem bKf:iY enc cZ w 42 SigC:=by
 intro fuel cs x h c;obtain⟨f,v0,d,g⟩:=eZ underlying42 h c 0 0 1 23 rfl tX rfl rfl c1;obtain⟨i,v1,e,j⟩:=eZ underlying42 h c 1 1 1 23 rfl tX rfl rfl c1;obtain⟨_,_,_,_,k,_,_⟩:=DataW.trod_struct underlying42 h;have l:cs.length=2:=k.trans (by kernel_rfl)
 match cs,l with
 | [a,b],_=>
  simp at d e;subst d;subst e;exact⟨⟨f,i⟩,_,_,rfl,g,j⟩
theorem cXq:iY enc cZ w 22 (fun w cs (l:List SigD)=>∃ v,cs = [v]/\Structs 2 SigC w v l):=by
 intro fuel cs x h a;obtain⟨l,v,e,hs,_⟩:=mK (enc:=enc) (w:=w) underlying22 (show cZ.cellsOf 42=2 by kernel_rfl) (by omega) (show 1<=cZ.bytesOf 42 by decide +kernel) bKf fuel cs x h a;exact⟨l,v,e,hs⟩
theorem yW:iY enc cZ w 3 (fun _ cs (a:Int)=>cs = [.int .i64 a]/\(Lit.int .i64 a).wf=true):=xY underlying3
theorem cJg:iY enc cZ w 62 (fun _ cs (a:Int)=>cs = [.int .u64 a]/\(Lit.int .u64 a).wf=true):=xY underlying62
theorem bYf:iY enc cZ w 4 (fun _ cs (a:Bool)=>cs = [.bool a]):=aJl underlying4
theorem ci:cZ.cellsOf 3=1:=by kernel_rfl
theorem cu:cZ.cellsOf 62=1:=by kernel_rfl
theorem cb:cZ.cellsOf 4=1:=by kernel_rfl
theorem cbs:cZ.cellsOf 24=1:=by kernel_rfl
theorem cgs:cZ.cellsOf 22=1:=by kernel_rfl
theorem cg:cZ.cellsOf 42=2:=by kernel_rfl
theorem ccs:cZ.cellsOf 43=1:=by kernel_rfl
theorem cJh:iY enc cZ w 26 cVu:=by
 intro fuel cs x h e;obtain⟨l,v0,g,m⟩:=eZ underlying26 h e 0 0 1 22 rfl cXq rfl rfl cgs;obtain⟨n,i,i1⟩:=eZ underlying26 h e 1 1 1 3 rfl yW rfl rfl ci;obtain⟨o,v2,e2,p⟩:=eZ underlying26 h e 2 2 1 23 rfl tX rfl rfl c1;obtain⟨l3,v3,j,q⟩:=eZ underlying26 h e 3 3 1 24 rfl bYe rfl rfl cbs;obtain⟨l4,k⟩:=eZ underlying26 h e 4 4 1 4 rfl bYf rfl rfl cb;obtain⟨_,_,_,_,r,_,_⟩:=DataW.trod_struct underlying26 h;have s:cs.length=5:=r.trans (by kernel_rfl)
 match cs,s with
 | [a,b,c,d,f],_=>
  simp at g i e2 j k;subst g;subst i;subst e2;subst j;subst k;exact⟨⟨l,n,o,l3,l4⟩,_,_,_,rfl,m,p,q⟩
theorem cXr:iY enc cZ w 80 CodeC:=by
 intro fuel cs x h e;obtain⟨m,g,o⟩:=eZ underlying80 h e 0 0 1 3 rfl yW rfl rfl ci;obtain⟨i,j,p⟩:=eZ underlying80 h e 1 1 1 62 rfl cJg rfl rfl cu;obtain⟨q,v2,e2,r⟩:=eZ underlying80 h e 2 2 1 23 rfl tX rfl rfl c1;obtain⟨l3,v3,k,s⟩:=eZ underlying80 h e 3 3 1 23 rfl tX rfl rfl c1;obtain⟨l4,v4,l,t⟩:=eZ underlying80 h e 4 4 1 23 rfl tX rfl rfl c1;obtain⟨_,_,_,_,u,_,_⟩:=DataW.trod_struct underlying80 h;have v:cs.length=5:=u.trans (by kernel_rfl)
 match cs,v with
 | [a,b,c,d,f],_=>
  simp at g j e2 k l;subst g;subst j;subst e2;subst k;subst l;have y:=aJk o;have h1:=aJj p;obtain⟨n,rfl⟩:∃ n:Nat,i=n:=⟨i.toNat,by omega⟩;exact⟨⟨m,n,q,l3,l4⟩,_,_,_,rfl,⟨by show n<_;omega,y⟩,r,s,t⟩
theorem bYg:iY enc cZ w 43 (fun w cs (l:List CodeD)=>∃ v,cs = [v]/\Structs 5 CodeC w v l):=by
 intro fuel cs x h a;obtain⟨l,v,e,hs,_⟩:=mK (enc:=enc) (w:=w) underlying43 (show cZ.cellsOf 80=5 by kernel_rfl) (by omega) (show 1<=cZ.bytesOf 80 by decide +kernel) cXr fuel cs x h a;exact⟨l,v,e,hs⟩
theorem cJi:iY enc cZ w 45 RowC:=by
 intro fuel cs x h e;obtain⟨k,g⟩:=eZ underlying45 h e 0 0 2 42 rfl bKf rfl rfl cg;obtain⟨l,i,i1⟩:=eZ underlying45 h e 1 2 1 3 rfl yW rfl rfl ci;obtain⟨m,v2,e2,n⟩:=eZ underlying45 h e 2 3 1 23 rfl tX rfl rfl c1;obtain⟨l3,v3,j,o⟩:=eZ underlying45 h e 3 4 1 43 rfl bYg rfl rfl ccs;obtain⟨_,_,_,_,p,_,_⟩:=DataW.trod_struct underlying45 h;have q:cs.length=5:=p.trans (by kernel_rfl)
 match cs,q with
 | [a,b,c,d,f],_=>
  simp at g i e2 j;obtain⟨x0,x1,x2,x3,x4⟩:=g;subst i;subst e2;subst j;simp at x2;obtain⟨rfl,rfl⟩:=x2;exact⟨⟨k,l,m,l3⟩,_,_,_,_,rfl,x3,x4,n,o⟩
end
theorem small_of{H:Type}{P:Program}{a:List TypeId}{b:List (DataW H)}(h:(DataW.weightsEach P a b).all (· <= reachBytes)=true){j:Nat}{t:TypeId}{d:DataW H}(c:a[j]? = some t)(hd:b[j]? = some d):aQb P t d:=fun n hn=>by
 have:=List.all_eq_true.1 h n (DataW.weights_mem_each (j:=j) c hd n hn)
 simpa using this
section
variable {H:Type} {enc:TypeId×Af->H} {w:Ae}
theorem bKg{r:Reach}{a:Nat}{t:TypeId}{fs:Array Field}{v:Af}(b:cZ.underlying t=some (.struct fs))(hv:Value.okWide cZ w r a t v):∃ cs,v = .agg cs:=by
 simp only[Value.okWide,b]at hv;obtain⟨cs,rfl,_⟩:=hv;exact⟨cs,rfl⟩
end
structure RowsD where
 env:EnvD
 fns:List RowD
def RowsV(w:Ae)(v:Af)(p:RowsD):Prop:=∃ a b d f,v = .agg #[a,.int .i64 p.env.imports,b,d,.bool p.env.mem,f]/\Structs 2 SigC w a p.env.sigs/\Ints w b p.env.globals/\Bools w d p.env.muts/\Structs 5 RowC w f p.fns
theorem RowsV.below{w w':Ae}{B:Nat}{r:Af}{p:RowsD}(h:RowsV w r p)(c:Ah B w w')(g:w.heap.size<=B):RowsV w' r p:=by
 obtain⟨a,b,d,f,e,h1,h2,i,j⟩:=h;exact⟨a,b,d,f,e,h1.below c g (fun r x q=>q.below c g),h2.below c g,i.below c g,j.below c g (fun r x q=>q.below c g)⟩
theorem Structs.row{w:Ae}{A:Option Addr}{n c:Nat}{l:List RowD}(h:Structs 5 RowC w (.slice A n c) l){k:Nat}{x:RowD}(a:l[k]? = some x):
  ∃ b o p q r s,A=some ⟨b,o,none⟩/\b<w.heap.size/\w.cell? ⟨b,o+k*5,none⟩=some p/\w.cell? ⟨b,o+k*5+1,none⟩=some q/\w.cell? ⟨b,o+k*5+2,none⟩=some (.int .i64 x.places)/\w.cell? ⟨b,o+k*5+3,none⟩=some r/\w.cell? ⟨b,o+k*5+4,none⟩=some s /\
   Ints w p x.sig.inn/\Ints w q x.sig.out/\Ints w r x.params/\Structs 5 CodeC w s x.code:=by
 obtain⟨b,o,c',rr,e,d,hr,⟨p,q,r,s,rfl,h1,h2,f,g⟩,hc⟩:=h.at (by omega) a;injection e with i e2 e3;exact⟨b,o,p,q,r,s,i,d,hc 0 _ rfl,hc 1 _ rfl,hc 2 _ rfl,hc 3 _ rfl,hc 4 _ rfl,h1,h2,f,g⟩
theorem RowV.of{w:Ae}{p q r s:Af}{x:RowD}(h1:Ints w p x.sig.inn)(h2:Ints w q x.sig.out)(a:Ints w r x.params)(b:Structs 5 CodeC w s x.code):RowV w (.agg #[p,q,.int .i64 x.places,r,s]) x:=⟨p,q,r,s,rfl,h1,h2,a,b⟩
theorem cKg(w:Ae)(a b:Obj):Ah w.heap.size w ((w.alloc a).alloc b):=((Below.refl _ _).alloc (Ax _) _).alloc (by simp) _
theorem cVs{w:Ae}{g:Nat}{e:TypeId}{a b:Af}(k:Blk w g e #[a,b]):w.cell? ⟨g,0,none⟩=some a/\w.cell? ⟨g,1,none⟩=some b:=⟨by simpa using k.cell 0,by simpa using k.cell 1⟩
theorem lX{w:Ae}{g:Nat}{e:TypeId}{a b c d f h:Af}(k:Blk w g e #[a,b,c,d,f,h]):
  w.cell? ⟨g,0,none⟩=some a/\w.cell? ⟨g,1,none⟩=some b/\w.cell? ⟨g,2,none⟩=some c/\w.cell? ⟨g,3,none⟩=some d/\w.cell? ⟨g,4,none⟩=some f/\w.cell? ⟨g,5,none⟩=some h:=
 ⟨by simpa using k.cell 0,by simpa using k.cell 1,by simpa using k.cell 2,by simpa using k.cell 3,by simpa using k.cell 4,by simpa using k.cell 5⟩
structure ProgP (p:RowsD):Prop where
 env:envOk p.env=true
 len:(p.fns.length:Int)+p.env.imports=p.env.sigs.length
 row:∀ (i:Nat) r,p.fns[i]? = some r->CheckP p.env r/\p.env.sigs[p.env.imports.toNat+i]? = some r.sig
theorem kX{e:EnvD}(h:envOk e=true):e.sigs.length<=64/\0<=e.imports/\e.imports<=e.sigs.length:=by
 unfold envOk at h;simp only[Ak,decide_eq_true_eq]at h;exact⟨h.1.1,h.1.2.1,h.1.2.2.1⟩
def cKh(b:Bool)(w:Ae)(en:Ending)(w':Ae):Prop:=en = .returned (.bool b)/\∃ n,w'=w.drewN n
theorem bJl{l m:List Int}{k:Nat}{x y:Int}(h:l.take k=m.take k)(a:l[k]? = some x)(b:m[k]? = some y):x=y->l.take (k+1)=m.take (k+1):=by
 intro e;subst e;obtain⟨h1,h2⟩:=List.getElem?_eq_some_iff.1 a;obtain⟨c,d⟩:=List.getElem?_eq_some_iff.1 b;rw[AQ h1,AQ c,h,h2,d]
theorem cJb{l m:List Int}{k:Nat}{x y:Int}(b:l[k]? = some x)(a:m[k]? = some y)(h:x≠y):l≠m:=by
 intro e;subst e;rw[b]at a;injection a with a;exact h a
theorem aWd(v u:Af)(l m:List Int)(w:Ae)(h1:Ints w v l)(h2:Ints w u m):Calls cZ 32 #[v,u] w (cKh (decide (l=m)) w):=by
 obtain⟨A1,c1,rfl⟩:=h1.shape;obtain⟨A2,c2,rfl⟩:=h2.shape;have H1:=cQ h1.ir;have j:=cQ h2.ir;have B:=h1.cWv.2.2.1;have C:=h2.cWv.2.2.1;clear h1 h2;by_cases hlen:l.length=m.length
 ·obtain⟨n,hn⟩:=cX l.length;have d:m.length=n:=(by omega);have p:=cQ hn;have q:=cQ d;rw[hn]at H1 B ⊢;rw[d]at j C ⊢;have D:((n:Int) != (n:Int))=false:=(by simp);clear hn d hlen;go_in;go_wp2;go_loopw [13] (fun i wr=>∃ k:Nat,k<=n/\i = .int .i64 k/\Hid (l.take k=m.take k/\∃ z,wr=w.drewN z)) (fun i _=>n - (intOf i).toNat)
  case atStart=>exact⟨0,by omega,rfl,cQ ⟨by simp,0,rfl⟩⟩
  case round=>
   obtain⟨k,hk,rfl,IM⟩:=hrel;obtain⟨c,z,rfl⟩:=IM.out;clear IM;by_cases r:k<n
   ·have E:decide ((k:Int)<n)=true:=(by simp;omega);have t2:(k:Int)<n:=(by omega);obtain⟨x,f⟩:∃ x,l[k]? = some x:=⟨_,Aj (by rw[p.out];exact r)⟩;obtain⟨y,g⟩:∃ y,m[k]? = some y:=⟨_,Aj (by rw[q.out];exact r)⟩;obtain⟨b,o,rfl,hb,hc⟩:=H1.out.cell f;obtain⟨b2,o2,rfl,al,an⟩:=j.out.cell g;have s:=cQ f;have t:=cQ g;have F:=cQ c;clear f g c;by_cases a:x=y
    ·have q1:(x != y)=false:=(by simpa using a);have h:=cQ a;clear a;go_wp2_with fail;go_quiet (fail);go_wp2;exact⟨⟨k+1,by omega,by simp,cQ ⟨bJl F.out s.out t.out h.out,_,rfl⟩⟩,by simp[intOf];omega⟩
    ·have q1:(x != y)=true:=(by simpa using a);have h:=cQ a;clear a;go_wp2_with fail;go_quiet (fail);go_wp2;go_ret;exact⟨by rw[decide_eq_false (cJb s.out t.out h.out)];rfl,z+nq,by simp[World.drewN];omega⟩
   ·have E:decide ((k:Int)<n)=false:=by simp;omega
    have A:l=m:=by
     rw[<-AX (l:=l) (i:=k) (by have:=p.out;omega),<-AX (l:=m) (i:=k) (by have:=q.out;omega),c]
    have G:=cQ A;clear A c;go_wp2;go_ret;exact⟨by rw[decide_eq_true G.out];rfl,_,rfl⟩
 ·have H:l≠m:=fun e=>hlen (by rw[e]);have D:((l.length:Int) != (m.length:Int))=true:=(by simp;omega);go_in;go_wp2;go_ret;exact⟨by rw[decide_eq_false H];rfl,0,rfl⟩
def cKi(p:RowsD)(w:Ae)(en:Ending)(w':Ae):Prop:=∃ b:Bool,en = .returned (.bool b)/\(b=true↔ProgP p)/\Ah w.heap.size w w'
def LrInv(p:RowsD)(M:Nat)(a:Ae)(k:Nat)(wr:Ae):Prop:=Ah a.heap.size a wr/\∀ (j:Nat) r,j<k->p.fns[j]? = some r->CheckP p.env r/\p.env.sigs[M+j]? = some r.sig
theorem LrInv.step{p:RowsD}{M k:Nat}{d wr w':Ae}{r:RowD}{s:SigD}(h:LrInv p M d k wr)(e:p.fns[k]? = some r)(hs:p.env.sigs[M+k]? = some s)(h1:s.inn=r.sig.inn)(h2:s.out=r.sig.out)(hc:CheckP p.env r)(f:Ah wr.heap.size wr w'):LrInv p M d (k+1) w':=by
 refine⟨h.1.trans (f.mono h.1.size),fun j q c hq=>?_⟩;rcases Nat.lt_succ_iff_lt_or_eq.1 c with c | rfl
 ·exact h.2 j q c hq
 ·rw[e]at hq;injection hq with hq;subst hq;refine⟨hc,?_⟩;rw[hs];obtain⟨a,b⟩:=s;have h1:a=r.sig.inn:=h1;have h2:b=r.sig.out:=h2;subst h1;subst h2;rfl
theorem vK(p:RowsD)(v:Af)(w:Ae)(hv:RowsV w v p):Calls cZ 18 #[v] w (cKi p w):=by
 obtain⟨a,b,d,f,rfl,h1,h2,h3,h4⟩:=hv;have aB:=cQ (show EnvV w (.agg #[a,.int .i64 p.env.imports,b,d,.bool p.env.mem]) p.env from⟨a,b,d,rfl,h1,h2,h3⟩);obtain⟨sA,sc,rfl,_,a1,_⟩:=h1.len;obtain⟨fA,fc,rfl,_,aL,_⟩:=h4.len;have aC:=cQ h1;have aD:=cQ h4;have an:=cQ ((Below.refl w.heap.size w).alloc (Ax _) (.cells #[.slice sA p.env.sigs.length sc,.int .i64 p.env.imports,b,d,.bool p.env.mem,.slice fA p.fns.length fc] 29));have K0:=cQ (Blk.new w 29 #[.slice sA p.env.sigs.length sc,.int .i64 p.env.imports,b,d,.bool p.env.mem,.slice fA p.fns.length fc]);clear h1 h2 h3 h4;go_in;go_wp2_with fail;refine(rW _ p.env _ (aB.out.below an.out (Ax _))).mono ?_;rintro en w1 ⟨rfl,ao⟩;have t:=cQ (an.out.trans (ao.mono an.out.size));have KP:=cQ (K0.out.below ao K0.out.lt);clear ao;cases F:envOk p.env
 ·go_wp2_with fail;go_ret;exact⟨false,rfl,⟨fun h=>(by cases h),fun h=>(by have:=h.env;rw[F]at this;cases this)⟩,t.out⟩
 have aM:=kX F;obtain⟨M,hM⟩:∃ M:Nat,p.env.imports=(M:Int):=⟨p.env.imports.toNat,by omega⟩;obtain⟨n,hn⟩:=cX p.fns.length;obtain⟨L,hL⟩:=cX p.env.sigs.length;obtain⟨S,hS⟩:=cX (n+M);have aN:=cQ F;have u:=cQ hM;have G:=cQ hn;have H:=cQ hL;have D:=cQ hS;have aO:M<=64:=(by omega);have aP:L<=64:=(by omega);rw[hn]at aL;have aQ:IntKind.i64.wrap ((n:Int)+(M:Int))=(S:Int):=(by rw[show(n:Int)+(M:Int)=(S:Int) by omega];exact IntWalk.i64_in _ (by omega));obtain⟨l,m,e2,x,y,o⟩:=lX KP.out;rw[hM]at m ⊢;rw[hL]at l aC ⊢;rw[hn]at o aD ⊢;have q:=KP.out.lt;have aE:=cQ (show ∀ w',Ah w1.heap.size w1 w'->_/\_/\_/\_/\_/\_ from fun w' A=>⟨(A.cell (p:=⟨w.heap.size,_,none⟩) q).trans l,(A.cell (p:=⟨w.heap.size,_,none⟩) q).trans m,(A.cell (p:=⟨w.heap.size,_,none⟩) q).trans e2,(A.cell (p:=⟨w.heap.size,_,none⟩) q).trans x,(A.cell (p:=⟨w.heap.size,_,none⟩) q).trans y,(A.cell (p:=⟨w.heap.size,_,none⟩) q).trans o⟩);clear F aM hM hn hL hS;by_cases aR:S=L
 ·subst aR;have q0:((S:Int) != (S:Int))=false:=(by simp);go_wp2_with fail;go_loopw [27] (fun i wr=>∃ k:Nat,k<=n/\i = .int .i64 k/\Hid (LrInv p M w1 k wr)) (fun i _=>n - (intOf i).toNat)
  case atStart=>exact⟨0,by omega,rfl,cQ ⟨Below.refl _ _,fun j r hj=>by omega⟩⟩
  case round=>
   clear l m e2 x y o q0 aQ;obtain⟨k,hk,rfl,e⟩:=hrel;by_cases aS:k<n
   ·as_aux_lemma=>
    have t1:decide ((k:Int)<n)=true:=(by simp;omega);have t2:(k:Int)<n:=(by omega);obtain⟨r,hr⟩:∃ r,p.fns[k]? = some r:=⟨_,Aj (by rw[G.out];exact aS)⟩;obtain⟨X,hX⟩:=cX (M+k);obtain⟨s,hs⟩:∃ s,p.env.sigs[X]? = some s:=⟨_,Aj (by have:=D.out;have:=H.out;omega)⟩;have I:=cQ hr;have aq:=cQ (show p.env.sigs[M+k]? = some s from hX ▸ hs);have a6:IntKind.i64.wrap ((M:Int)+(k:Int))=(X:Int):=(by rw[show(M:Int)+(k:Int)=(X:Int) by omega];exact IntWalk.i64_in _ (by have:=D.out;omega));have t3:(X:Int)<S:=(by have:=D.out;omega);have c:=t.out.trans (e.out.1.mono t.out.size);have g:=cQ c;obtain⟨fb,fo,x0,x1,x3,x4,rfl,B,g0,g1,g2,g3,g4,J,K,i3,i4⟩:=aD.out.row hr;obtain⟨sb,so,u0,u1,rfl,ar,g5,g6,i5,i6⟩:=aC.out.sig hs;replace g0:=(c.cell (p:=⟨fb,_,none⟩) B).trans g0;replace g1:=(c.cell (p:=⟨fb,_,none⟩) B).trans g1;replace g2:=(c.cell (p:=⟨fb,_,none⟩) B).trans g2;replace g3:=(c.cell (p:=⟨fb,_,none⟩) B).trans g3;replace g4:=(c.cell (p:=⟨fb,_,none⟩) B).trans g4;replace g5:=(c.cell (p:=⟨sb,_,none⟩) ar).trans g5;replace g6:=(c.cell (p:=⟨sb,_,none⟩) ar).trans g6;have z1:fb<wr.heap.size:=(by have:=c.size;omega);have z2:sb<wr.heap.size:=(by have:=c.size;omega);obtain⟨O,P,rfl⟩:=J.shape;obtain⟨Q,c1,rfl⟩:=K.shape;obtain⟨R,T,rfl⟩:=i3.shape;obtain⟨U,V,rfl,_⟩:=i4.len;obtain⟨W,Y,rfl⟩:=i5.shape;obtain⟨Z,d1,rfl⟩:=i6.shape;have aT:=cQ (J.below c (Ax _));have aU:=cQ (K.below c (Ax _));have aV:=cQ (i5.below c (Ax _));have aW:=cQ (i6.below c (Ax _));have aX:=cQ ((RowV.of J K i3 i4).below c (Ax _));obtain⟨l,m,e2,x,y,o⟩:=aE.out _ e.out.1;have y2:w.heap.size<wr.heap.size:=Nat.lt_of_lt_of_le q e.out.1.size;have au:=cQ (cKg wr (.cells #[.slice O r.sig.inn.length P,.slice Q r.sig.out.length c1,.int .i64 r.places,.slice R r.params.length T,.slice U r.code.length V] 45) (.cells #[.slice W s.inn.length Y,.slice Z s.out.length d1] 42));have KR:=cQ (Blk.alloc (Blk.new wr 45 #[.slice O r.sig.inn.length P,.slice Q r.sig.out.length c1,.int .i64 r.places,.slice R r.params.length T,.slice U r.code.length V]) (.cells #[.slice W s.inn.length Y,.slice Z s.out.length d1] 42));have KS:=cQ (Blk.newAt (wr.alloc (.cells #[.slice O r.sig.inn.length P,.slice Q r.sig.out.length c1,.int .i64 r.places,.slice R r.params.length T,.slice U r.code.length V] 45)) (N:=wr.heap.size+1) 42 #[.slice W s.inn.length Y,.slice Z s.out.length d1] (by simp));clear hr hs hX c J K i3 i4 i5 i6 B ar;go_wp2_with fail;refine(aWd _ _ _ _ _ (aV.out.below au.out (Ax _)) (aT.out.below au.out (Ax _))).mono ?_;rintro en w2 ⟨rfl,z,aw⟩;have E:=cQ (show Ah wr.heap.size wr w2 from aw ▸ dV au.out z);have ax:=(show Ah (((wr.alloc (.cells #[.slice O r.sig.inn.length P,.slice Q r.sig.out.length c1,.int .i64 r.places,.slice R r.params.length T,.slice U r.code.length V] 45)).alloc (.cells #[.slice W s.inn.length Y,.slice Z s.out.length d1] 42)).heap.size) _ w2 from aw ▸ dV (Below.refl _ _) z);have al:=cQ (KR.out.below ax KR.out.lt);have aF:=cQ (KS.out.below ax KS.out.lt)
    clear ax aw;clear g0 g1 g2 g3 g4 g5 g6;cases ay:decide (s.inn=r.sig.inn)
    ·go_wp2_with fail;go_ret;refine⟨false,rfl,⟨fun h=>(by cases h),fun h=>?_⟩,g.out.trans (E.out.mono g.out.size)⟩;have h1:=(h.row k r I.out).2;rw[show p.env.imports.toNat=M by rw[u.out];rfl,aq.out]at h1;injection h1 with h1;rw[h1]at ay;simp at ay
    ·have aY:=cQ (of_decide_eq_true ay);obtain⟨v0,v1⟩:=cVs aF.out;obtain⟨r0,r1,r2,r3,r4⟩:=dZ al.out;have y3:=Blk.lt aF.out;have y4:=Blk.lt al.out;go_wp2_with fail;refine(aWd _ _ _ _ _ (aW.out.below E.out (Ax _)) (aU.out.below E.out (Ax _))).mono ?_;rintro en w3 ⟨rfl,z2,aG⟩;have az:=(show Ah w2.heap.size w2 w3 from aG ▸ dV (Below.refl _ _) z2);have C:=cQ (E.out.trans (az.mono E.out.size));have aH:=cQ (al.out.below az al.out.lt);clear aG az;clear v0 v1 r0 r1 r2 r3 r4 y3 y4;cases aA:decide (s.out=r.sig.out)
     ·go_wp2_with fail;go_ret;refine⟨false,rfl,⟨fun h=>(by cases h),fun h=>?_⟩,g.out.trans (C.out.mono g.out.size)⟩;have h1:=(h.row k r I.out).2;rw[show p.env.imports.toNat=M by rw[u.out];rfl,aq.out]at h1;injection h1 with h1;rw[h1]at aA;simp at aA
     ·have aZ:=cQ (of_decide_eq_true aA);obtain⟨r0,r1,r2,r3,r4⟩:=dZ aH.out;have y4:=Blk.lt aH.out;clear l m e2 x y o;obtain⟨l,m,e2,x,y,o⟩:=aE.out _ (e.out.1.trans (C.out.mono e.out.1.size));go_wp2_with fail;refine(bKa p.env r _ _ _ ?_ (aX.out.below C.out (Ax _))).mono ?_
      ·have:=(aB.out.below (g.out.trans (C.out.mono g.out.size)) (Ax _));rw[u.out,H.out]at this;exact this
      rintro en w4 ⟨bb,rfl,aI,hb⟩;have aJ:=cQ (C.out.trans (hb.mono C.out.size));have aK:=cQ aI;clear aI hb r0 r1 r2 r3 r4 y4 l m e2 x y o;cases bb
      ·go_wp2_with fail;go_ret;refine⟨false,rfl,⟨fun h=>(by cases h),fun h=>?_⟩,g.out.trans (aJ.out.mono g.out.size)⟩;exact aK.out.2 (h.row k r I.out).1
      ·go_wp2_with fail;exact⟨⟨k+1,by omega,by simp,cQ (e.out.step I.out aq.out aY.out aZ.out (aK.out.1 trivial) aJ.out)⟩,by simp[intOf];omega⟩
   ·as_aux_lemma=>
    have t1:decide ((k:Int)<n)=false:=(by simp;omega);go_wp2_with fail;go_ret;refine⟨true,rfl,⟨fun _=>⟨aN.out,?_,fun i r hi=>?_⟩,fun _=>rfl⟩,t.out.trans (e.out.1.mono t.out.size)⟩
    ·have:=u.out;have:=G.out;have:=H.out;have:=D.out;omega
    ·rw[show p.env.imports.toNat=M by rw[u.out];rfl];exact e.out.2 i r (by have:=(List.getElem?_eq_some_iff.1 hi).1;have:=G.out;omega) hi
 ·have q0:((S:Int) != (L:Int))=true:=(by simp;omega);go_wp2_with fail;go_ret;refine⟨false,rfl,⟨fun h=>(by cases h),fun h=>?_⟩,t.out⟩;have:=h.len;have:=u.out;have:=G.out;have:=H.out;have:=D.out;omega
end Go.Proofs.YtabibkpfgmolkaaDoor

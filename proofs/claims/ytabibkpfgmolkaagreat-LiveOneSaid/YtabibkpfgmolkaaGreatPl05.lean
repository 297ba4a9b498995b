/- Lemmas for the claim, part 5. Conditions: none. -/
import Derived.Test.YtabibkpfgmolkaaGreatPl04
import Derived.Lib.AppendZerosOnto
set_option maxRecDepth 100000
set_option maxHeartbeats 16000000
set_option linter.unusedVariables false
set_option linter.unusedSimpArgs false
open Go.Lib renaming hid→fQ
open Go.Proofs.Tryz renaming prog→fZ
open Go.Proofs.Tryz
open Go.RowKit
open List renaming getElem?_eq_getElem→Aj,replicate→Ax,mem_of_getElem?→Az,mem_append_left→Aw,getElem?_append_left→Ay,getElem?_set_self→AJ,getElem?_append_right→AQ,getElem?_set_ne→AX,eq_nil_of_length_eq_zero→AZ,mem_append→AK,append_assoc→AV,length_set→AW,eq_nil_or_concat→Aa,concat_eq_append→Ab,nodup_append→Ad,mem_or_eq_of_mem_set→Ae,eq_of_mem_replicate→Af,take_of_length_le→Ai,mem_append_right→Bx,map_cons→Bk,take_append_of_le_length→Bv,map_append→Bw,replicate_succ→By,length_append→BJ,length_cons→BX,length_nil→BW,length_replicate→Ba,getElem?_toArray→Bb,set_append_right→Bc,replicate_succ'→Be,append_nil→Bg,range→Bh,mem_cons→Bi,set_set→Cx,map_set→Cz,Perm→Cw
open Nat renaming le_refl→Ak,eq_zero_or_pos→Ah,mul_one→BQ,zero_add→BK,sub_self→BV,mul_le_mul_right→Bd,le_trans→Cj,add_zero→Cq,add_mul→Cv
open Go.World renaming setCell_alloc_past→AY,ownsRow_nil→Bq
open Go.Value renaming ownBlock→Bj,slice→Ck,map→Cy
open Go.RowKit.Below renaming refl→Bz
open Bool renaming and_eq_true→BZ,eq_false_iff→Bf
open Array renaming replicate→BY
open Go renaming World→CJ,Value→CQ
open Go.RowKit renaming Below→CX
namespace Go.Proofs.YtabibkpfgmolkaaGreat
variable {n i base b k bR gF gA gB gFr gW j a g m c r:Nat}{w w0 w':CJ}{s T l s0 D X d s' ln:List Int}{v vn:CQ}{bA bB:List Nat}{x p:Int}{t:TypeId}
theorem aJw(z:CQ)(k:Nat):Builtin.zeroCells #[z] k=(Ax k z).toArray:=by
 apply Array.ext';simp only[Builtin.zeroCells,List.size_toArray,BX,BW,BK,BQ,Nat.mod_one];apply List.ext_getElem?;intro i;by_cases h:i<k
 ·simp[h]
 ·simp[h]
theorem aVb{P:Program}{ops:Array Oper}{rest:List Oper}{o:Oper}{a:Act}{Q:Exit->Act->CJ->Prop}(w:CJ)(N:o.guard=none)(s x:Operand)(t tn:TypeId)
  (ho:o.op = .call { callee:=.builtin .append,args:=#[s,x],argTypes:=#[t,tn] })
  (base:Nat) (e:TypeId) (z:CQ) (bytes:Nat) (y:IntKind) (m:P.underlying t=some (.slice e)) (p:P.underlying tn=some (.int y)) (hinfo:(P.info? e).map (fun i=>(i.zero,i.size,i.bytes))=some (some z,1,bytes)) (A:z.cells=#[z]) (O:z.oneCell'=true)
  (v:CQ) (n:Nat) (b:List CQ) (hs:a.eval s=v) (c:w.ownsRow base e 1 v n b)
  (q:IntKind) (k:Nat) (K:Int) (B:K=(k:Int)) (C:a.eval x = .int q K) (G:n+k<=maxLen) (hbytes:(n+k)*bytes<=140737488355328) (hbase:base<=w.heap.size)
  (h:∀ d w',w'.ownsRow base e 1 d (n+k) (b++Ax k z)->CX base w w'->wpList P ops Q rest (a.put o.dst d) w'):wpList P ops Q (o :: rest) a w:=by
 subst B;obtain⟨i,hi,hz,hsz,r⟩:=info_parts hinfo;have ai:n+k<=9223372036854775807:=(by simp only[maxLen]at G;omega);have R:IntKind.i64.wrap (k:Int)=k:=(by rw[IntKind.wrap_i64];omega);have aA:k*bytes<=140737488355328:=Cj (Bd _ (by omega)) hbytes;have S:¬(281474976710656<(k:Int)*(bytes:Int)):=(by rw[<-Int.natCast_mul];omega);have T:¬((k:Int)<0):=(by omega);have hlen:b.length=n:=(by simpa using c.1)
 have key:∃ d w',(Builtin.append_ #[t,tn] o.type #[v,.int q k]).run P w = .ok d w'/\w'.ownsRow base e 1 d (n+k) (b++Ax k z)/\w.grownBy w' v.ownBlock:=by
  have grown:∀ (old:Nat),old<n+k->∀ (row:Option Nat),
    (w.drew.alloc (.cells (b.toArray++Builtin.zeroCells z.cells k++Builtin.zeroCells z.cells (grownCap w (n+k) old e - (n+k))) e)).ownsRow base e 1
     (.slice (some ⟨w.heap.size,0,none⟩) (n+k) (grownCap w (n+k) old e)) (n+k) (b++Ax k z) /\
    w.grownBy (w.drew.alloc (.cells (b.toArray++Builtin.zeroCells z.cells k++Builtin.zeroCells z.cells (grownCap w (n+k) old e - (n+k))) e)) row:=by
   intro old ho row;have U:=grownCap_ge w (n+k) old e;have D:grownCap w (n+k) old e<=maxLen:=grownCap_le_maxLen w (n+k) old e G;refine⟨⟨by simp[hlen],.inr ⟨w.heap.size,_,_,rfl,hbase,heap_alloc_new w.drew _,U,D,?_,?_⟩⟩,⟨rfl,rfl,rfl,by simp,fun k f _=>Below.heap_alloc w.drew _ k f⟩⟩
   ·rw[A];simp[size_zeroCells,hlen];omega
   ·rw[A,aJw];simp only[Array.toList_append,BQ];rw[Bv (by simp[hlen])];rw[Ai (by simp[hlen])]
  rcases Ah k with rfl | f
  ·have H:IntKind.i64.wrap 0=0:=(by rw[IntKind.wrap_i64];omega);refine⟨v,w,?_,by simpa using c,World.grownBy.refl w _⟩;rcases c.2 with⟨rfl,rfl⟩ | ⟨g,cap,cur,rfl,_,_,I,_⟩
   ·simp[Builtin.append_,run_underlying m,run_underlying p,sizeOf,typeInfo,hi,asInt,asIntOf,H]
   ·simp[Builtin.append_,run_underlying m,run_underlying p,sizeOf,typeInfo,hi,asInt,asIntOf,H,I,storeCells]
  ·rcases c.2 with⟨rfl,rfl⟩ | ⟨g,cap,cur,rfl,V,hg,I,D,aB,J⟩
   ·have C:b = []:=AZ hlen;subst C;have E:=Lib.run_append_nil_zeros (P:=P) w t tn o.type e i z q y m p hi hz k f (by omega) (by omega) (by rw[r];omega);have l:=grown 0 (by omega) (Bj (.slice none 0 0));simp only[BK,List.nil_append,Array.empty_append]at l ⊢;exact⟨_,_,E,l.1,l.2⟩
   ·by_cases L:n+k<=cap
    ·have M:=run_storeCells_at P g n e (Ax k z) 0 cur w hg (by simp;omega) (fun u F=>by rw[Af F];exact O);simp only[Cq]at M;have W:k≠0:=(by omega);refine⟨.slice (some ⟨g,0,none⟩) (n+k) cap,_,?_,⟨by simp[hlen],.inr ⟨g,cap,_,rfl,V,setRow_heap w g cur (cur.toList.take n++Ax k z++cur.toList.drop (n+(Ax k z).length)).toArray e _ hg,L,D,?_,?_⟩⟩,⟨rfl,rfl,rfl,by simp,fun k _ f=>setRow_other w g k _ (fun e=>f (by simp[Bj,e]))⟩⟩
     ·simp[Builtin.append_,run_underlying m,run_underlying p,sizeOf,typeInfo,zeroValue,hi,hz,hsz,r,asInt,asIntOf,R,T,W,S,L,Addr.add_lit,A,aJw,M]
     ·simp;omega
     ·rw[BQ]at J;rw[J];simp only[BQ];rw[Bv (by simp[hlen])];rw[Ai (by simp[hlen])]
    ·have holds:∀ j u,b[j]? = some u->w.drew.cell? ((⟨g,0,none⟩:Addr).add j)=some u:=fun j u F=>by simpa using c.cells (g:=g) rfl j u F
     have hf:=run_firstCells_some (P:=P) w.drew i.size n ⟨g,0,none⟩ n cap b (by rw[hsz];exact c.1) holds;have E:=Lib.run_append_grow_zeros (P:=P) w t tn o.type e i z q y m p hi hz (some ⟨g,0,none⟩) n cap b hf k f (by omega) (by omega) (by omega) (by rw[r];omega) (by rw[r];exact growslice_fits (by omega) hbytes);have l:=grown cap (by omega) (Bj (.slice (some ⟨g,0,none⟩) n cap));exact⟨_,_,E,l.1,l.2⟩
 obtain⟨d,w',X,h2,Y⟩:=key;refine wpList_plain N fun K B=>?_;unfold Oper.wp execOp;simp only[ho,resolve,invoke,builtin,Sem.run_bind,Sem.run_pure,Result.andThen_ok,List.map_toArray,Bk,List.map_nil,hs,C,X];exact B _ _ (h d w' h2 (aXc (Bz _ _) Y c (Ak _) hbase))
structure FlowOk (r:RowD):Prop where
 n1:1<=r.code.length
 n2:r.code.length<=4096
 to:∀ (i:Nat) c,r.code[i]? = some c->(∀ x∈nextOf c i,0<=x/\x<r.code.length)/\(c.op=274->0<c.to.length)/\(nextOf c i).length<=66
theorem FlowOk.edges{r:RowD}(h:FlowOk r){i:Nat}{x:Int}(a:x∈edges r i):∃ k:Nat,x=k/\k<r.code.length:=by
 unfold _root_.Go.Proofs.YtabibkpfgmolkaaGreat.edges at a
 split at a
 ·rename_i c hc
  split at a
  ·simp at a
  ·have:=(h.to i c hc).1 x a;exact⟨x.toNat,by omega,by omega⟩
 ·simp at a
theorem aZb{r:RowD}(h:FlowOk r)(i:Nat):(edges r i).length<=66:=by
 unfold _root_.Go.Proofs.YtabibkpfgmolkaaGreat.edges
 split
 ·rename_i c hc
  split
  ·simp
  ·exact(h.to i c hc).2.2
 ·simp
theorem RInv.rest{r:RowD}{st:List Int}{stk:Stk}{D:List Nat}(h:RInv r st stk D){e:Nat×List Int}(he:e∈stk)(a:x∈e.2):x∈edges r e.1:=by
 obtain⟨j,b⟩:=List.mem_iff_getElem?.1 he;obtain⟨proc,h1,_⟩:=h.ent j e b;rw[h1];simp[a]
def cKg(r:RowD)(w:CJ)(a:Ending)(w':CJ):Prop:=∃ b:Bool,a = .returned (.bool b)/\(b=true↔¬Ranked r)/\CX w.heap.size w w'
def aVi(r:RowD)(base bR bS bK gS:Nat)(rv:Array CQ)(w0:CJ)(k:Nat)(stk:Stk)(st:List Int)(D:List Nat)(v:CQ)(vs:List CQ)(wr:CJ):Prop:=
 RM wr base bR bS bK gS rv st stk v vs/\RInv r st stk D/\(∀ j,j<k->j∈D)/\CX base w0 wr
theorem cKh(r:RowD)(vr:CQ)(w:CJ)(hr:RowV w vr r)(hf:FlowOk r):Calls fZ 75 #[vr] w (cKg r w):=by
 have HR:=fQ hr;have f:=fQ hf;have aO:=hf.n2;obtain⟨vp,vq,vr,vs,rfl,h4,h5,h6,h7⟩:=hr;obtain⟨Ap,cp,rfl⟩:=h4.shape;obtain⟨Aq,cq,rfl⟩:=h5.shape;obtain⟨Ar,cr,rfl⟩:=h6.shape;obtain⟨Ac,cc,rfl,_⟩:=h7.len;obtain⟨n,hn⟩:=fX r.code.length;rw[hn]at HR aO ⊢;have d:=fQ hn;have aP:=aQo (P:=fZ) 23 3 (.int .i64 0) 8 underlying23 uZ rfl n (by omega) (by omega);clear h4 h5 h6 h7 hf hn;go_in;go_wp2;clear aP;obtain⟨rv,aw⟩:∃ rv:Array CQ,rv=#[.slice Ap r.sig.inn.length cp,.slice Aq r.sig.out.length cq,.int .i64 r.places,.slice Ar r.params.length cr,.slice Ac n cc]:=⟨_,rfl⟩;have aV:=fQ aw;have aK:CX w.heap.size w ((((w.alloc (.cells rv 43)).alloc (.cells (BY n (.int .i64 0)) 3)).alloc (.cells #[.slice (some ⟨w.heap.size+1,0,none⟩) n n] 23)).alloc (.cells #[.slice none 0 0] 44)):=al4 _ _ _ _ _
 have aL:aVi r w.heap.size w.heap.size (w.heap.size+1+1) (w.heap.size+1+1+1) (w.heap.size+1) rv w 0 [] (Ax n 0) [] (.slice none 0 0) [] ((((w.alloc (.cells rv 43)).alloc (.cells (BY n (.int .i64 0)) 3)).alloc (.cells #[.slice (some ⟨w.heap.size+1,0,none⟩) n n] 23)).alloc (.cells #[.slice none 0 0] 44)):=by
  refine⟨{ r:=?_,s:=?_,t:=?_,k:=?_,own:=Bq _ _ _ _,ent:=?_,lR:=by omega,lS:=by omega,lT:=by omega,lK:=by omega,o1:=by simp[Bj] },?_,(fun j Z=>by omega),aK⟩
  ·exact(((Blk.new w _ _).alloc _).alloc _).alloc _
  ·rw[Ba];exact(at3 _ _ _ _ _).alloc _
  ·have e:(i64s (Ax n 0)).toArray=BY n (.int .i64 0):=(by simp[i64s]);rw[e];exact((Blk.newAt _ _ _ (by simp)).alloc _).alloc _
  ·exact at4 _ _ _ _ _ _
  ·intro j u e h;simp at h
  ·have:=RInv.start (r:=r)
   rwa[d.out]at this
 have aM:=fQ aL;clear aL aK;rw[<-aw]at HR ⊢;clear aw;go_loopw [18] (fun i wr=>∃ (k:Nat) (st:List Int) (D:List Nat) (v:CQ) (vs:List CQ),k<=n/\i = .int .i64 k/\Hid (aVi r w.heap.size w.heap.size (w.heap.size+1+1) (w.heap.size+1+1+1) (w.heap.size+1) rv w k [] st D v vs wr)) (fun i _=>n - (intOf i).toNat)
 case atStart=>exact⟨0,_,_,_,_,by omega,rfl,aM⟩
 case round=>
  clear aM;obtain⟨wo,rfl⟩:∃ wo:CJ,wo=wr:=⟨_,rfl⟩;obtain⟨k,st,D,v,vs,hk,rfl,IM⟩:=hrel;by_cases av:k<n
  ·have ax:decide ((k:Int)<n)=true:=(by simp;omega);have aQ:(k:Int)<n:=(by omega);obtain⟨c,hc⟩:∃ c,r.code[k]? = some c:=⟨_,Aj (by rw[d.out];exact av)⟩;have HC:=fQ hc;clear hc;go_wp2_with fail;refine(aKb r _ _ _ _ _ rv st [] v vs k c w _ IM.out.1 HR.out (Ak _) IM.out.2.2.2 HC.out IM.out.2.1.len (f.out.to k c HC.out).2.1 (f.out.to k c HC.out).2.2 (by simp) (by rw[d.out];omega)).mono ?_;rintro en w1 (⟨J,v',aR,rfl,B,hb⟩ | ⟨x,o,aN,rfl,rfl⟩)
   ·have K:=fQ (show aVi r w.heap.size w.heap.size (w.heap.size+1+1) (w.heap.size+1+1+1) (w.heap.size+1) rv w k [(k,edges r k)] (st.set k 1) D v' aR w1 from⟨by simpa using B,by simpa using IM.out.2.1.open J (fun e he=>by simp at he),IM.out.2.2.1,IM.out.2.2.2.trans hb⟩);have L:=fQ (show(st.set k 1)[k]? ≠ some 0 by rw[AJ (by rw[IM.out.2.1.len,d.out];exact av)];simp);obtain⟨ay,M⟩:=fX (st.set k 1);obtain⟨N,ad⟩:∃ N:Stk,[(k,edges r k)]=N:=⟨_,rfl⟩;rw[M,ad]at K;rw[M]at L;clear B hb J M ad IM;go_wp2;go_loopg [] (muS ay N) (fun g wi=>∃ (stk:Stk) (st:List Int) (D:List Nat) (v:CQ) (vs:List CQ),Hid (aVi r w.heap.size w.heap.size (w.heap.size+1+1) (w.heap.size+1+1+1) (w.heap.size+1) rv w k stk st D v vs wi)/\Hid (st[k]? ≠ some 0)/\Hid (muS st stk=g))
    case atStart=>exact⟨_,_,_,_,_,K,L,fQ rfl⟩
    case round=>
     clear K L;obtain⟨stk,st,D,v,vs,a,C,O⟩:=hrel;have Q:=a.out.2.1.len;rw[d.out]at Q;have E:=fQ Q;clear Q;rcases Aa stk with rfl | ⟨S,e,rfl⟩
     ·obtain⟨Av,F,hv,_⟩:=gZ a.out.1.own;subst hv;have G:=a.out.1.k.cell 0;simp at G;have sK:=a.out.1.k.lt;go_wp2;refine⟨⟨k+1,st,D,_,vs,by omega,by simp,fQ ⟨a.out.1,a.out.2.1,fun j Z=>?_,a.out.2.2.2⟩⟩,by simp[intOf];omega⟩;by_cases az:j=k
      ·subst az;obtain⟨x,o⟩:∃ x,st[j]? = some x:=⟨_,Aj (by rw[E.out];exact av)⟩;rcases a.out.2.1.vals j x o with h | h | h
       ·subst h;exact absurd o C.out
       ·subst h;have:=(a.out.2.1.one j).1 o;simp at this
       ·subst h;exact(a.out.2.1.two j).1 o
      ·exact a.out.2.2.1 j (by omega)
     ·rw[Ab]at *;obtain⟨t,rest⟩:=e;obtain⟨gk,F,g,c,rfl,f1,f2,f3,f4,f5,f6,f7,f8,q,f10,f11,f12,f13,f14,f15,f16,f17,f18⟩:=a.out.1.top;have G:=a.out.1.k.cell 0;have cS:=a.out.1.s.cell 0;simp at G cS;rw[E.out]at cS;have sK:=a.out.1.k.lt;have sS:=a.out.1.s.lt;have sT:=a.out.1.t.lt;have zK:=frz a.out.1.k 0;have aA:t<n:=(by have:=a.out.2.1.lt (e:=(t,rest)) (by simp);rw[d.out]at this;exact this);have aB:(t:Int)<(n:Int):=(by omega);have R:st[t]? = some 1:=(a.out.2.1.one t).2 (by simp);have cT:=bQe a.out.1.t R;have zT:=frz a.out.1.t t;obtain⟨m,B⟩:=fX S.length;have F9:=fQ q;rw[B]at f1 q f10 G;have aS:m+1<=4096:=(by have:=a.out.2.1.small;rw[d.out]at this;simp at this;omega);have T:=fQ B;have aC:=fQ R;have an:=fQ f12;have q1:gk≠w.heap.size+1:=f6;have aT:m<F:=(by omega);have aD:(m:Int)<(F:Int):=(by omega);have aE:(m:Int)+1<=(F:Int):=(by omega);clear B R f12 f13;rcases Aa rest with rfl | ⟨b,x,rfl⟩
      ·have H:=an.out.at_ (k:=0) (by simp);simp[i64s,ints']at H;simp at q f11;go_wp2_with fail;go_region;have P1:=fQ (a.out.1.put t 2);go_wp2;go_roundg (muS (st.set t 2) S)
       case measure=>rw[<-O.out];exact cZw aC.out
       case rel=>
        have ao:=P1.out.pop;rw[T.out]at ao;refine⟨S,st.set t 2,D ++ [t],_,_,fQ ⟨ao.drew,a.out.2.1.pop,fun j Z=>Aw _ (a.out.2.2.1 j Z),(((a.out.2.2.2).setCell (p:=⟨w.heap.size+1,t,none⟩) a.out.1.lT _).setCell (p:=⟨w.heap.size+1+1+1,0,none⟩) a.out.1.lK _).drew⟩,fQ ?_,fQ rfl⟩;by_cases e:t=k
        ·subst e;rw[AJ (by rw[E.out];exact aA)];simp
        ·rw[AX e];exact C.out
      ·rw[Ab]at *;have H:=an.out.at_ (k:=b.length+1) (by simp);have e2:(i64s (ints' (t,b ++ [x])))[b.length+1]? = some (.int .i64 x):=(by simp[i64s,ints']);rw[Aj (by simp[i64s,ints'])]at e2;injection e2 with e2;rw[e2,BK]at H;simp only[BJ,BX,BW]at q f11;obtain⟨l,U⟩:=fX b.length;rw[U]at H q f11
       have hle:l<=66:=by
        have h1:=aZb f.out t;obtain⟨proc,h2,_⟩:=a.out.2.1.ent S.length (t,b ++ [x]) (by simp);rw[h2]at h1;simp at h1;omega
       obtain⟨y,hy,V⟩:=f.out.edges (a.out.2.1.rest (e:=(t,b ++ [x])) (by simp) (x:=x) (by simp));subst hy;rw[d.out]at V;have aF:=fQ U;clear U e2;obtain⟨A,aq⟩:∃ A,r.code[y]? = some A:=⟨_,Aj (by rw[d.out];exact V)⟩;have W:=fQ aq;have X:=fQ (a.out.1.shrink F9.out);rw[T.out,aF.out]at X;have I:=fQ ((a.out.2.2.2).setCell (p:=⟨gk,m,none⟩) f3 (.slice (some ⟨g,0,none⟩) (l+1) c));clear aq;go_wp2_with fail;refine(aKb r _ _ _ _ _ rv st (S ++ [(t,b)]) _ _ y A w _ X.out HR.out (Ak _) I.out W.out a.out.2.1.len (f.out.to y A W.out).2.1 (f.out.to y A W.out).2.2 (by simp[T.out];omega) (by rw[d.out];omega)).mono ?_;rintro en w3 (⟨J,v3,aU,rfl,ar,au⟩ | ⟨z,hz,Y,rfl,rfl⟩)
       ·have aG:=fQ ar;have aH:=fQ (I.out.trans au);have H0:=fQ J;clear ar au J;go_wp2;go_roundg (muS (st.set y 1) (S ++ [(t,b)] ++ [(y,edges r y)]))
        case measure=>rw[<-O.out];exact bJi H0.out (aZb f.out y)
        case rel=>
         refine⟨_,_,D,_,_,fQ ⟨aG.out,a.out.2.1.fresh H0.out,a.out.2.2.1,aH.out⟩,fQ ?_,fQ rfl⟩;by_cases e:y=k
         ·subst e;rw[AJ (by rw[E.out];exact V)];simp
         ·rw[AX e];exact C.out
       ·rcases a.out.2.1.vals y z hz with h | h | h
        ·exact absurd h Y
        ·subst h;have aI:=fQ (a.out.2.1.eZm hz);rw[show((1:Int) == 1)=true from rfl];clear hz Y;go_wp2;go_ret;exact⟨true,rfl,⟨(fun _=>aI.out),(fun _=>rfl)⟩,I.out⟩
        ·subst h;have aJ:=fQ (a.out.2.1.skip hz);rw[show((2:Int) == 1)=false from rfl];clear hz Y;go_wp2;go_roundg (muS st (S ++ [(t,b)]))
         case measure=>rw[<-O.out];exact bWl
         case rel=>exact⟨_,_,D,_,_,fQ ⟨X.out,aJ.out,a.out.2.2.1,I.out⟩,C,fQ rfl⟩
   ·have K:=fQ (show aVi r w.heap.size w.heap.size (w.heap.size+1+1) (w.heap.size+1+1+1) (w.heap.size+1) rv w k [] st D v vs wo from IM.out);have L:=fQ (show st[k]? ≠ some 0 by rw[o];intro e;injection e with e;exact aN e);obtain⟨ay,M⟩:=fX st;obtain⟨N,ad⟩:∃ N:Stk,[]=N:=⟨_,rfl⟩;rw[M,ad]at K;rw[M]at L;obtain⟨y,hy⟩:∃ y:Bool,(x == 1)=y:=⟨_,rfl⟩;rw[hy];clear o aN M ad IM hy;go_wp2;go_loopg [] (muS ay N) (fun g wi=>∃ (stk:Stk) (st:List Int) (D:List Nat) (v:CQ) (vs:List CQ),Hid (aVi r w.heap.size w.heap.size (w.heap.size+1+1) (w.heap.size+1+1+1) (w.heap.size+1) rv w k stk st D v vs wi)/\Hid (st[k]? ≠ some 0)/\Hid (muS st stk=g))
    case atStart=>exact⟨_,_,_,_,_,K,L,fQ rfl⟩
    case round=>
     clear K L;obtain⟨stk,st,D,v,vs,a,C,O⟩:=hrel;have Q:=a.out.2.1.len;rw[d.out]at Q;have E:=fQ Q;clear Q;rcases Aa stk with rfl | ⟨S,e,rfl⟩
     ·obtain⟨Av,F,hv,_⟩:=gZ a.out.1.own;subst hv;have G:=a.out.1.k.cell 0;simp at G;have sK:=a.out.1.k.lt;go_wp2;refine⟨⟨k+1,st,D,_,vs,by omega,by simp,fQ ⟨a.out.1,a.out.2.1,fun j Z=>?_,a.out.2.2.2⟩⟩,by simp[intOf];omega⟩;by_cases az:j=k
      ·subst az;obtain⟨x,o⟩:∃ x,st[j]? = some x:=⟨_,Aj (by rw[E.out];exact av)⟩;rcases a.out.2.1.vals j x o with h | h | h
       ·subst h;exact absurd o C.out
       ·subst h;have:=(a.out.2.1.one j).1 o;simp at this
       ·subst h;exact(a.out.2.1.two j).1 o
      ·exact a.out.2.2.1 j (by omega)
     ·rw[Ab]at *;obtain⟨t,rest⟩:=e;obtain⟨gk,F,g,c,rfl,f1,f2,f3,f4,f5,f6,f7,f8,q,f10,f11,f12,f13,f14,f15,f16,f17,f18⟩:=a.out.1.top;have G:=a.out.1.k.cell 0;have cS:=a.out.1.s.cell 0;simp at G cS;rw[E.out]at cS;have sK:=a.out.1.k.lt;have sS:=a.out.1.s.lt;have sT:=a.out.1.t.lt;have zK:=frz a.out.1.k 0;have aA:t<n:=(by have:=a.out.2.1.lt (e:=(t,rest)) (by simp);rw[d.out]at this;exact this);have aB:(t:Int)<(n:Int):=(by omega);have R:st[t]? = some 1:=(a.out.2.1.one t).2 (by simp);have cT:=bQe a.out.1.t R;have zT:=frz a.out.1.t t;obtain⟨m,B⟩:=fX S.length;have F9:=fQ q;rw[B]at f1 q f10 G;have aS:m+1<=4096:=(by have:=a.out.2.1.small;rw[d.out]at this;simp at this;omega);have T:=fQ B;have aC:=fQ R;have an:=fQ f12;have q1:gk≠w.heap.size+1:=f6;have aT:m<F:=(by omega);have aD:(m:Int)<(F:Int):=(by omega);have aE:(m:Int)+1<=(F:Int):=(by omega);clear B R f12 f13;rcases Aa rest with rfl | ⟨b,x,rfl⟩
      ·have H:=an.out.at_ (k:=0) (by simp);simp[i64s,ints']at H;simp at q f11;go_wp2_with fail;go_region;have P1:=fQ (a.out.1.put t 2);go_wp2;go_roundg (muS (st.set t 2) S)
       case measure=>rw[<-O.out];exact cZw aC.out
       case rel=>
        have ao:=P1.out.pop;rw[T.out]at ao;refine⟨S,st.set t 2,D ++ [t],_,_,fQ ⟨ao.drew,a.out.2.1.pop,fun j Z=>Aw _ (a.out.2.2.1 j Z),(((a.out.2.2.2).setCell (p:=⟨w.heap.size+1,t,none⟩) a.out.1.lT _).setCell (p:=⟨w.heap.size+1+1+1,0,none⟩) a.out.1.lK _).drew⟩,fQ ?_,fQ rfl⟩;by_cases e:t=k
        ·subst e;rw[AJ (by rw[E.out];exact aA)];simp
        ·rw[AX e];exact C.out
      ·rw[Ab]at *;have H:=an.out.at_ (k:=b.length+1) (by simp);have e2:(i64s (ints' (t,b ++ [x])))[b.length+1]? = some (.int .i64 x):=(by simp[i64s,ints']);rw[Aj (by simp[i64s,ints'])]at e2;injection e2 with e2;rw[e2,BK]at H;simp only[BJ,BX,BW]at q f11;obtain⟨l,U⟩:=fX b.length;rw[U]at H q f11
       have hle:l<=66:=by
        have h1:=aZb f.out t;obtain⟨proc,h2,_⟩:=a.out.2.1.ent S.length (t,b ++ [x]) (by simp);rw[h2]at h1;simp at h1;omega
       obtain⟨y,hy,V⟩:=f.out.edges (a.out.2.1.rest (e:=(t,b ++ [x])) (by simp) (x:=x) (by simp));subst hy;rw[d.out]at V;have aF:=fQ U;clear U e2;obtain⟨A,aq⟩:∃ A,r.code[y]? = some A:=⟨_,Aj (by rw[d.out];exact V)⟩;have W:=fQ aq;have X:=fQ (a.out.1.shrink F9.out);rw[T.out,aF.out]at X;have I:=fQ ((a.out.2.2.2).setCell (p:=⟨gk,m,none⟩) f3 (.slice (some ⟨g,0,none⟩) (l+1) c));clear aq;go_wp2_with fail;refine(aKb r _ _ _ _ _ rv st (S ++ [(t,b)]) _ _ y A w _ X.out HR.out (Ak _) I.out W.out a.out.2.1.len (f.out.to y A W.out).2.1 (f.out.to y A W.out).2.2 (by simp[T.out];omega) (by rw[d.out];omega)).mono ?_;rintro en w3 (⟨J,v3,aU,rfl,ar,au⟩ | ⟨z,hz,Y,rfl,rfl⟩)
       ·have aG:=fQ ar;have aH:=fQ (I.out.trans au);have H0:=fQ J;clear ar au J;go_wp2;go_roundg (muS (st.set y 1) (S ++ [(t,b)] ++ [(y,edges r y)]))
        case measure=>rw[<-O.out];exact bJi H0.out (aZb f.out y)
        case rel=>
         refine⟨_,_,D,_,_,fQ ⟨aG.out,a.out.2.1.fresh H0.out,a.out.2.2.1,aH.out⟩,fQ ?_,fQ rfl⟩;by_cases e:y=k
         ·subst e;rw[AJ (by rw[E.out];exact V)];simp
         ·rw[AX e];exact C.out
       ·rcases a.out.2.1.vals y z hz with h | h | h
        ·exact absurd h Y
        ·subst h;have aI:=fQ (a.out.2.1.eZm hz);rw[show((1:Int) == 1)=true from rfl];clear hz Y;go_wp2;go_ret;exact⟨true,rfl,⟨(fun _=>aI.out),(fun _=>rfl)⟩,I.out⟩
        ·subst h;have aJ:=fQ (a.out.2.1.skip hz);rw[show((2:Int) == 1)=false from rfl];clear hz Y;go_wp2;go_roundg (muS st (S ++ [(t,b)]))
         case measure=>rw[<-O.out];exact bWl
         case rel=>exact⟨_,_,D,_,_,fQ ⟨X.out,aJ.out,a.out.2.2.1,I.out⟩,C,fQ rfl⟩
  ·have ax:decide ((k:Int)<n)=false:=(by simp;omega);have HD:=fQ (show Ranked r from IM.out.2.1.done.eZl (fun i hi=>IM.out.2.2.1 i (by rw[d.out]at hi;omega)));go_wp2;go_ret;exact⟨false,rfl,⟨(fun h=>by cases h),(fun h=>absurd HD.out h)⟩,IM.out.2.2.2⟩
theorem Structs.eZw{p q:CQ}{s:SigD}(h:Blk w g t #[p,q])(h1:Ints w p s.inn)(h2:Ints w q s.out):Structs 2 SigC w (.slice (some ⟨g,0,none⟩) 1 1) [s]:=by
 refine⟨some ⟨g,0,none⟩,1,[[p,q]],rfl,by simp,(fun e=>by cases e),by simp,rfl,by simp,fun i r x q1 a=>?_,?_⟩
 ·match i,q1,a with
  | 0,q1,a=>
   simp at q1 a;subst q1;subst a;exact⟨p,q,rfl,h1,h2⟩
 ·have:=h.src 2 (by simp)
  simpa using this
def bQj(s:SigD):EnvD:=⟨[s],0,[],[],false⟩
theorem bWm(s:SigD):envOk (bQj s)=sigOk s:=by
 simp[envOk,bQj,kK]
theorem cJb{p q:CQ}{s:SigD}(h:Blk w g t #[p,q])(h1:Ints w p s.inn)(h2:Ints w q s.out):EnvV w (.agg #[.slice (some ⟨g,0,none⟩) 1 1,.int .i64 0,.slice none 0 0,.slice none 0 0,.bool false]) (bQj s):=
 ⟨_,_,_,rfl,Structs.eZw h h1 h2,Ints.nil w,⟨none,0,rfl,Src.nil _ _,Ak _,fun _=>rfl,by simp[bQj]⟩⟩
def aQb(op:Int):Bool:=decide (op ∈ [(273:Int),275,276,277])
theorem tW(op:Int):aQb op=true↔(op=273\/op=275\/op=276\/op=277):=by simp[aQb]
theorem yV{e:EnvD}{r:RowD}{c:CodeD}(h:codeOk e r c=true):(∀ x∈c.to,0<=x/\x<r.code.length)/\qK c.op<=c.to.length/\(c.to.length:Int)<=nX c.op:=by
 unfold codeOk at h
 split at h
 ·cases h
 ·simp only[BZ,decide_eq_true_eq]at h;obtain⟨⟨_,_,h1,h2⟩,_,_,_,a⟩:=h;refine⟨fun x b=>?_,h1,h2⟩;have:=List.all_eq_true.1 a x b
  simpa using this
theorem bQk{e:EnvD}{r:RowD}(n1:1<=r.code.length)(n2:r.code.length<=4096)(hc:∀ c∈r.code,codeOk e r c=true)(g:∀ c,r.code[r.code.length - 1]? = some c->aQb c.op=true):FlowOk r:=by
 refine⟨n1,n2,fun i c hi=>?_⟩;obtain⟨h1,h2,h3⟩:=yV (hc c (Az hi));have ad:=(List.getElem?_eq_some_iff.1 hi).1
 have j:aQb c.op=false->(i:Int)+1<r.code.length:=by
  intro he;by_cases k:i=r.code.length - 1
  ·rw[k]at hi;have:=g c hi;rw[he]at this;cases this
  ·omega
 have d:c.op=274->0<c.to.length:=by
  intro e;rw[e]at h2;simp[qK]at h2;omega
 have ae:c.to.length<=65:=by
  have:nX c.op<=65:=(by unfold nX;split;omega;split <;> omega);omega
 refine⟨fun x b=>?_,d,?_⟩
 ·unfold nextOf at b
  split at b
  ·simp at b
  ·rename_i q1
   split at b
   ·exact h1 x b
   ·rename_i q2
    have he:aQb c.op=false:=by
     rw[Bf];intro h;rw[tW]at h;omega
    have:=j he
    split at b
    ·rename_i m;simp at b;rcases b with b | b
     ·omega
     ·have f:=d m
      cases hct:c.to with
      | nil=>rw[hct]at f;simp at f
      | cons a l=>
       rw[hct]at b;simp at b;subst b;exact h1 _ (by rw[hct];simp)
    ·simp at b;omega
 ·unfold nextOf
  split
  ·simp
  ·split
   ·omega
   ·split <;> simp
theorem CheckP.eXy{e:EnvD}{r:RowD}(h:CheckP e r):FlowOk r:=bQk h.n1 h.n2 h.code (fun c hc=>(tW _).2 (h.last c hc))
theorem cYe{e:EnvD}(h:envOk e=true):e.muts.length=e.globals.length:=by
 simp only[envOk,BZ,decide_eq_true_eq]at h;exact h.1.2.2.2
def ChkPost(e:EnvD)(r:RowD)(w:CJ)(a:Ending)(w':CJ):Prop:=∃ b:Bool,a = .returned (.bool b)/\(b=true↔CheckP e r)/\CX w.heap.size w w'
theorem ChkPost.no{e:EnvD}{r:RowD}(h:¬CheckP e r)(hb:CX w.heap.size w w'):ChkPost e r w (.returned (.bool false)) w':=⟨false,rfl,⟨(fun h=>by cases h),(fun a=>absurd a h)⟩,hb⟩
theorem cJc(e:EnvD)(r:RowD)(ve vr:CQ)(w:CJ)(he:EnvV w ve e)(hr:RowV w vr r):Calls fZ 44 #[ve,vr] w (ChkPost e r w):=by
 have HE:=fQ he;have HR:=fQ hr;obtain⟨va,vb,vd,rfl,h1,h2,h3⟩:=he;obtain⟨As,cs,rfl,_⟩:=h1.len;obtain⟨Ag,cg,rfl⟩:=h2.shape;obtain⟨Am,cm,rfl,_⟩:=h3;obtain⟨vp,vq,vr,vs,rfl,h4,h5,L,M⟩:=hr;have H4:=fQ h4;have H5:=fQ h5;have H6:=fQ L;have H7:=fQ M;obtain⟨i,j,rfl⟩:=h4.shape;obtain⟨l,m,rfl⟩:=h5.shape;obtain⟨Ar,cr,rfl⟩:=L.shape;obtain⟨O,cc,rfl,_⟩:=M.len;obtain⟨_,l6,aM⟩:=L.eXi;obtain⟨_,l7,aN⟩:=M.eXi;have al:=fQ (al2 w (.cells #[.slice As e.sigs.length cs,.int .i64 e.imports,.slice Ag e.globals.length cg,.slice Am e.muts.length cm,.bool e.mem] 26) (.cells #[.slice i r.sig.inn.length j,.slice l r.sig.out.length m,.int .i64 r.places,.slice Ar r.params.length cr,.slice O r.code.length cc] 43));have f:=fQ ((Blk.new w 26 #[.slice As e.sigs.length cs,.int .i64 e.imports,.slice Ag e.globals.length cg,.slice Am e.muts.length cm,.bool e.mem]).alloc (.cells #[.slice i r.sig.inn.length j,.slice l r.sig.out.length m,.int .i64 r.places,.slice Ar r.params.length cr,.slice O r.code.length cc] 43));have g:=fQ (Blk.newAt (w.alloc (.cells #[.slice As e.sigs.length cs,.int .i64 e.imports,.slice Ag e.globals.length cg,.slice Am e.muts.length cm,.bool e.mem] 26)) (N:=w.heap.size+1) 43 #[.slice i r.sig.inn.length j,.slice l r.sig.out.length m,.int .i64 r.places,.slice Ar r.params.length cr,.slice O r.code.length cc] (by simp));clear h1 h2 h4 h5 L M;go_in;go_wp2_with fail;refine(aKd _ e _ (HE.out.below al.out (Ak _))).mono ?_;rintro o w1 ⟨rfl,P⟩;have a:=fQ (al.out.trans (P.mono al.out.size));have f:=fQ (f.out.below P f.out.lt);have g:=fQ (g.out.below P g.out.lt);clear P;obtain⟨s,u,x,y,z⟩:=gJ g.out;obtain⟨B,C,D,E,F⟩:=gJ f.out;have y0:=f.out.lt;have y1:=g.out.lt
 cases R:envOk e with
 | false=>
  have Q:=fQ R;clear R;go_wp2;go_ret;exact ChkPost.no (fun d=>by have:=d.env;rw[Q.out]at this;cases this) a.out
 | true=>
  have Q0:=fQ R;clear R;have S:=fQ (a.out.alloc a.out.size (.cells #[.slice i r.sig.inn.length j,.slice l r.sig.out.length m] 40));have av:=fQ (f.out.alloc (.cells #[.slice i r.sig.inn.length j,.slice l r.sig.out.length m] 40));have aw:=fQ (g.out.alloc (.cells #[.slice i r.sig.inn.length j,.slice l r.sig.out.length m] 40));go_wp2_with fail;refine(aKd _ (bQj r.sig) _ (cJb (Blk.new w1 40 #[.slice i r.sig.inn.length j,.slice l r.sig.out.length m]) (H4.out.below S.out (Ak _)) (H5.out.below S.out (Ak _)))).mono ?_;rintro o w2 ⟨rfl,T⟩;rw[bWm];have a:=fQ (S.out.trans (T.mono S.out.size));have f:=fQ (av.out.below T av.out.lt);have g:=fQ (aw.out.below T aw.out.lt);clear T;clear s u x y z B C D E F y0 y1;obtain⟨s,u,x,y,z⟩:=gJ g.out;obtain⟨B,C,D,E,F⟩:=gJ f.out;have y0:=f.out.lt;have y1:=g.out.lt
  cases q1:sigOk r.sig with
  | false=>
   have Q:=fQ q1;clear q1;go_wp2;go_ret;exact ChkPost.no (fun d=>by have:=d.sig;rw[Q.out]at this;cases this) a.out
  | true=>
   have Q1:=fQ q1;clear q1;by_cases G:r.code.length=0
   ·have g2:((r.code.length:Int) == 0)=true:=(by rw[G];rfl);have aA:(r.code.length == 0)=true:=(by rw[G];rfl);have aB:r.code = []:=AZ G;have Q:=fQ G;clear G;go_wp2;go_ret;exact ChkPost.no (fun d=>by have:=d.n1;rw[Q.out]at this;omega) a.out
   have g2:((r.code.length:Int) == 0)=false:=(by rw[beq_eq_false_iff_ne];omega);have aA:(r.code.length == 0)=false:=(by rw[beq_eq_false_iff_ne];omega);have aB:¬r.code = []:=fun e=>G (by rw[e];rfl);have aC:1<=r.code.length:=(by omega);by_cases q3:4096<r.code.length
   ·have g3:decide (4096<(r.code.length:Int))=true:=(by simp;omega);go_wp2;go_ret;exact ChkPost.no (fun d=>by have:=d.n2;omega) a.out
   have g3:decide (4096<(r.code.length:Int))=false:=(by simp;omega);have aD:r.code.length<=4096:=(by omega);by_cases q4:r.places<0
   ·have g4:decide (r.places<0)=true:=(by simpa using q4);go_wp2;go_ret;exact ChkPost.no (fun d=>by have:=d.p1;omega) a.out
   have g4:decide (r.places<0)=false:=(by simpa using q4);by_cases q5:4096<r.places
   ·have g5:decide (4096<r.places)=true:=(by simpa using q5);go_wp2;go_ret;exact ChkPost.no (fun d=>by have:=d.p2;omega) a.out
   have g5:decide (4096<r.places)=false:=(by simpa using q5);by_cases U:r.params.length=r.sig.inn.length
   ·have g6:((r.params.length:Int) != (r.sig.inn.length:Int))=false:=(by simp;omega);have aE:(r.params.length != r.sig.inn.length)=false:=(by simp;omega);have Q6:=fQ U;clear U;go_wp2_with fail;refine(oK r.places _ r.params _ (H6.out.ir.below a.out (Ak _)) (by omega)).mono ?_;rintro o w3 ⟨rfl,V⟩;have a:=fQ (a.out.trans (V.mono a.out.size));have f:=fQ (f.out.below V f.out.lt);have g:=fQ (g.out.below V g.out.lt);clear V;clear s u x y z B C D E F y0 y1;obtain⟨s,u,x,y,z⟩:=gJ g.out;obtain⟨B,C,D,E,F⟩:=gJ f.out;have y0:=f.out.lt;have y1:=g.out.lt
    cases W:within r.places r.params with
    | false=>
     have Q:=fQ W;clear W;go_wp2;go_ret;exact ChkPost.no (fun d=>by have:=d.pin;rw[Q.out]at this;cases this) a.out
    | true=>
     have Q7:=fQ W;clear W;go_wp2_with fail;refine(aQy _ r.params _ (H6.out.ir.below a.out (Ak _)) (by omega) (fun A n c h=>by injection h with e1 e2 e3;omega)).mono ?_;rintro o w4 ⟨rfl,rfl⟩;by_cases H:r.params.Nodup
     ·rw[decide_eq_true H];have Q8:=fQ H;clear H;go_wp2_with fail;refine(bZo O r.code.length cc r.code (fun c=>!codeOk e r c) w.heap.size (w.heap.size+1) _ (H7.out.below a.out (Ak _) (fun _ _ h=>h.below a.out (Ak _))) (by omega) (fun c hc v w' hb hv=>cQa e r c _ _ v v v _ _ w' (HE.out.below (a.out.trans (hb.mono a.out.size)) (Ak _)) (HR.out.below (a.out.trans (hb.mono a.out.size)) (Ak _)) hv (cYe Q0.out) (f.out.below hb f.out.lt) (g.out.below hb g.out.lt))).mono ?_;rintro o w5 ⟨rfl,X⟩;have a:=fQ (a.out.trans (X.mono a.out.size));have f:=fQ (f.out.below X f.out.lt);have g:=fQ (g.out.below X g.out.lt);clear X;clear s u x y z B C D E F y0 y1;obtain⟨s,u,x,y,z⟩:=gJ g.out;obtain⟨B,C,D,E,F⟩:=gJ f.out;have y0:=f.out.lt;have y1:=g.out.lt
      cases Y:r.code.any (fun c=>!codeOk e r c)with
      | true=>
       have Q:=fQ Y;clear Y;go_wp2;go_ret;exact ChkPost.no (fun d=>by obtain⟨c,h1,h2⟩:=List.any_eq_true.1 Q.out;rw[d.code c h1]at h2;cases h2) a.out
      | false=>
       have Q9:=fQ (show ∀ c∈r.code,codeOk e r c=true from fun c hc=>by have:=List.any_eq_false.1 Y c hc;simpa using this);clear Y;have aF:(0:Int)<(r.code.length:Int):=(by omega);have aG:0<r.code.length:=(by omega);obtain⟨I,an⟩:∃ I,r.code[0]? = some I:=⟨_,Aj (by omega)⟩;obtain⟨c1,ao⟩:∃ c1,r.code[r.code.length - 1]? = some c1:=⟨_,Aj (by omega)⟩;have aq:=H7.out.below a.out (Ak _) (fun _ _ h=>h.below a.out (Ak _));obtain⟨gb,go,p,q,t,eA,aO,m0,_⟩:=aq.code an;obtain⟨aP,aQ,p',q',t',ar,aH,m1,_⟩:=aq.code ao;subst eA;injection ar with ar;injection ar with e1 e2;subst e1;subst e2;obtain⟨k,hk⟩:∃ k,r.code.length=k+1:=⟨r.code.length - 1,by omega⟩;rw[hk]at m1;simp only[Nat.add_sub_cancel,Nat.zero_mul,Cq]at m0 m1;have aR:(k:Int)<(r.code.length:Int):=(by omega);have aI:k<r.code.length:=(by omega);have aS:(r.code.length:Int) - 1=(k:Int):=(by omega);have aT:((r.code.length:Int) - 1).toNat=k:=(by omega);have C0:=fQ an;have C1:=fQ ao;have HK:=fQ hk;clear an ao aq hk;by_cases J:I.op=258
       ·have g10:(I.op == 258)=true:=(by simpa using J);have au:=fQ J;clear J;have Z:=fQ (a.out.alloc a.out.size (.cells #[.int .i64 273,.int .i64 275,.int .i64 276,.int .i64 277] 3));have aU:=fQ (f.out.alloc (.cells #[.int .i64 273,.int .i64 275,.int .i64 276,.int .i64 277] 3));have aV:=fQ (g.out.alloc (.cells #[.int .i64 273,.int .i64 275,.int .i64 276,.int .i64 277] 3));go_wp2_with fail;refine(vY _ [273,275,276,277] c1.op _ ⟨_,_,rfl,Blk.eXm (cs:=#[.int .i64 273,.int .i64 275,.int .i64 276,.int .i64 277]) (Blk.new _ _ _) rfl⟩ (by simp)).mono ?_;rintro o w6 ⟨rfl,rfl⟩
        cases K:aQb c1.op with
        | false=>
         have aj:=fQ K;rw[show decide (c1.op ∈ [(273:Int),275,276,277])=false from K];clear K;go_wp2;go_ret;exact ChkPost.no (fun d=>by have:=d.last c1 C1.out;rw[<-tW,aj.out]at this;cases this) Z.out
        | true=>
         have aj:=fQ K;rw[show decide (c1.op ∈ [(273:Int),275,276,277])=true from K];clear K;have ak:=fQ (show 1<=r.code.length/\r.code.length<=4096 from⟨aC,aD⟩);go_wp2_with fail;refine(cKh r _ _ (HR.out.below Z.out (Ak _)) (bQk ak.out.1 ak.out.2 Q9.out (fun c hc=>by rw[C1.out]at hc;injection hc with hc;rw[<-hc];exact aj.out))).mono ?_;rintro o w7 ⟨b,rfl,ax,ay⟩;have aJ:=fQ (Z.out.trans (ay.mono Z.out.size));have az:=fQ ax;clear ay ax;go_wp2;go_ret;refine⟨!b,rfl,⟨fun hb=>?_,fun d=>?_⟩,aJ.out⟩
         ·have aK:¬b=true:=(by simpa using hb);have aL:Ranked r:=Classical.byContradiction fun h=>aK (az.out.2 h);exact⟨Q0.out,Q1.out,ak.out.1,ak.out.2,by omega,by omega,Q6.out,Q7.out,Q8.out,Q9.out,(fun c hc=>by rw[C0.out]at hc;injection hc with hc;rw[<-hc];exact au.out),(fun c hc=>by rw[C1.out]at hc;injection hc with hc;rw[<-hc];exact(tW _).1 aj.out),aL⟩
         ·cases b with
          | false=>rfl
          | true=>exact absurd d.rank (az.out.1 rfl)
       ·have g10:(I.op == 258)=false:=(by simpa using J);have au:=fQ J;clear J;go_wp2;go_ret;exact ChkPost.no (fun d=>au.out (d.first I C0.out)) (a.out.alloc a.out.size _)
     ·rw[decide_eq_false H];have Q8:=fQ H;clear H;go_wp2;go_ret;exact ChkPost.no (fun d=>Q8.out d.pun) a.out
   ·have g6:((r.params.length:Int) != (r.sig.inn.length:Int))=true:=(by simp;omega);have aE:(r.params.length != r.sig.inn.length)=true:=(by simp;omega);have Q6:=fQ U;clear U;go_wp2;go_ret;exact ChkPost.no (fun d=>Q6.out d.par) a.out
def oZ(c:CodeD)(i:Nat):List Int:=c.to++if aQb c.op then[]else[(i:Int)+1]
theorem aXz{e:EnvD}{r:RowD}{c:CodeD}(h:codeOk e r c=true)(i:Nat)(x:Int):x∈oZ c i↔x∈nextOf c i:=by
 obtain⟨_,h2,h3⟩:=yV h;unfold oZ nextOf;by_cases b:c.op=276\/c.op=277
 ·have f:nX c.op=0:=(by rcases b with e | e <;> rw[e] <;> decide);have:c.to = []:=AZ (by omega);have he:aQb c.op=true:=(tW _).2 (by omega);simp[b,this,he]
 ·by_cases e2:c.op=273\/c.op=275
  ·have he:aQb c.op=true:=(tW _).2 (by omega);simp[b,e2,he]
  ·have he:aQb c.op=false:=by
    rw[Bf];intro h;rw[tW]at h;omega
   by_cases d:c.op=274
   ·have hl:qK c.op=1:=(by rw[d];decide);have f:nX c.op=1:=(by rw[d];decide);have h1:c.to.length=1:=(by omega)
    match aa:c.to,h1 with
    | [a],_=>
     rw[if_neg b,if_neg e2,if_pos d,he];simp;exact or_comm
   ·have f:nX c.op=0:=by
     unfold nX;rw[if_neg (by omega),if_neg (by omega)]
    have:c.to = []:=AZ (by omega);simp[b,e2,d,this,he]
def cJn(l:List Int)(w:CJ)(a:Ending)(w':CJ):Prop:=∃ v,a = .returned v/\w'.ownsRow w.heap.size 3 1 v l.length (i64s l)/\CX w.heap.size w w'
theorem cJo(v:CQ)(l:List Int)(w:CJ)(hs:IR w v l)(j:l.length<=1000000):Calls fZ 50 #[v] w (cJn l w):=by
 have aa:∀ (w:CJ) (a:Option Addr) (n c d f:Nat),(binOp .eql 23 (.slice a n c) (.slice none d f)).run fZ w = .ok (.bool a.isNone) w:=fun w a n c d f=>Lib.run_eql_slice_nil w 23 3 a n c d f underlying23;obtain⟨A,c,rfl,hs⟩:=hs;have g:=fQ hs;obtain⟨n,hn⟩:=fX l.length;rw[hn]at g j ⊢;have k:=fQ hn
 cases A with
 | none=>
  have i:n=0:=by
   rcases Ah n with h | h
   ·exact h
   ·obtain⟨b,o,e,_⟩:=g.out.2 h;cases e
  have h1:l = []:=AZ (by omega);subst h1;have H0:=fQ i;clear hs hn i;go_in;go_wp2;go_ret;exact⟨_,rfl,Bq _ _ _ _,Bz _ _⟩
 | some a=>
  clear hs hn;go_in;go_wp2_with (at_builtin;refine aQw _ rfl (.tmp 5) (.tmp 6) 23 rfl w.heap.size 3 (.int .i64 0) 8 underlying23 uZ rfl (.slice (some ⟨w.heap.size,0,none⟩) 0 0) 0 [] rfl (Blk.own (n:=0) (cs:=#[]) (Blk.new w _ _) (Ak _) rfl (by omega)) (some a) n c (i64s l) rfl (g.out.alloc _) (bJc _) (by unfold maxLen;omega) (by omega) (by simp) ?_);rintro v' w' h1 h2;have H1:=fQ h1;have m:=fQ (((Bz w.heap.size w).alloc (Ak _) (.cells #[] 3)).trans h2);clear h1 h2;go_wp2;go_ret;unfold cJn;rw[k.out];exact⟨_,rfl,H1.out,m.out⟩
def dKs(c:CodeD)(i:Nat)(w:CJ)(a:Ending)(w':CJ):Prop:=∃ v,a = .returned v/\w'.ownsRow w.heap.size 3 1 v (oZ c i).length (i64s (oZ c i))/\CX w.heap.size w w'
theorem bJv(r:RowD)(g:CQ)(i:Nat)(c:CodeD)(w:CJ)(O:RowV w g r)(hi:r.code[i]? = some c)(l:c.to.length<=65)(aq:r.code.length<=4096):
  Calls fZ 45 #[g,.int .i64 (i:Int)] w (dKs c i w):=by
 obtain⟨vp,vq,g,vs,rfl,o,s,u,h⟩:=O;obtain⟨x,y,rfl⟩:=o.shape;obtain⟨z,A,rfl⟩:=s.shape;obtain⟨B,C,rfl⟩:=u.shape;obtain⟨Ac,cc,rfl,_⟩:=h.len;have ar:i<r.code.length:=(List.getElem?_eq_some_iff.1 hi).1;have ah:(i:Int)<(r.code.length:Int):=(by omega);have au:i<4096:=(by omega);obtain⟨gb,go,p,q,t,rfl,av,c0,c1,c2,c3,c4,s0,s1,s2,s3⟩:=h.code hi;obtain⟨D,E,rfl⟩:=s1.shape;obtain⟨F,G,rfl⟩:=s2.shape;obtain⟨H,tc,rfl⟩:=s3.shape;have ai:gb<w.heap.size+1:=(by omega);have aj:gb<w.heap.size+1+1:=(by omega);have P:=fQ s3.ir;have a:=fQ (al2 w (.cells #[.slice x r.sig.inn.length y,.slice z r.sig.out.length A,.int .i64 r.places,.slice B r.params.length C,.slice (some ⟨gb,go,none⟩) r.code.length cc] 43) (.cells #[.int .i64 c.op,.int .u64 (c.n:Int),.slice D c.args.length E,.slice F c.outs.length G,.slice H c.to.length tc] 52));have I:=fQ (Blk.newAt (w.alloc (.cells #[.slice x r.sig.inn.length y,.slice z r.sig.out.length A,.int .i64 r.places,.slice B r.params.length C,.slice (some ⟨gb,go,none⟩) r.code.length cc] 43)) (N:=w.heap.size+1) 52 #[.int .i64 c.op,.int .u64 (c.n:Int),.slice D c.args.length E,.slice F c.outs.length G,.slice H c.to.length tc] (by simp));have J:=fQ l;clear o s u h hi s0 s1 s2 s3 l;go_in;go_wp2_with fail;refine(cJo _ c.to _ (P.out.below a.out (Ak _)) (by have:=J.out;omega)).mono ?_;rintro Q w1 ⟨v,rfl,ho,hb⟩;obtain⟨R,S,rfl,_⟩:=gZ ho;have K:=fQ (a.out.trans (hb.mono a.out.size));have L:=fQ (I.out.below hb I.out.lt);have T:=fQ (lZ ho a.out.size);clear ho hb;obtain⟨U,V,W,X,Y⟩:=gJ L.out;have y1:=L.out.lt;go_wp2_with fail;refine(vY _ [273,275,276,277] c.op _ ⟨_,_,rfl,Blk.eXm (cs:=#[.int .i64 273,.int .i64 275,.int .i64 276,.int .i64 277]) (Blk.new _ _ _) rfl⟩ (by simp)).mono ?_;rintro Q w6 ⟨rfl,rfl⟩;have b:=fQ (K.out.alloc K.out.size (.cells #[.int .i64 273,.int .i64 275,.int .i64 276,.int .i64 277] 3));have j:=fQ (jY T.out (.cells #[.int .i64 273,.int .i64 275,.int .i64 276,.int .i64 277] 3));obtain⟨m,d⟩:=fX c.to.length;rw[d]at j ⊢;have al:m<=65:=(by rw[<-d];exact J.out);have M:=fQ d;clear d U V W X Y
 cases he:aQb c.op with
 | true=>
  rw[show decide (c.op ∈ [(273:Int),275,276,277])=true from he];have k:=fQ he;clear he;go_wp2;go_ret;refine⟨_,rfl,?_,b.out⟩;unfold oZ;rw[k.out,if_pos rfl,Bg];have f:=j.out;rw[M.out];exact f
 | false=>
  rw[show decide (c.op ∈ [(273:Int),275,276,277])=false from he];have k:=fQ he;clear he;have Z:=fQ (jY j.out (.cells #[.int .i64 ((i:Int)+1)] 3));have ao:=b.out.size;go_wp2_with (at_builtin;refine aQw _ rfl (.tmp 20) (.tmp 23) 23 rfl w.heap.size 3 (.int .i64 0) 8 underlying23 uZ rfl (.slice R m S) m (i64s c.to) rfl Z.out (some ⟨w1.heap.size+1,0,none⟩) 1 1 [.int .i64 ((i:Int)+1)] rfl (Blk.eXm (cs:=#[.int .i64 ((i:Int)+1)]) (Blk.newAt _ _ _ (by simp)) rfl) (aZg _ _) (by unfold maxLen;omega) (by omega) (by simp at ao ⊢;omega) ?_);rintro v' w' h1 h2;obtain⟨A2,aw,rfl,_⟩:=gZ h1;have H1:=fQ h1;have H2:=fQ ((b.out.alloc b.out.size (.cells #[.int .i64 ((i:Int)+1)] 3)).trans h2);clear h1 h2;go_wp2;go_ret;refine⟨_,rfl,?_,H2.out⟩;unfold oZ;rw[k.out,if_neg (by simp)];have f:=H1.out;have e:i64s c.to ++ [.int .i64 ((i:Int)+1)]=i64s (c.to ++ [(i:Int)+1]):=(by simp[i64s]);rw[e]at f;have e2:(c.to ++ [(i:Int)+1]).length=m+1:=(by simp[M.out]);rw[e2];exact f
theorem IR.grown{w w':CJ}{v:CQ}{l:List Int}{b:Nat}{m:KV}(h:IR w v l)(f:IM w b m)(hg:w.grownBy w' (some b)):IR w' v l:=by
 obtain⟨A,c,e,hs⟩:=h;refine⟨A,c,e,?_⟩;rcases Ah l.length with d | d
 ·have:l = []:=AZ d;subst this;exact Src.nil _ _
 ·exact hs.grown hg (fun a ha e=>f.eZs hs d a ha (by injection e with e;exact e.symm))
def bWn(b:Nat)(s l:List Int)(w:CJ)(a:Ending)(w':CJ):Prop:=
 a = .returned (.bool (decide (s.length<(nV s l).length)))/\IM w' b (setKV (nV s l))/\w.grownBy w' (some b)/\w'.heap.size=w.heap.size
theorem bQq(b:Nat)(s l:List Int)(v:CQ)(w:CJ)(d:IM w b (setKV s))(f:IR w v l)(hn:l.length<=1152921504606846976)(hs:s.length<=1000000):Calls fZ 25 #[.map (some b),v] w (bWn b s l w):=by
 obtain⟨A,c,rfl⟩:=f.shape;have hlen:=d.eZh (P:=fZ) underlying73 3;rw[bXb]at hlen;have t:=fQ d;have u:=fQ f;obtain⟨n,m⟩:=fX l.length;have y:=fQ m;rw[m]at u hn ⊢;obtain⟨q,hq⟩:=fX s.length;rw[hq]at hlen hs;have G:=fQ hq;clear d f m hq;go_in;go_wp2;clear hlen;go_loopw [12] (fun i wr=>∃ k:Nat,k<=n/\i = .int .i64 k/\Hid (IM wr b (setKV (nV s (l.take k))))/\Hid (w.grownBy wr (some b))/\Hid (wr.heap.size=w.heap.size)) (fun i _=>n - (intOf i).toNat)
 case atStart=>exact⟨0,by omega,rfl,t,fQ (World.grownBy.refl _ _),fQ rfl⟩
 case round=>
  obtain⟨k,hk,rfl,z,o,B⟩:=hrel;by_cases H:k<n
  ·have I:decide ((k:Int)<n)=true:=(by simp;omega);have ai:(k:Int)<n:=(by omega);obtain⟨x,r⟩:∃ x,l[k]? = some x:=⟨_,Aj (by rw[y.out];exact H)⟩;obtain⟨ab,ao,rfl,hab,ak⟩:=(IR.grown u.out t.out o.out).cell r;have J:=fQ r;clear r;go_wp2_with (at_mapUpdate;refine cXb _ rfl _ _ _ 73 rfl 3 4 underlying73 underlying3 b (setKV (nV s (l.take k))) x (.bool true) rfl rfl rfl z.out ?_);rintro K h1 h2 C;rw[bXd,<-bVh]at h1
   have e:l.take k ++ [x]=l.take (k+1):=by
    obtain⟨L,e⟩:=List.getElem?_eq_some_iff.1 J.out;rw[List.take_succ_eq_append_getElem L,e]
   rw[e]at h1;have a:=fQ h1
   have M:=fQ (show w.grownBy K (some b)from by
    have g:=o.out
    refine⟨h2.os.trans g.os,h2.tape.trans g.tape,h2.output.trans g.output,Cj g.size h2.size,fun j D E=>(h2.block j (Nat.lt_of_lt_of_le D g.size) E).trans (g.block j D E)⟩)
   have N:=fQ (C.trans B.out);clear h1 h2 C e;go_wp2;exact⟨⟨k+1,by omega,by simp,a,M,N⟩,by simp[intOf];omega⟩
  ·have I:decide ((k:Int)<n)=false:=(by simp;omega);have e:l.take k=l:=Ai (by rw[y.out];omega);have a:=z.out;rw[e]at a;have F:=a.eZh (P:=fZ) underlying73 3;rw[bXb]at F;have O:=fQ a;obtain⟨p,hp⟩:=fX ((nV s l).length);rw[hp]at F;have Q:=fQ hp;clear a e hp;go_wp2;go_ret;unfold bWn;rw[Q.out,G.out];refine⟨?_,O.out,o.out,B.out⟩
   have e:decide ((q:Int)<(p:Int))=decide (q<p):=by
    by_cases h:q<p
    ·rw[decide_eq_true h,decide_eq_true (by omega)]
    ·rw[decide_eq_false h,decide_eq_false (by omega)]
   rw[<-e];rfl
theorem cYz(base g c:Nat)(a:List Int)(w:CJ)(h:w.ownsRow base 3 1 (.slice (some ⟨g,0,none⟩) a.length c) a.length (i64s a))(hz:a.length<4611686018427387904):
  Calls fZ 77 #[.slice (some ⟨g,0,none⟩) a.length c] w fun e w'=>e = .returned (.tuple #[])/\w'.ownsRow base 3 1 (.slice (some ⟨g,0,none⟩) a.length c) a.length (i64s (aQx a))/\w.grownBy w' (some g):=by
 refine(Tryz.slices_Sort_int g 0 c a w (cXc h) (h.lt g rfl).2 hz).mono ?_;rintro e w' ⟨rfl,n,os,rfl⟩;obtain⟨h1,h2⟩:=dZb (ys:=aQx a) (aJx a) h n os;rw[aJx]at h1;exact⟨rfl,h1,h2⟩
theorem cKi(h:s.Nodup):IsSet (aQx s) (fun x=>x∈s):=by
 refine⟨?_,fun x=>cXd s x⟩;have h1:=bJd s;have h2:(aQx s).Nodup:=(List.mergeSort_perm s _).nodup_iff.2 h;exact List.Pairwise.imp₂ (fun a b h1 h2=>by omega) h1 h2
def dVa(s:List Int)(w:CJ)(e:Ending)(w':CJ):Prop:=
 ∃ P A c,e = .returned (.slice A P.length c)/\w'.ownsRow w.heap.size 3 1 (.slice A P.length c) P.length (i64s P)/\IsSet P (fun x=>x∈s)/\P.length=s.length/\CX w.heap.size w w'
def dYw(s:List Int)(a:Nat)(w:CJ)(v:CQ)(wr:CJ):Prop:=
 ∃ (L:KV) (ks:List Int),IT wr a w.heap.size (setKV s) L/\wr.ownsRow (w.heap.size+1) 3 1 v ks.length (i64s ks)/\Cw (ks++L.map (·.1)) s/\CX w.heap.size w wr
theorem dQa(a:Nat)(s:List Int)(w:CJ)(hf:IM w a (setKV s))(hs:s.Nodup)(hF:s.length<=1000000):Calls fZ 47 #[.map (some a)] w (dVa s w):=by
 have aB:=hf.lt;have I:=fQ hf;have J:=fQ hs;clear hf hs;go_in;go_wp2_with (at_range;refine aZs _ rfl _ 73 rfl 3 4 underlying73 a (setKV s) rfl I.out ?_);rintro w1 b hg hz;have y:=fQ b;have z:=fQ hg;have K:=fQ hz;clear b hg hz;go_wp2;go_loopw [3] (fun v wr=>dYw s a w v wr) (fun _ wr=>wr.rangeLeft a w.heap.size)
 case atStart=>
  refine⟨setKV s,[],y.out,Bq _ _ _ _,?_,jV (Bz _ _) z.out (Ak _) (by simp)⟩
  have e:(setKV s).map (·.1)=s:=by simp[setKV,Function.comp_def]
  rw[e];exact List.Perm.refl _
 case round=>
  clear y z K;obtain⟨L,ks,b,B,r,C⟩:=hrel;have M:=fQ b;have iO:=fQ B;have D:=fQ r;have f:=fQ C;have hle:=b.left;have N:=fQ hle;have i:=r.length_eq;simp at i;clear b B r C hle;go_wp2_with (at_next;refine aVe _ rfl _ rfl a w.heap.size (setKV s) L rfl M.out ?_ ?_)
  ·rintro rfl;obtain⟨A,c,O,hc⟩:=gZ iO.out;subst O;have l:=fQ (show Cw ks s by have:=D.out;simpa using this);have m:ks.length=s.length:=l.out.length_eq;have E:=fQ m;have P:=fQ (l.out.nodup_iff.2 J.out);rcases Ah ks.length with n | n
   ·have Q:ks = []:=AZ n;subst Q;clear m n i;go_wp2_with fail;refine(Tryz.slices_Sort_int_none A c _).mono ?_;rintro e t ⟨rfl,rfl⟩;go_wp2;go_ret;refine⟨[],A,c,rfl,lZ iO.out (by omega),⟨by simp,fun x=>?_⟩,E.out,f.out⟩;exact l.out.mem_iff
   ·obtain⟨g,c',e,aC,aD,aE⟩:=nQ iO.out n;injection e with R e2 S;subst R;subst S;have T:ks.length<4611686018427387904:=(by omega);clear m i;go_wp2_with fail;refine(cYz (w.heap.size+1) g c ks _ iO.out T).mono ?_;rintro e t ⟨rfl,F,d⟩;have o:=fQ F;have p:=fQ (jV f.out d f.out.size (fun k j=>by injection j with j;omega));clear F d;go_wp2;go_ret;have e:=aJx ks;have G:=cKi P.out;exact⟨aQx ks,some ⟨g,0,none⟩,c,by rw[e];rfl,by rw[e];exact lZ o.out (by omega),⟨G.1,fun x=>(G.2 x).trans l.out.mem_iff⟩,e.trans E.out,p.out⟩
  ·rintro U k v V t rfl u d W aF;have X:=fQ u;have o:=fQ (lV iO.out d (fun g hg e=>by have:=(iO.out.lt g hg).1;injection e with e;omega));have p:=fQ (jV f.out d f.out.size (fun k j=>by injection j with j;omega));have Y:=p.out.size;have ay:=u.lt;have m:ks.length<s.length:=(by simp at i;omega);clear u d W i;go_wp2_with (at_builtin;refine kV _ rfl (.tmp 11) (.tmp 13) 23 rfl (w.heap.size+1) 3 (.int .i64 0) 1 8 underlying23 uZ rfl (by omega) _ ks.length (i64s ks) rfl (jY o.out _) (some ⟨t.heap.size,0,none⟩) 1 1 [.int .i64 k] rfl (bQd _ _ _) (aZg _ _) (by unfold maxLen;omega) (by omega) (by simp;omega) ?_);rintro v3 w3 h1 h2 Z _;have q:∀ g,u3.ownBlock=some g->w.heap.size+1<=g:=fun g hg=>(o.out.lt g hg).1;have H:=fQ ((X.out.alloc (.cells #[.int .i64 k] 3)).grown h2 (fun e=>by have:=q _ e;omega) (fun e=>by have:=q _ e;omega));have az:=fQ (jV (p.out.alloc Y (.cells #[.int .i64 k] 3)) h2 (by simp;omega) (fun g hg=>by have:=q g hg;omega));have aA:=fQ h1;have ai:=fQ H.out.left;clear h1 h2 Z q;go_wp2;go_roundw
   case rel=>
    refine⟨U++V,ks ++ [k],H.out,?_,?_,az.out⟩
    ·rw[aWf,BJ];exact aA.out
    ·have h:=D.out;simp only[Bw,Bk]at h ⊢;refine List.Perm.trans ?_ h;rw[AV];refine List.Perm.append_left ks ?_;simp only[List.singleton_append];exact List.perm_middle.symm
   case measure=>
    rw[ai.out,N.out];simp
def mapsV(l:List Nat):List CQ:=l.map fun b=>Cy (some b)
theorem tY(l:List Nat):(mapsV l).length=l.length:=by simp[mapsV]
def RowsOf(w:CJ)(base:Nat)(vs:List CQ)(P:List (List Int)):Prop:=vs.length=P.length/\∀ (i:Nat) u p,vs[i]? = some u->P[i]? = some p->w.ownsRow base 3 1 u p.length (i64s p)
theorem aQi{size:Nat}{a:List CQ}(h:w.ownsRow base t size v n a)(hg:v.ownBlock=some g):∃ cur,Blk w g t cur:=by
 rcases h.2 with⟨h1,_⟩ | ⟨g',cap,cur,h1,_,b,_⟩
 ·subst h1;cases hg
 ·subst h1;injection hg with hg;subst hg;exact⟨cur,b⟩
theorem RowsOf.grown{vs:List CQ}{P:List (List Int)}{r:Option Nat}(h:RowsOf w base vs P)(hg:w.grownBy w' r)(a:∀ g cs,Blk w g 3 cs->r≠some g):RowsOf w' base vs P:=
 ⟨h.1,fun i u p h1 h2=>lV (h.2 i u p h1 h2) hg (fun g b=>by
  obtain⟨cur,hb⟩:=aQi (h.2 i u p h1 h2) b
  exact a g cur hb)⟩
theorem RowsOf.push{vs:List CQ}{P:List (List Int)}{u:CQ}{p:List Int}(h:RowsOf w base vs P)(b:w.ownsRow base 3 1 u p.length (i64s p)):RowsOf w base (vs ++ [u]) (P ++ [p]):=by
 refine⟨by simp[h.1],fun i x y h1 h2=>?_⟩;by_cases hi:i<P.length
 ·rw[Ay (by rw[h.1];exact hi)]at h1;rw[Ay hi]at h2;exact h.2 i x y h1 h2
 ·rw[AQ (by omega)]at h2;rw[AQ (by rw[h.1];omega)]at h1
  have a:i - P.length=0:=by
   have:=(List.getElem?_eq_some_iff.1 h2).1;simp at this;omega
  rw[h.1,a]at h1;rw[a]at h2;simp at h1 h2;subst h1;subst h2;exact b
def bJs(A:List (List Int))(w:CJ)(e:Ending)(w':CJ):Prop:=
 ∃ v vs P,e = .returned v/\w'.ownsRow w.heap.size 23 1 v A.length vs/\RowsOf w' w.heap.size vs P/\P.length=A.length/\(∀ (i:Nat) s p,A[i]? = some s->P[i]? = some p->IsSet p (fun x=>x∈s))/\CX w.heap.size w w'
theorem aKe(gA:Nat)(bA:List Nat)(A:List (List Int))(w:CJ)(hb:Blk w gA 73 (mapsV bA).toArray)(B:bA.length=A.length)(C:∀ (i:Nat) b s,bA[i]? = some b->A[i]? = some s->IM w b (setKV s))
  (hs:∀ s∈A,s.Nodup/\s.length<=1000000) (hn:A.length<=1000000):Calls fZ 26 #[.slice (some ⟨gA,0,none⟩) A.length A.length] w (bJs A w):=by
 have d:=fQ hb;have R:=fQ B;have D:=fQ C;have E:=fQ hs;obtain⟨n,m⟩:=fX A.length;rw[m]at hn ⊢;have o:=fQ m;clear hb B C hs m;go_in;go_wp2;go_loopw [3,8] (fun v i wr=>∃ (k:Nat) (vs:List CQ) (P:List (List Int)),k<=n/\i = .int .i64 k/\Hid (wr.ownsRow w.heap.size 23 1 v k vs)/\Hid (RowsOf wr w.heap.size vs P)/\Hid (P.length=k)/\Hid (∀ (i:Nat) s p,A[i]? = some s->P[i]? = some p->IsSet p (fun x=>x∈s))/\Hid (CX w.heap.size w wr)) (fun _ i _=>n - (intOf i).toNat)
 case atStart=>exact⟨0,[],[],by omega,rfl,fQ (Bq _ _ _ _),fQ ⟨rfl,fun i u p h=>by simp at h⟩,fQ rfl,fQ (fun i s p _ h=>by simp at h),fQ (Bz _ _)⟩
 case round=>
  obtain⟨k,vs,P,hk,rfl,iO,F,r,G,c⟩:=hrel;obtain⟨H,I,S,_⟩:=gZ iO.out;subst S;by_cases J:k<n
  ·have T:decide ((k:Int)<n)=true:=(by simp;omega);have av:(k:Int)<n:=(by omega);obtain⟨s,e⟩:∃ s,A[k]? = some s:=⟨_,Aj (by rw[o.out];exact J)⟩;obtain⟨b,f⟩:∃ b,bA[k]? = some b:=⟨_,Aj (by rw[R.out,o.out];exact J)⟩;have U:=(d.out.below c.out d.out.lt).cell k;have e0:(mapsV bA).toArray[k]? = some (.map (some b)):=(by simp[mapsV,f]);rw[e0]at U;have t:=fQ e;have V:=fQ ((D.out k b s f e).below c.out (D.out k b s f e).lt);have hsz:=(d.out.below c.out d.out.lt).lt;have K:=c.out.size;clear e f e0;go_wp2_with fail;refine(dQa b s _ V.out (E.out s (Az t.out)).1 (E.out s (Az t.out)).2).mono ?_;rintro en w1 ⟨p,a,c1,rfl,ho,L,W,l⟩;have M:=fQ (lZ (base':=w.heap.size) ho K);have X:=fQ L;have Y:=fQ (oY iO.out l (Ak _));have Z:=fQ (F.out.grown (aQv l) (fun _ _ _=>by simp));have N:=fQ (c.out.trans (l.mono K));have az:=N.out.size;obtain⟨q,hq⟩:=fX p.length;rw[hq]at M ⊢;have HQ:=fQ hq;clear ho L l W hq;have y:=fQ (jY Y.out (.cells #[.slice a q c1] 23));have aA:=fQ (Z.out.grown (World.grownBy_alloc w1 (.cells #[.slice a q c1] 23) none) (fun _ _ _=>by simp));have aB:=fQ (N.out.alloc az (.cells #[.slice a q c1] 23));have O:=fQ (jY M.out (.cells #[.slice a q c1] 23));go_wp2_with (at_builtin;refine kV _ rfl (.tmp 12) (.tmp 15) 44 rfl w.heap.size 23 (.slice none 0 0) 1 24 underlying44 aXw rfl (by omega) (.slice H k I) k vs rfl y.out (some ⟨w1.heap.size,0,none⟩) 1 1 [.slice a q c1] rfl (Blk.eXm (cs:=#[.slice a q c1]) (Blk.newAt _ _ _ rfl) rfl) (by intro u hu;obtain rfl:=List.mem_singleton.1 hu;rfl) (by unfold maxLen;omega) (by omega) (by simp;omega) ?_);rintro v2 w2 h1 h2 h3 _;have z:∀ g cs,Blk (w1.alloc (.cells #[.slice a q c1] 23)) g 3 cs->(Ck H k I).ownBlock≠some g:=fun g cs hb=>own_ne y.out hb (by decide)
   have aC:=fQ ((aA.out.grown h2 z).push (u:=.slice a q c1) (p:=p) (by
    rw[HQ.out]
    exact lV O.out h2 (fun g hg=>by
     obtain⟨cur,hb⟩:=aQi O.out hg
     exact z g cur hb)))
   have aD:=fQ (jV aB.out h2 (by simp;omega) (fun j hj=>(y.out.lt j hj).1));have aE:=fQ h1;clear h1 h2 h3 z;go_wp2;refine⟨⟨k+1,_,P ++ [p],by omega,by simp,aE,aC,fQ (by simp[r.out]),fQ (fun i s' p' h1 h2=>?_),aD⟩,by simp[intOf];omega⟩;by_cases hi:i<P.length
   ·rw[Ay hi]at h2;exact G.out i s' p' h1 h2
   ·rw[AQ (by omega)]at h2
    have h0:i - P.length=0:=by
     have:=(List.getElem?_eq_some_iff.1 h2).1;simp at this;omega
    rw[h0]at h2;simp at h2;subst h2;have aF:i=k:=(by have:=r.out;omega);subst aF;rw[t.out]at h1;injection h1 with h1;subst h1;exact X.out
  ·have T:decide ((k:Int)<n)=false:=(by simp;omega);have Q:k=n:=(by omega);go_wp2;go_ret;unfold bJs;rw[o.out];exact⟨_,vs,P,rfl,Q ▸ iO.out,F.out,r.out.trans Q,G.out,c.out⟩
theorem aQu{e:EnvD}{r:RowD}{c:CodeD}(h:codeOk e r c=true):(∀ x∈c.args,0<=x/\x<r.places)/\(∀ x∈c.outs,0<=x/\x<r.places)/\c.outs.Nodup:=by
 unfold codeOk at h
 split at h
 ·cases h
 ·simp only[BZ,decide_eq_true_eq]at h;obtain⟨_,h1,h2,b,_⟩:=h;refine⟨fun x a=>?_,fun x a=>?_,b⟩
  ·have:=List.all_eq_true.1 h1 x a
   simpa using this
  ·have:=List.all_eq_true.1 h2 x a
   simpa using this
theorem Live.range{e:EnvD}{r:RowD}(h:CheckP e r)(a:Live r i x):0<=x/\x<r.places:=by
 induction a with
 | arg hc b=>exact(aQu (h.code _ (Az hc))).1 _ b
 | step _ _ _ _ c=>exact c
theorem LiveB.range{e:EnvD}{r:RowD}(h:CheckP e r){i:Nat}{x:Int}(a:LiveB r i x):0<=x/\x<r.places:=by
 obtain⟨_,_,k,_,b⟩:=a;exact b.range h
theorem LiveB.ahead{r:RowD}{c:CodeD}(hc:r.code[i]? = some c)(h:LiveB r i x)(ho:x ∉ c.outs):Live r i x:=by
 obtain⟨c',a,k,b,d⟩:=h;rw[hc]at a;injection a with a;subst a;exact .step hc b d ho
abbrev Sets:=List (List Int)
def Stab(r:RowD)(A B:Sets)(i:Nat):Prop:=∀ c s t,r.code[i]? = some c->A[i]? = some s->B[i]? = some t->(∀ x∈c.args,x∈s)/\∀ k:Nat,(k:Int)∈nextOf c i->∀ u,A[k]? = some u->∀ x∈u,x∈t/\(x ∉ c.outs->x∈s)
structure Snd (r:RowD) (A B:Sets):Prop where
 lA:A.length=r.code.length
 lB:B.length=r.code.length
 nA:∀ s∈A,s.Nodup
 nB:∀ s∈B,s.Nodup
 sA:∀ (i:Nat) s x,A[i]? = some s->x∈s->Live r i x
 sB:∀ (i:Nat) s x,B[i]? = some s->x∈s->LiveB r i x
theorem aWw{r:RowD}(hf:FlowOk r){A B:Sets}(hs:Snd r A B)(h:∀ i,i<r.code.length->Stab r A B i):
  (∀ (i:Nat) s x,A[i]? = some s->(x∈s↔Live r i x))/\(∀ (i:Nat) s x,B[i]? = some s->(x∈s↔LiveB r i x)):=by
 have key:∀ (i:Nat) x,Live r i x->∀ s,A[i]? = some s->x∈s:=by
  intro i x b
  induction b with
  | arg hc j=>
   rename_i i c p;intro s f;have a:=(List.getElem?_eq_some_iff.1 hc).1;exact(h i a c s _ hc f (Aj (by rw[hs.lB];exact a))).1 _ j
  | step hc d b ho l=>
   rename_i i k c p;intro s f;have a:=(List.getElem?_eq_some_iff.1 hc).1;have m:=(hf.to i c hc).1 _ d;have g:k<A.length:=(by rw[hs.lA];omega);have e:=Aj g;exact((h i a c s _ hc f (Aj (by rw[hs.lB];exact a))).2 k d _ e _ (l _ e)).2 ho
 refine⟨fun i s x hi=>⟨hs.sA i s x hi,fun b=>key i x b s hi⟩,fun i s x hi=>⟨hs.sB i s x hi,fun b=>?_⟩⟩;obtain⟨c,hc,k,d,n⟩:=b;have a:=(List.getElem?_eq_some_iff.1 hc).1;have m:=(hf.to i c hc).1 _ d;have g:k<A.length:=(by rw[hs.lA];omega);have e:=Aj g;exact((h i a c _ s hc (Aj (by rw[hs.lA];exact a)) hi).2 k d _ e _ (key k x n _ e)).1
structure LkInv (r:RowD) (A B:Sets) (todo:List Int) (wt:List Bool) (X:List Int):Prop where
 s:Snd r A B
 lw:wt.length=r.code.length
 tn:todo.Nodup
 tr:∀ x∈todo,∃ i:Nat,x=i/\i<r.code.length
 tw:∀ i:Nat,wt[i]? = some true↔(i:Int)∈todo
 st:∀ i,i<r.code.length->(i:Int) ∉ todo->(i:Int) ∉ X->Stab r A B i
def aWx(r:RowD)(F:Sets):Prop:=F.length=r.code.length/\(∀ (k:Nat) l,F[k]? = some l->∀ x∈l,∃ i:Nat,x=i/\i<r.code.length)/\∀ (i k:Nat) c l,r.code[i]? = some c->(k:Int)∈nextOf c i->F[k]? = some l->(i:Int)∈l
structure Work (r:RowD) (A0 B0 A B:Sets) (i:Nat) (c:CodeD) (s0:List Int) (D:List Int) (s t:List Int) (turns:Bool):Prop where
 a:A[i]? = some s
 b:B[i]? = some t
 ea:A=A0.set i s
 eb:B=B0.set i t
 i0:A0[i]? = some s0
 snd:Snd r A B
 arg:∀ x∈c.args,x∈s
 don:∀ k:Nat,(k:Int)∈D->∀ u,A[k]? = some u->∀ x∈u,x∈t/\(x ∉ c.outs->x∈s)
 inc:∀ x∈s0,x∈s
 ln:turns=true->s0.length<s.length
 ls:turns=false->s=s0
theorem qZ{α:Type}{l:List α}{x y:α}(h:(l.set i x)[j]? = some y):(i=j/\y=x/\i<l.length)\/(i≠j/\l[j]? = some y):=by
 by_cases e:i=j
 ·subst e;by_cases a:i<l.length
  ·rw[AJ a]at h;injection h with h;exact .inl ⟨rfl,h.symm,a⟩
  ·rw[List.getElem?_eq_none (by simp;omega)]at h;cases h
 ·rw[AX e]at h;exact .inr ⟨e,h⟩
theorem Snd.eZi{r:RowD}{A B:Sets}(h:Snd r A B)(hn:s.Nodup)(c:∀ x∈s,Live r i x):Snd r (A.set i s) B:=
  { h with lA:=by rw[AW];exact h.lA
           nA:=fun u a=>by
             rcases Ae a with a | a
             · exact h.nA u a
             · rw[a];exact hn
           sA:=fun j u x d b=>by
             rcases qZ d with⟨e,e2,_⟩ | ⟨e,e2⟩
             · subst e;subst e2;exact c x b
             · exact h.sA j u x e2 b }
theorem Snd.eXj{r:RowD}{A B:Sets}(h:Snd r A B)(hn:s.Nodup)(c:∀ x∈s,LiveB r i x):Snd r A (B.set i s):=
  { h with lB:=by rw[AW];exact h.lB
           nB:=fun u a=>by
             rcases Ae a with a | a
             · exact h.nB u a
             · rw[a];exact hn
           sB:=fun j u x d b=>by
             rcases qZ d with⟨e,e2,_⟩ | ⟨e,e2⟩
             · subst e;subst e2;exact c x b
             · exact h.sB j u x e2 b }
theorem Snd.eZj{r:RowD}{A B:Sets}(h:Snd r A B)(hi:A[i]? = some s):s.Nodup:=h.nA s (Az hi)
theorem Snd.eZt{r:RowD}{A B:Sets}(h:Snd r A B)(hi:B[i]? = some s):s.Nodup:=h.nB s (Az hi)
theorem Work.start{r:RowD}{A B:Sets}{c:CodeD}{t:List Int}(h:Snd r A B)(hc:r.code[i]? = some c)(ha:A[i]? = some s)(hb:B[i]? = some t):
  Work r A B (A.set i (nV s c.args)) B i c s [] (nV s c.args) t (decide (s.length<(nV s c.args).length)) where
 a:=by rw[AJ (List.getElem?_eq_some_iff.1 ha).1]
 b:=hb
 ea:=rfl
 eb:=by
  obtain⟨hl,e⟩:=List.getElem?_eq_some_iff.1 hb;rw[<-e,List.set_getElem_self]
 i0:=ha
 snd:=h.eZi (bJf (h.eZj ha)) (fun x d=>by
  rcases aZu.1 d with d | d
  ·exact h.sA i s x ha d
  ·exact .arg hc d)
 arg x d:=aZu.2 (.inr d)
 don k hk:=by simp at hk
 inc x d:=aZu.2 (.inl d)
 ln h:=by simpa using h
 ls h:=bVi (by simp at h;exact h)
theorem Work.behind{r:RowD}{A0 B0 A B:Sets}{c:CodeD}{t:List Int}{b:Bool}(h:Work r A0 B0 A B i c s0 D s t b)(hp:LiveB r i p):
  Work r A0 B0 A (B.set i (ins t p)) i c s0 D s (ins t p) b where
 a:=h.a
 b:=by rw[AJ (List.getElem?_eq_some_iff.1 h.b).1]
 ea:=h.ea
 eb:=by rw[h.eb,Cx]
 i0:=h.i0
 snd:=h.snd.eXj (aXu (h.snd.eZt h.b)) (fun x d=>by
  rcases vQ.1 d with d | d
  ·exact h.snd.sB i t x h.b d
  ·rw[d];exact hp)
 arg:=h.arg
 don k hk u hu x d:=⟨vQ.2 (.inl (h.don k hk u hu x d).1),(h.don k hk u hu x d).2⟩
 inc:=h.inc
 ln:=h.ln
 ls:=h.ls
theorem Work.fresh{r:RowD}{A0 B0 A B:Sets}{c:CodeD}{t:List Int}{b:Bool}(h:Work r A0 B0 A B i c s0 D s t b)(hp:Live r i p)(hn:p ∉ s)(g:p∈t):
  Work r A0 B0 (A.set i (s ++ [p])) B i c s0 D (s ++ [p]) t true where
 a:=by rw[AJ (List.getElem?_eq_some_iff.1 h.a).1]
 b:=h.b
 ea:=by rw[h.ea,Cx]
 eb:=h.eb
 i0:=h.i0
 snd:=h.snd.eZi (by
  rw[Ad]
  exact⟨h.snd.eZj h.a,by simp,fun a ha b hb e=>by simp at hb;subst hb;subst e;exact hn ha⟩) (fun x d=>by
  rcases List.mem_append.1 d with d | d
  ·exact h.snd.sA i s x h.a d
  ·simp at d;rw[d];exact hp)
 arg x d:=Aw _ (h.arg x d)
 don k f u j x d:=by
  rcases qZ j with⟨e,e2,_⟩ | ⟨e,e2⟩
  ·subst e;subst e2;rcases List.mem_append.1 d with d | d
   ·have:=h.don i f s h.a x d;exact⟨this.1,fun ho=>Aw _ (this.2 ho)⟩
   ·simp at d;subst d;exact⟨g,fun _=>by simp⟩
  ·have:=h.don k f u e2 x d;exact⟨this.1,fun ho=>Aw _ (this.2 ho)⟩
 inc x d:=Aw _ (h.inc x d)
 ln _:=by
  cases b with
  | true=>have:=h.ln rfl;simp;omega
  | false=>rw[h.ls rfl];simp
 ls h:=by cases h
theorem Work.next{r:RowD}{A0 B0 A B:Sets}{c:CodeD}{t:List Int}{b:Bool}(h:Work r A0 B0 A B i c s0 D s t b){u:List Int}(g:A[k]? = some u)
  (j:∀ x∈u,x∈t/\(x ∉ c.outs->x∈s)):Work r A0 B0 A B i c s0 (D ++ [(k:Int)]) s t b:=by
 refine { h with don:=fun k' a l d x f=>?_ };rcases List.mem_append.1 a with a | a
 ·exact h.don k' a l d x f
 ·simp at a;have e:k'=k:=(by omega);subst e;rw[g]at d;injection d with d;subst d;exact j x f
theorem LkInv.done{r:RowD}{A0 B0 A B:Sets}{wt:List Bool}{c:CodeD}{s0 D s t:List Int}{b:Bool}{F:Sets}{l:List Int}(h:LkInv r A0 B0 (T ++ [(i:Int)]) wt [])(hc:r.code[i]? = some c)
  (d:Work r A0 B0 A B i c s0 D s t b) (y:∀ k:Nat,(k:Int)∈nextOf c i->(k:Int)∈D) (hF:aWx r F) (z:F[i]? = some l):LkInv r A B T (wt.set i false) (if b then l else[]) where
 s:=d.snd
 lw:=by rw[AW];exact h.lw
 tn:=(List.nodup_append.1 h.tn).1
 tr x m:=h.tr x (Aw _ m)
 tw j:=by
  have C:=List.nodup_append.1 h.tn;by_cases e:i=j
  ·subst e;rw[AJ (by rw[h.lw];exact(List.getElem?_eq_some_iff.1 hc).1)];constructor
   ·intro e;cases e
   ·intro E;exact absurd rfl (C.2.2 _ E _ (by simp))
  ·rw[AX e,h.tw j,AK];constructor
   ·rintro(h | h)
    ·exact h
    ·simp at h;omega
   ·exact .inl
 st j G hjT H:=by
  have eA:∀ k:Nat,k≠i->A[k]? = A0[k]?:=fun k f=>by rw[d.ea,AX (fun e=>f e.symm)]
  have eB:∀ k:Nat,k≠i->B[k]? = B0[k]?:=fun k f=>by rw[d.eb,AX (fun e=>f e.symm)]
  intro q s' I n o p;by_cases e:j=i
  ·subst e;rw[hc]at n;injection n with n;subst n;rw[d.a]at o;rw[d.b]at p;injection o with o;injection p with p;subst o;subst p;exact⟨d.arg,fun k f u g x m=>d.don k (y k f) u g x m⟩
  ·have J:=h.st j G (fun K=>by
    rcases List.mem_append.1 K with h1 | h1
    ·exact hjT h1
    ·simp at h1;omega) (by simp)
   rw[eA j e]at o;rw[eB j e]at p;obtain⟨q1,v⟩:=J q s' I n o p;refine⟨q1,fun k f u g x m=>?_⟩;by_cases w:k=i
   ·subst w
    cases b with
    | false=>
     have:s=s0:=d.ls rfl;rw[d.a]at g;injection g with g;subst g;exact v k f s (by rw[this];exact d.i0) x m
    | true=>
     exact absurd (hF.2.2 j k q l n f z) (by simpa using H)
   ·rw[eA k w]at g;exact v k f u g x m
theorem LkInv.wait{r:RowD}{A B:Sets}{todo:List Int}{wt:List Bool}(h:LkInv r A B todo wt ((j:Int) :: X))(b:wt[j]? = some true):LkInv r A B todo wt X:=
  { h with st:=fun i hi h1 h2=>h.st i hi h1 (fun a=>by
      rcases List.mem_cons.1 a with a | a
      · have:i=j:=by omega
        subst this;exact h1 ((h.tw i).1 b)
      · exact h2 a) }
theorem LkInv.push{r:RowD}{A B:Sets}{todo:List Int}{wt:List Bool}(h:LkInv r A B todo wt ((j:Int) :: X))(g:wt[j]? = some false):LkInv r A B (todo ++ [(j:Int)]) (wt.set j true) X:=by
 have k:=(List.getElem?_eq_some_iff.1 g).1
 have l:(j:Int) ∉ todo:=fun f=>by have:=(h.tw j).2 f;rw[g]at this;cases this
 refine { s:=h.s,lw:=by rw[AW];exact h.lw,tn:=?_,tr:=fun x c=>?_,tw:=fun i=>?_,st:=fun i hi h1 h2=>?_ }
 ·rw[Ad];exact⟨h.tn,by simp,fun a ha b hb e=>by simp at hb;subst hb;subst e;exact l ha⟩
 ·rcases List.mem_append.1 c with c | c
  ·exact h.tr x c
  ·simp at c;exact⟨j,c,by rw[<-h.lw];exact k⟩
 ·by_cases e:j=i
  ·subst e;rw[AJ k];simp
  ·rw[AX e,h.tw i,AK];constructor
   ·exact .inl
   ·rintro(h | h)
    ·exact h
    ·simp at h;omega
 ·refine h.st i hi (fun f=>h1 (Aw _ f)) (fun d=>?_);rcases List.mem_cons.1 d with d | d
  ·exact h1 (by rw[d];simp)
  ·exact h2 d
theorem LkInv.start{r:RowD}(hn:r.code.length=n):LkInv r (Ax n []) (Ax n []) ((Bh n).map fun i:Nat=>(i:Int)) (Ax n true) []:=by
 have g:∀ (i:Nat) s x,(Ax n ([]:List Int))[i]? = some s->x∈s->False:=by
  intro i s x h c;obtain⟨d,e⟩:=List.getElem?_eq_some_iff.1 h;simp at e;subst e;simp at c
 refine { s:={ lA:=by simp[hn],lB:=by simp[hn],nA:=?_,nB:=?_,sA:=fun i s x h c=>(g i s x h c).elim,sB:=fun i s x h c=>(g i s x h c).elim },lw:=by simp[hn],tn:=?_,tr:=fun x c=>?_,tw:=fun i=>?_,st:=fun i hi h1 h2=>?_ }
 ·intro s hs;have:=Af hs;rw[this];simp
 ·intro s hs;have:=Af hs;rw[this];simp
 ·exact List.Pairwise.map (fun i:Nat=>(i:Int)) (fun a b h e=>h (by omega)) List.nodup_range
 ·obtain⟨i,hi,e⟩:=List.mem_map.1 c;exact⟨i,e.symm,by rw[hn];exact List.mem_range.1 hi⟩
 ·rw[List.getElem?_replicate];constructor
  ·intro h
   split at h
   ·rename_i d;exact List.mem_map.2 ⟨i,List.mem_range.2 d,rfl⟩
   ·cases h
  ·intro h;obtain⟨j,f,e⟩:=List.mem_map.1 h;have:j=i:=(by omega);subst this;rw[if_pos (List.mem_range.1 f)]
 ·exact absurd (List.mem_map.2 ⟨i,List.mem_range.2 (by omega),rfl⟩) h1
def vK(A:Sets):Nat:=(A.map List.length).sum
theorem dZc{A:Sets}(h:A[i]? = some s):vK (A.set i s')+s.length=vK A+s'.length:=by
 unfold vK
 induction A generalizing i with
 | nil=>simp at h
 | cons a A b=>
  cases i with
  | zero=>
   simp at h;subst h;simp;omega
  | succ i=>
   simp at h;have:=b h;simp only[List.set_cons_succ,Bk,List.sum_cons];omega
theorem sZ(hn:s.Nodup)(h:∀ x∈s,0<=x/\x<m):s.length<=m:=by
 have h1:s.length<=((Bh m).map fun i:Nat=>(i:Int)).length:=List.Nodup.length_le_of_subset hn fun x a=>by
  have:=h x a;exact List.mem_map.2 ⟨x.toNat,List.mem_range.2 (by omega),by omega⟩
 simpa using h1
theorem dKj{A:Sets}(h:∀ s∈A,s.length<=m):vK A<=A.length*m:=by
 unfold vK
 induction A with
 | nil=>simp
 | cons a A b=>
  have h1:=h a (by simp);have h2:=b (fun s hs=>h s (by simp[hs]));simp;rw[Cv];omega
theorem Snd.small{e:EnvD}{r:RowD}(hc:CheckP e r){A B:Sets}(h:Snd r A B):(∀ s∈A,s.length<=r.places.toNat)/\(∀ s∈B,s.length<=r.places.toNat):=by
 have hp:=hc.p1;refine⟨fun s hs=>?_,fun s hs=>?_⟩
 ·obtain⟨i,hi⟩:=List.mem_iff_getElem?.1 hs;exact sZ (h.nA s hs) (fun x a=>by have:=(h.sA i s x hi a).range hc;omega)
 ·obtain⟨i,hi⟩:=List.mem_iff_getElem?.1 hs;exact sZ (h.nB s hs) (fun x a=>by have:=(h.sB i s x hi a).range hc;omega)
def setsV(bA:List Nat)(n:Nat):Array CQ:=(mapsV bA++Ax (n - bA.length) (Cy none)).toArray
theorem aZv(h:bA[i]? = some b):(setsV bA n)[i]? = some (.map (some b)):=by
 unfold setsV;have a:=(List.getElem?_eq_some_iff.1 h).1;rw[Bb,Ay (by rw[tY];exact a)];simp[mapsV,h]
theorem aZw(h:bA.length=n):setsV bA n=(mapsV bA).toArray:=by
 unfold setsV;rw[h,BV];simp
theorem aZx(h:bA.length<n):(setsV bA n).setIfInBounds bA.length (.map (some b))=setsV (bA ++ [b]) n:=by
 unfold setsV;apply Array.ext_getElem?;intro j;have e:n - bA.length=(n - (bA ++ [b]).length)+1:=(by simp;omega);rw[e,By];rw[Array.getElem?_setIfInBounds];have a:=tY bA;by_cases c:bA.length=j
 ·subst c;rw[if_pos rfl,if_pos (by simp[a])];simp[mapsV]
 ·rw[if_neg c];simp only[Bb];have e2:mapsV (bA ++ [b])=mapsV bA ++ [.map (some b)]:=(by simp[mapsV]);rw[e2,AV];by_cases aa:j<bA.length
  ·rw[Ay (by omega),Ay (by omega)]
  ·rw[AQ (by omega),AQ (by omega),a];have hp:0<j - bA.length:=(by omega);obtain⟨q,hq⟩:∃ q,j - bA.length=q+1:=⟨j - bA.length - 1,by omega⟩;rw[hq];simp
structure LkM (w:CJ) (n base bR gF gA gB gFr gW:Nat) (rv:Array CQ) (bA bB:List Nat) (A B:Sets) (vF:List CQ) (F:Sets) (wt:List Bool):Prop where
 r:Blk w bR 43 rv
 f:Blk w gF 77 #[.slice (some ⟨gA,0,none⟩) n n,.slice (some ⟨gB,0,none⟩) n n]
 a:Blk w gA 73 (setsV bA n)
 b:Blk w gB 73 (setsV bB n)
 la:bA.length=A.length
 lb:bB.length=B.length
 ma:∀ (i:Nat) b s,bA[i]? = some b->A[i]? = some s->IM w b (setKV s)
 mb:∀ (i:Nat) b s,bB[i]? = some b->B[i]? = some s->IM w b (setKV s)
 nd:(bA++bB).Nodup
 fr:Blk w gFr 23 vF.toArray
 rf:RowsOf w base vF F
 w:Blk w gW 4 (boolsV wt).toArray
 lR:base<=bR
 lF:base<=gF
 lA:base<=gA
 lB:base<=gB
 lr:base<=gFr
 lW:base<=gW
 lm:∀ b∈bA++bB,base<=b
 hab:gA≠gB
section
variable {w w':CJ} {n base bR gF gA gB gFr gW:Nat} {rv:Array CQ} {bA bB:List Nat} {A B:Sets} {vF:List CQ} {F:Sets} {wt:List Bool}
theorem LkM.eXk(h:LkM w n base bR gF gA gB gFr gW rv bA bB A B vF F wt):base<=w.heap.size:=Nat.le_of_lt (Nat.lt_of_le_of_lt h.lR h.r.lt)
theorem LkM.keep{r:Option Nat}(h:LkM w n base bR gF gA gB gFr gW rv bA bB A B vF F wt)(hg:w.grownBy w' r)(h1:∀ g t cs,Blk w g t cs->t≠3->t≠52->r≠some g)(h2:∀ b m,IM w b m->r≠some b)(d:∀ u∈vF,∀ g,u.ownBlock=some g->r≠some g):
    LkM w' n base bR gF gA gB gFr gW rv bA bB A B vF F wt:=
  { h with r:=h.r.grown hg (h1 _ _ _ h.r (by decide) (by decide)),f:=h.f.grown hg (h1 _ _ _ h.f (by decide) (by decide)),a:=h.a.grown hg (h1 _ _ _ h.a (by decide) (by decide)),b:=h.b.grown hg (h1 _ _ _ h.b (by decide) (by decide)),fr:=h.fr.grown hg (h1 _ _ _ h.fr (by decide) (by decide)),w:=h.w.grown hg (h1 _ _ _ h.w (by decide) (by decide)),
           ma:=fun i b s q1 c=>(h.ma i b s q1 c).grown hg (h2 _ _ (h.ma i b s q1 c)),mb:=fun i b s q1 c=>(h.mb i b s q1 c).grown hg (h2 _ _ (h.mb i b s q1 c)),
           rf:=⟨h.rf.1,fun i u p q1 c=>lV (h.rf.2 i u p q1 c) hg (fun g e=>d u (Az q1) g e)⟩ }
theorem LkM.grown(h:LkM w n base bR gF gA gB gFr gW rv bA bB A B vF F wt)(hb:CX w.heap.size w w'):LkM w' n base bR gF gA gB gFr gW rv bA bB A B vF F wt:=
 h.keep (aQv hb) (fun _ _ _ _ _ _=>by simp) (fun _ _ _=>by simp) (fun _ _ _ _=>by simp)
theorem LkM.drew(h:LkM w n base bR gF gA gB gFr gW rv bA bB A B vF F wt):LkM w.drew n base bR gF gA gB gFr gW rv bA bB A B vF F wt:=
 { r:=h.r,f:=h.f,a:=h.a,b:=h.b,la:=h.la,lb:=h.lb,ma:=h.ma,mb:=h.mb,nd:=h.nd,fr:=h.fr,rf:=h.rf,w:=h.w,lR:=h.lR,lF:=h.lF,lA:=h.lA,lB:=h.lB,lr:=h.lr,lW:=h.lW,lm:=h.lm,hab:=h.hab }
theorem aZy{l:List Nat}(h:l.Nodup)(hi:l[i]? = some b)(d:l[j]? = some b):i=j:=by
 obtain⟨h1,c⟩:=List.getElem?_eq_some_iff.1 hi;obtain⟨h2,e2⟩:=List.getElem?_eq_some_iff.1 d;have hp:=List.pairwise_iff_getElem.1 h;rcases Nat.lt_trichotomy i j with a | he | a
 ·exact absurd (c.trans e2.symm) (hp i j h1 h2 a)
 ·exact he
 ·exact absurd (e2.trans c.symm) (hp j i h2 h1 a)
theorem LkM.eXx(h:LkM w n base bR gF gA gB gFr gW rv bA bB A B vF F wt)(hb:bA[i]? = some b)(hs:A[i]? = some s)(hg:w.grownBy w' (some b))(o:IM w' b (setKV s')):
    LkM w' n base bR gF gA gB gFr gW rv bA bB (A.set i s') B vF F wt:=by
  have hi:=h.ma i b s hb hs
  have hn:∀ g t cs,Blk w g t cs->(some b:Option Nat)≠some g:=fun g t cs l e=>by injection e with e;exact hi.eXp l e
  have m:=List.nodup_append.1 h.nd;have ho:∀ u p,w.ownsRow base 3 1 u p (i64s [])->True:=fun _ _ _=>trivial
  refine { h with r:=h.r.grown hg (hn _ _ _ h.r),f:=h.f.grown hg (hn _ _ _ h.f),a:=h.a.grown hg (hn _ _ _ h.a),b:=h.b.grown hg (hn _ _ _ h.b),fr:=h.fr.grown hg (hn _ _ _ h.fr),w:=h.w.grown hg (hn _ _ _ h.w),la:=by rw[AW];exact h.la,
                  ma:=fun j c u q1 k=>?_,mb:=fun j c u q1 k=>?_,rf:=⟨h.rf.1,fun j u p q1 k=>?_⟩ }
  · rcases qZ k with⟨e,e2,_⟩ | ⟨e,e2⟩
    · subst e
      subst e2;rw[hb]at q1;injection q1 with q1;subst q1;exact o
    · exact(h.ma j c u q1 e2).grown hg (fun d=>by injection d with d;subst d;exact e (aZy m.1 hb q1))
  · refine(h.mb j c u q1 k).grown hg (fun d=>?_)
    injection d with d;exact m.2.2 b (Az hb) c (Az q1) d
  · exact lV (h.rf.2 j u p q1 k) hg (fun g q e=>by
      obtain⟨cur,l⟩:=aQi (h.rf.2 j u p q1 k) q
      exact hn g _ _ l e)
theorem LkM.eXu(h:LkM w n base bR gF gA gB gFr gW rv bA bB A B vF F wt)(hb:bB[i]? = some b)(hs:B[i]? = some s)(hg:w.grownBy w' (some b))(o:IM w' b (setKV s')):
    LkM w' n base bR gF gA gB gFr gW rv bA bB A (B.set i s') vF F wt:=by
  have hi:=h.mb i b s hb hs
  have hn:∀ g t cs,Blk w g t cs->(some b:Option Nat)≠some g:=fun g t cs l e=>by injection e with e;exact hi.eXp l e
  have m:=List.nodup_append.1 h.nd
  refine { h with r:=h.r.grown hg (hn _ _ _ h.r),f:=h.f.grown hg (hn _ _ _ h.f),a:=h.a.grown hg (hn _ _ _ h.a),b:=h.b.grown hg (hn _ _ _ h.b),fr:=h.fr.grown hg (hn _ _ _ h.fr),w:=h.w.grown hg (hn _ _ _ h.w),lb:=by rw[AW];exact h.lb,
                  ma:=fun j c u q1 k=>?_,mb:=fun j c u q1 k=>?_,rf:=⟨h.rf.1,fun j u p q1 k=>?_⟩ }
  · refine(h.ma j c u q1 k).grown hg (fun d=>?_)
    injection d with d;exact m.2.2 c (Az q1) b (Az hb) d.symm
  · rcases qZ k with⟨e,e2,_⟩ | ⟨e,e2⟩
    · subst e
      subst e2;rw[hb]at q1;injection q1 with q1;subst q1;exact o
    · exact(h.mb j c u q1 e2).grown hg (fun d=>by injection d with d;subst d;exact e (aZy m.2.1 hb q1))
  · exact lV (h.rf.2 j u p q1 k) hg (fun g q e=>by
      obtain⟨cur,l⟩:=aQi (h.rf.2 j u p q1 k) q
      exact hn g _ _ l e)
theorem LkM.wait(h:LkM w n base bR gF gA gB gFr gW rv bA bB A B vF F wt)(i:Nat)(x:Bool):LkM (w.setCell ⟨gW,i,none⟩ (.bool x)) n base bR gF gA gB gFr gW rv bA bB A B vF F (wt.set i x):=by
  have hg:=nY w gW i (.bool x)
  have hn:∀ g t cs,Blk w g t cs->t≠4->(some gW:Option Nat)≠some g:=fun g t cs k l e=>by injection e with e;exact blk_ne h.w k (fun e=>l e.symm) e
  refine { h with r:=h.r.grown hg (hn _ _ _ h.r (by decide)),f:=h.f.grown hg (hn _ _ _ h.f (by decide)),a:=h.a.grown hg (hn _ _ _ h.a (by decide)),b:=h.b.grown hg (hn _ _ _ h.b (by decide)),fr:=h.fr.grown hg (hn _ _ _ h.fr (by decide)),w:=?_,
                  ma:=fun j c u q1 d=>(h.ma j c u q1 d).grown hg (fun e=>by injection e with e;exact(h.ma j c u q1 d).eXp h.w e.symm),
                  mb:=fun j c u q1 d=>(h.mb j c u q1 d).grown hg (fun e=>by injection e with e;exact(h.mb j c u q1 d).eXp h.w e.symm),
                  rf:=⟨h.rf.1,fun j u p q1 d=>lV (h.rf.2 j u p q1 d) hg (fun g m e=>by
                    obtain⟨cur,k⟩:=aQi (h.rf.2 j u p q1 d) m
                    exact hn g _ _ k (by decide) e)⟩ }
  have:=gQ h.w i (.bool x)
  have o:(boolsV wt).toArray.setIfInBounds i (.bool x)=(boolsV (wt.set i x)).toArray:=by
    simp[boolsV,Cz]
  rwa[o]at this
end
def DJ(vF:List CQ)(v:CQ):Prop:=(∀ (i j:Nat) a b g,i≠j->vF[i]? = some a->vF[j]? = some b->a.ownBlock=some g->b.ownBlock≠some g)/\∀ a∈vF,∀ g,a.ownBlock=some g->v.ownBlock≠some g
section
variable {w w':CJ} {n base bR gF gA gB gFr gW:Nat} {rv:Array CQ} {bA bB:List Nat} {A B:Sets} {vF:List CQ} {F:Sets} {wt:List Bool}
theorem LkM.eZu(h:LkM w n base bR gF gA gB gFr gW rv bA bB A B vF F wt)(v:bA.length<n)(hb:IM w b [])(hn:b ∉ bA++bB)(z:base<=b):
  LkM (w.setCell ⟨gA,bA.length,none⟩ (.map (some b))) n base bR gF gA gB gFr gW rv (bA ++ [b]) bB (A ++ [[]]) B vF F wt:=by
 have hg:=nY w gA bA.length (.map (some b));have k:∀ g t cs,Blk w g t cs->g≠gA->Blk (w.setCell ⟨gA,bA.length,none⟩ (.map (some b))) g t cs:=fun g t cs hb C=>hb.grown hg (fun e=>by injection e with e;exact C e.symm);have o:∀ c m,IM w c m->IM (w.setCell ⟨gA,bA.length,none⟩ (.map (some b))) c m:=fun c m hc=>hc.grown hg (fun e=>by injection e with e;exact hc.eXp h.a e.symm);have hab:=List.nodup_append.1 h.nd;rw[AK,not_or]at hn;refine { h with r:=k _ _ _ h.r (blk_ne h.r h.a (by decide)),f:=k _ _ _ h.f (blk_ne h.f h.a (by decide)),a:=?_,b:=k _ _ _ h.b (fun e=>h.hab e.symm),la:=by simp[h.la],ma:=fun i c s q1 d=>?_,mb:=fun i c s q1 d=>o _ _ (h.mb i c s q1 d),nd:=?_,fr:=k _ _ _ h.fr (blk_ne h.fr h.a (by decide)),rf:=⟨h.rf.1,fun i u p q1 d=>?_⟩,w:=k _ _ _ h.w (blk_ne h.w h.a (by decide)),lm:=fun c hc=>?_ }
 ·have:=gQ h.a bA.length (.map (some b))
  rwa[aZx v]at this
 ·by_cases hi:i<A.length
  ·rw[Ay (by rw[h.la];exact hi)]at q1;rw[Ay hi]at d;exact o _ _ (h.ma i c s q1 d)
  ·rw[AQ (by omega)]at d
   have q:i - A.length=0:=by
    have:=(List.getElem?_eq_some_iff.1 d).1;simp at this;omega
   rw[AQ (by rw[h.la];omega),h.la,q]at q1;rw[q]at d;simp at q1 d;subst q1;subst d;exact o _ _ hb
 ·rw[AV,Ad];refine⟨hab.1,?_,fun x l y j e=>?_⟩
  ·rw[Ad];exact⟨by simp,hab.2.1,fun x l y j e=>by simp at l;subst l;subst e;exact hn.2 j⟩
  ·subst e;rcases List.mem_append.1 j with j | j
   ·simp at j;subst j;exact hn.1 l
   ·exact hab.2.2 x l x j rfl
 ·exact lV (h.rf.2 i u p q1 d) hg (fun g D e=>by
   obtain⟨cur,k⟩:=aQi (h.rf.2 i u p q1 d) D;injection e with e
   exact blk_ne h.a k (by decide) e)
 ·rw[AV,AK,AK]at hc;rcases hc with hc | hc | hc
  ·exact h.lm c (Aw _ hc)
  ·simp at hc;rw[hc];exact z
  ·exact h.lm c (Bx _ hc)
theorem LkM.eZv(h:LkM w n base bR gF gA gB gFr gW rv bA bB A B vF F wt)(v:bB.length<n)(hb:IM w b [])(hn:b ∉ bA++bB)(z:base<=b):
  LkM (w.setCell ⟨gB,bB.length,none⟩ (.map (some b))) n base bR gF gA gB gFr gW rv bA (bB ++ [b]) A (B ++ [[]]) vF F wt:=by
 have hg:=nY w gB bB.length (.map (some b));have j:∀ g t cs,Blk w g t cs->g≠gB->Blk (w.setCell ⟨gB,bB.length,none⟩ (.map (some b))) g t cs:=fun g t cs hb C=>hb.grown hg (fun e=>by injection e with e;exact C e.symm);have l:∀ c m,IM w c m->IM (w.setCell ⟨gB,bB.length,none⟩ (.map (some b))) c m:=fun c m hc=>hc.grown hg (fun e=>by injection e with e;exact hc.eXp h.b e.symm);have hab:=List.nodup_append.1 h.nd;rw[AK,not_or]at hn;refine { h with r:=j _ _ _ h.r (blk_ne h.r h.b (by decide)),f:=j _ _ _ h.f (blk_ne h.f h.b (by decide)),b:=?_,a:=j _ _ _ h.a h.hab,lb:=by simp[h.lb],mb:=fun i c s q1 d=>?_,ma:=fun i c s q1 d=>l _ _ (h.ma i c s q1 d),nd:=?_,fr:=j _ _ _ h.fr (blk_ne h.fr h.b (by decide)),rf:=⟨h.rf.1,fun i u p q1 d=>?_⟩,w:=j _ _ _ h.w (blk_ne h.w h.b (by decide)),lm:=fun c hc=>?_ }
 ·have:=gQ h.b bB.length (.map (some b))
  rwa[aZx v]at this
 ·by_cases hi:i<B.length
  ·rw[Ay (by rw[h.lb];exact hi)]at q1;rw[Ay hi]at d;exact l _ _ (h.mb i c s q1 d)
  ·rw[AQ (by omega)]at d
   have o:i - B.length=0:=by
    have:=(List.getElem?_eq_some_iff.1 d).1;simp at this;omega
   rw[AQ (by rw[h.lb];omega),h.lb,o]at q1;rw[o]at d;simp at q1 d;subst q1;subst d;exact l _ _ hb
 ·rw[<-AV,Ad];refine⟨h.nd,by simp,fun x k y q e=>?_⟩;simp at q;subst q;subst e;rcases List.mem_append.1 k with k | k
  ·exact hn.1 k
  ·exact hn.2 k
 ·exact lV (h.rf.2 i u p q1 d) hg (fun g D e=>by
   obtain⟨cur,j⟩:=aQi (h.rf.2 i u p q1 d) D;injection e with e
   exact blk_ne h.b j (by decide) e)
 ·rw[<-AV,AK]at hc;rcases hc with hc | hc
  ·exact h.lm c hc
  ·simp at hc;rw[hc];exact z
theorem LkM.eZk(h:LkM w n base bR gF gA gB gFr gW rv bA bB A B vF F wt){y:List CQ}(hd:DJ vF v)(ho:w.ownsRow base 3 1 v m y){u d:CQ}{x:Int}(E:vF[k]? = some u)(R:F[k]? = some l)(hg:w.grownBy w' u.ownBlock)
    (M:w'.ownsRow base 3 1 d (l.length+1) (i64s (l ++ [x]))) (c:d.ownBlock=u.ownBlock\/d.ownBlock=some w.heap.size) :
    LkM (w'.setCell ⟨gFr,k,none⟩ d) n base bR gF gA gB gFr gW rv bA bB A B (vF.set k d) (F.set k (l ++ [x])) wt/\DJ (vF.set k d) v/\(w'.setCell ⟨gFr,k,none⟩ d).ownsRow base 3 1 v m y:=by
  have N:=h.rf.2 k u l E R;have O:∀ g t cs,Blk w g t cs->t≠3->u.ownBlock≠some g:=fun g t cs hb J=>own_ne N hb (fun e=>J e.symm);have P:∀ b m,IM w b m->u.ownBlock≠some b:=fun b m hb=>hb.eXs N;have H:=h.fr.grown hg (O _ _ _ h.fr (by decide));have gk:=nY w' gFr k d;have tr:∀ g t cs,Blk w g t cs->t≠3->g≠gFr->Blk (w'.setCell ⟨gFr,k,none⟩ d) g t cs:=fun g t cs hb J K=>(hb.grown hg (O g t cs hb J)).grown gk (fun e=>by injection e with e;exact K e.symm);have Q:∀ b m,IM w b m->IM (w'.setCell ⟨gFr,k,none⟩ d) b m:=fun b m hb=>(hb.grown hg (P b m hb)).grown gk (fun e=>by injection e with e;exact(hb.grown hg (P b m hb)).eXp H e.symm);have L:∀ a p y,w.ownsRow base 3 1 a p y->∀ g,a.ownBlock=some g->g<w.heap.size:=fun a p y ha g o=>(ha.lt g o).2
  have to:∀ a p y,w.ownsRow base 3 1 a p y->(∀ g,a.ownBlock=some g->u.ownBlock≠some g)->(w'.setCell ⟨gFr,k,none⟩ d).ownsRow base 3 1 a p y:=fun a p y ha K=>by
    have h1:=lV ha hg (fun g o=>K g o);exact iQ h1 (own_ne h1 H (by decide))
  refine⟨{ h with r:=tr _ _ _ h.r (by decide) (blk_ne h.r h.fr (by decide)),f:=tr _ _ _ h.f (by decide) (blk_ne h.f h.fr (by decide)),a:=tr _ _ _ h.a (by decide) (blk_ne h.a h.fr (by decide)),b:=tr _ _ _ h.b (by decide) (blk_ne h.b h.fr (by decide)),w:=tr _ _ _ h.w (by decide) (blk_ne h.w h.fr (by decide)),
                    ma:=fun i b s q1 z=>Q _ _ (h.ma i b s q1 z),mb:=fun i b s q1 z=>Q _ _ (h.mb i b s q1 z),fr:=?_,rf:=⟨by simp[h.rf.1],fun i a p q1 z=>?_⟩ },⟨fun i j a b g I q1 z D=>?_,fun a ha g o=>?_⟩,to v m y ho (fun g S e=>hd.2 u (Az E) g e S)⟩
  · have:=gQ H k d
    have T:vF.toArray.setIfInBounds k d=(vF.set k d).toArray:=by simp
    rwa[T]at this
  · rcases qZ q1 with⟨e,e2,_⟩ | ⟨e,e2⟩
    · subst e
      subst e2;rcases qZ z with⟨_,q,_⟩ | ⟨C,_⟩
      · subst q
        have G:(l ++ [x]).length=l.length+1:=(by simp);rw[G];exact iQ M (own_ne M H (by decide))
      · exact absurd rfl C
    · rw[AX e]at z
      exact to a _ _ (h.rf.2 i a p e2 z) (fun g o C=>hd.1 i k a u g (fun q=>e q.symm) e2 E o C)
  · rcases qZ q1 with⟨e,e2,_⟩ | ⟨e,e2⟩
    · subst e
      subst e2;rcases qZ z with⟨C,_,_⟩ | ⟨C,q⟩
      · exact absurd C I
      · rcases c with c | c
        · exact hd.1 k j u b g I E q (by rw[<-c];exact D)
        · intro G
          rw[c]at D;injection D with D;obtain⟨p,hp⟩:∃ p,F[j]? = some p:=⟨_,Aj (by rw[<-h.rf.1];exact(List.getElem?_eq_some_iff.1 q).1)⟩;have:=L b _ _ (h.rf.2 j b p q hp) g G;omega
    · rcases qZ z with⟨C,q,_⟩ | ⟨C,q⟩
      · subst C
        subst q;rcases c with c | c
        · rw[c];exact hd.1 i k a u g I e2 E D
        · rw[c]
          intro G;injection G with G;obtain⟨p,hp⟩:∃ p,F[i]? = some p:=⟨_,Aj (by rw[<-h.rf.1];exact(List.getElem?_eq_some_iff.1 e2).1)⟩;have:=L a _ _ (h.rf.2 i a p e2 hp) g D;omega
      · exact hd.1 i j a b g I e2 q D
  · rcases Ae ha with ha | ha
    · exact hd.2 a ha g o
    · subst ha
      rcases c with c | c
      · exact hd.2 u (Az E) g (by rw[<-c];exact o)
      · rw[c]at o
        injection o with o;intro e;have:=L v _ _ ho g e;omega
end
structure Looked (r:RowD) (w:CJ) (base gF gA gB:Nat) (bA bB:List Nat) (A B:Sets):Prop where
 f:Blk w gF 77 #[.slice (some ⟨gA,0,none⟩) r.code.length r.code.length,.slice (some ⟨gB,0,none⟩) r.code.length r.code.length]
 a:Blk w gA 73 (mapsV bA).toArray
 b:Blk w gB 73 (mapsV bB).toArray
 la:bA.length=A.length
 lb:bB.length=B.length
 ma:∀ (i:Nat) b s,bA[i]? = some b->A[i]? = some s->IM w b (setKV s)
 mb:∀ (i:Nat) b s,bB[i]? = some b->B[i]? = some s->IM w b (setKV s)
 s:Snd r A B
 eA:∀ (i:Nat) s x,A[i]? = some s->(x∈s↔Live r i x)
 eB:∀ (i:Nat) s x,B[i]? = some s->(x∈s↔LiveB r i x)
 lF:base<=gF
 lA:base<=gA
 lB:base<=gB
def cYb(e:EnvD)(r:RowD)(w:CJ)(a:Ending)(w':CJ):Prop:=
 (¬CheckP e r/\a = .returned (.tuple #[.pointer none,.int .i64 6])/\CX w.heap.size w w') \/
 (CheckP e r/\∃ gF gA gB bA bB A B,a = .returned (.tuple #[.pointer (some ⟨gF,0,none⟩),.int .i64 0])/\Looked r w' w.heap.size gF gA gB bA bB A B/\CX w.heap.size w w')
structure FromK (r:RowD) (F:Sets) (k:Nat) (d:List Int):Prop where
 l:F.length=r.code.length
 s:∀ (j:Nat) l,F[j]? = some l->(∀ x∈l,∃ i:Nat,x=i/\i<r.code.length)/\l.length<=66*k+d.length
 f:∀ (i j:Nat) c l,i<k->r.code[i]? = some c->(j:Int)∈nextOf c i->F[j]? = some l->(i:Int)∈l
 d:∀ (j:Nat) l,(j:Int)∈d->F[j]? = some l->(k:Int)∈l
theorem FromK.start{r:RowD}(h:r.code.length=n):FromK r (Ax n []) 0 [] where
 l:=by simp[h]
 s j l a:=by
  obtain⟨hl,e⟩:=List.getElem?_eq_some_iff.1 a;simp at e;subst e;simp
 f i j c l hi:=by omega
 d j l a:=by simp at a
theorem FromK.push{r:RowD}{F:Sets}(h:FromK r F k d)(m:k<r.code.length)(g:F[j]? = some l):FromK r (F.set j (l ++ [(k:Int)])) k (d ++ [(j:Int)]) where
 l:=by rw[AW];exact h.l
 s i u b:=by
  rcases qZ b with⟨e,e2,_⟩ | ⟨e,e2⟩
  ·subst e;subst e2;obtain⟨h1,h2⟩:=h.s j l g;refine⟨fun x a=>?_,by simp;omega⟩;rcases List.mem_append.1 a with a | a
   ·exact h1 x a
   ·simp at a;exact⟨k,a,m⟩
  ·obtain⟨h1,h2⟩:=h.s i u e2;exact⟨h1,by simp;omega⟩
 f i q c u hi hc hq b:=by
  rcases qZ b with⟨e,e2,_⟩ | ⟨e,e2⟩
  ·subst e;subst e2;exact Aw _ (h.f i j c l hi hc hq g)
  ·exact h.f i q c u hi hc hq e2
 d q u hq b:=by
  rcases qZ b with⟨e,e2,_⟩ | ⟨e,e2⟩
  ·subst e2;simp
  ·rcases List.mem_append.1 hq with hq | hq
   ·exact h.d q u hq e2
   ·simp at hq;omega
theorem FromK.next{r:RowD}{F:Sets}{c:CodeD}(h:FromK r F k d)(hc:r.code[k]? = some c)(hd:∀ x,x∈nextOf c k->x∈d)(hl:d.length<=66):FromK r F (k+1) [] where
 l:=h.l
 s j l a:=by
  obtain⟨h1,h2⟩:=h.s j l a;exact⟨h1,by simp;omega⟩
 f i j c' l hi b a hl':=by
  by_cases e:i=k
  ·subst e;rw[hc]at b;injection b with b;subst b;exact h.d j l (hd _ a) hl'
  ·exact h.f i j c' l (by omega) b a hl'
 d j l a:=by simp at a
theorem FromK.done{r:RowD}{F:Sets}(h:FromK r F n [])(hn:r.code.length=n):aWx r F:=
 ⟨h.l,fun k l a=>(h.s k l a).1,fun i k c l hc a b=>h.f i k c l (by rw[<-hn];exact(List.getElem?_eq_some_iff.1 hc).1) hc a b⟩
def rng(k:Nat):List Int:=(Bh k).map fun i:Nat=>(i:Int)
theorem aZk(k:Nat):(rng k).length=k:=by simp[rng]
theorem dZd(h:k<n):(rng k++Ax (n - k) 0).set k (k:Int)=rng (k+1)++Ax (n - (k+1)) 0:=by
 obtain⟨m,a⟩:∃ m,n - k=m+1:=⟨n - k - 1,by omega⟩;have b:n - (k+1)=m:=(by omega);rw[a,b,By];have e:rng (k+1)=rng k ++ [(k:Int)]:=(by simp[rng,List.range_succ]);rw[e,Bc _ _ (by rw[aZk];exact Ak _),aZk,BV];simp
theorem dKk(h:k<n):(Ax k true++Ax (n - k) false).set k true=Ax (k+1) true++Ax (n - (k+1)) false:=by
 obtain⟨m,a⟩:∃ m,n - k=m+1:=⟨n - k - 1,by omega⟩;have b:n - (k+1)=m:=(by omega);rw[a,b,By];rw[Bc _ _ (by simp),Ba,BV,Be];simp
def InRel(r:RowD)(n base bR gF gA gB gFr gW a:Nat)(rv:Array CQ)(w0:CJ)(k:Nat)(d:List Int)(j:Nat)(wr:CJ):Prop:=
 ∃ (bA bB:List Nat) (vF:List CQ) (F:Sets),bA.length=j/\bB.length=j/\LkM wr n base bR gF gA gB gFr gW rv bA bB (Ax j []) (Ax j []) vF F (Ax k true++Ax (n - k) false)/\DJ vF (.slice (some ⟨a,0,none⟩) n n) /\
  wr.ownsRow base 3 1 (.slice (some ⟨a,0,none⟩) n n) n (i64s (rng k++Ax (n - k) 0))/\FromK r F k d/\CX base w0 wr
section
variable {w w':CJ} {n base bR gF gA gB gFr gW:Nat} {rv:Array CQ} {bA bB:List Nat} {A B:Sets} {vF:List CQ} {F:Sets} {wt:List Bool}
theorem LkM.eZa(h:LkM w n base bR gF gA gB gFr gW rv bA bB A B vF F wt)(hb:b∈bA++bB):b<w.heap.size:=by
 rcases List.mem_append.1 hb with hb | hb
 ·obtain⟨i,hi⟩:=List.mem_iff_getElem?.1 hb;exact(h.ma i b _ hi (Aj (by rw[<-h.la];exact(List.getElem?_eq_some_iff.1 hi).1))).lt
 ·obtain⟨i,hi⟩:=List.mem_iff_getElem?.1 hb;exact(h.mb i b _ hi (Aj (by rw[<-h.lb];exact(List.getElem?_eq_some_iff.1 hi).1))).lt
theorem LkM.made(h:LkM w n base bR gF gA gB gFr gW rv bA bB A B vF F wt){f:Nat}(j:bA.length=k)(l:bB.length=k)(m:k<n)(g:(c=w.heap.size/\f=w.heap.size+1)\/(c=w.heap.size+1/\f=w.heap.size)):
  LkM ((((w.setCell ⟨gA,k,none⟩ (.map (some c))).setCell ⟨gB,k,none⟩ (.map (some f))).alloc (.map #[] 0)).alloc (.map #[] 0)) n base bR gF gA gB gFr gW rv (bA ++ [c]) (bB ++ [f]) (A ++ [[]]) (B ++ [[]]) vF F wt:=by
 subst j;have hz:=h.eXk;have lA:=h.a.lt;have lB:=h.b.lt
 have e:(((w.setCell ⟨gA,bA.length,none⟩ (.map (some c))).setCell ⟨gB,bA.length,none⟩ (.map (some f))).alloc (.map #[] 0)).alloc (.map #[] 0)=(((w.alloc (.map #[] 0)).alloc (.map #[] 0)).setCell ⟨gA,bA.length,none⟩ (.map (some c))).setCell ⟨gB,bA.length,none⟩ (.map (some f)):=by
  rw[AY _ _ _ _ (show gA<(w.alloc (.map #[] 0)).heap.size by simp;omega),AY _ _ _ _ lA,AY _ _ _ _ (show gB<((w.setCell ⟨gA,bA.length,none⟩ (.map (some c))).alloc (.map #[] 0)).heap.size by simp;omega),AY _ _ _ _ (show gB<(w.setCell ⟨gA,bA.length,none⟩ (.map (some c))).heap.size by simp;omega)]
 rw[e];have h2:LkM ((w.alloc (.map #[] 0)).alloc (.map #[] 0)) n base bR gF gA gB gFr gW rv bA bB A B vF F wt:=h.grown (al2 w _ _);have i0:IM ((w.alloc (.map #[] 0)).alloc (.map #[] 0)) w.heap.size []:=(IM.new w).alloc _;have i1:IM ((w.alloc (.map #[] 0)).alloc (.map #[] 0)) (w.heap.size+1) []:=IM.newAt (by simp);have o:IM ((w.alloc (.map #[] 0)).alloc (.map #[] 0)) c []:=(by rcases g with⟨e,_⟩ | ⟨e,_⟩ <;> rw[e] <;> assumption);have q:IM ((w.alloc (.map #[] 0)).alloc (.map #[] 0)) f []:=(by rcases g with⟨_,e⟩ | ⟨_,e⟩ <;> rw[e] <;> assumption);have b1:=h2.eZu m o (fun d=>by have:=h.eZa d;omega) (by omega);have r:=q.setCell (p:=⟨gA,bA.length,none⟩) (.map (some c)) (show f≠gA by omega)
 have i:=b1.eZv (by omega) r (fun d=>by
  rw[AV,AK,AK]at d;rcases d with d | d | d
  ·have:=h.eZa (Aw _ d);omega
  ·simp at d;omega
  ·have:=h.eZa (Bx _ d);omega) (by omega)
 rw[l]at i;exact i
end
theorem InRel.made{r:RowD}{n base bR gF gA gB gFr gW i k d f:Nat}{rv:Array CQ}{w0 w:CJ}(h:InRel r n base bR gF gA gB gFr gW i rv w0 k [] k w)(j:k<n)(l:(d=w.heap.size/\f=w.heap.size+1)\/(d=w.heap.size+1/\f=w.heap.size)):
  InRel r n base bR gF gA gB gFr gW i rv w0 k [] (k+1) ((((w.setCell ⟨gA,k,none⟩ (.map (some d))).setCell ⟨gB,k,none⟩ (.map (some f))).alloc (.map #[] 0)).alloc (.map #[] 0)):=by
 obtain⟨bA,bB,vF,F,h1,h2,c,o,g,q,s⟩:=h;have hz:=c.eXk;have m:=c.made h1 h2 j l;have e:Ax k ([]:List Int) ++ [[]]=Ax (k+1) []:=(by rw[Be]);rw[e]at m;refine⟨bA ++ [d],bB ++ [f],vF,F,by simp[h1],by simp[h2],m,o,?_,q,?_⟩
 ·have q1:=own_ne g c.a (show(3:Nat)≠73 by decide);have t:=own_ne g c.b (show(3:Nat)≠73 by decide);exact jY (jY (iQ (iQ g q1) t) _) _
 ·exact(((s.setCell (p:=⟨gA,k,none⟩) c.lA _).setCell (p:=⟨gB,k,none⟩) c.lB _).alloc (by simp;exact hz) _).alloc (by simp;omega) _
def InRel2(r:RowD)(n base bR gF gA gB gFr gW a:Nat)(rv:Array CQ)(w0:CJ)(k:Nat)(d:List Int)(vn:CQ)(ln:List Int)(wr:CJ):Prop:=
 ∃ (bA bB:List Nat) (vF:List CQ) (F:Sets),bA.length=k+1/\bB.length=k+1/\LkM wr n base bR gF gA gB gFr gW rv bA bB (Ax (k+1) []) (Ax (k+1) []) vF F (Ax k true++Ax (n - k) false)/\DJ vF (.slice (some ⟨a,0,none⟩) n n) /\
  wr.ownsRow base 3 1 (.slice (some ⟨a,0,none⟩) n n) n (i64s (rng k++Ax (n - k) 0))/\FromK r F k d/\CX base w0 wr/\DJ vF vn/\wr.ownsRow base 3 1 vn ln.length (i64s ln)
theorem InRel.two{r:RowD}{rv:Array CQ}(h:InRel r n base bR gF gA gB gFr gW c rv w0 k [] (k+1) w)(ho:w'.ownsRow w.heap.size 3 1 vn ln.length (i64s ln))(hb:CX w.heap.size w w'):
  InRel2 r n base bR gF gA gB gFr gW c rv w0 k [] vn ln w':=by
 obtain⟨bA,bB,vF,F,h1,h2,b,d,f,j,l⟩:=h;have hz:=b.eXk;refine⟨bA,bB,vF,F,h1,h2,b.grown hb,d,oY f hb (Ak _),j,l.trans (hb.mono hz),⟨d.1,fun a ha g hg e=>?_⟩,lZ ho hz⟩;obtain⟨i,hi⟩:=List.mem_iff_getElem?.1 ha;have m:i<F.length:=(by rw[<-b.rf.1];exact(List.getElem?_eq_some_iff.1 hi).1);have q1:=((b.rf.2 i a _ hi (Aj m)).lt g hg).2;have q2:=(ho.lt g e).1;omega
theorem InRel2.one{r:RowD}{rv:Array CQ}(h:InRel2 r n base bR gF gA gB gFr gW a rv w0 k d vn ln w):InRel r n base bR gF gA gB gFr gW a rv w0 k d (k+1) w:=by
 obtain⟨bA,bB,vF,F,h1,h2,b,c,e,f,g,_⟩:=h;exact⟨bA,bB,vF,F,h1,h2,b,c,e,f,g⟩
theorem InRel.mark{r:RowD}{c:CodeD}{rv:Array CQ}(h:InRel r n base bR gF gA gB gFr gW a rv w0 k d (k+1) w)(hc:r.code[k]? = some c)(hd:∀ x,x∈nextOf c k->x∈d)(o:d.length<=66)(i:k<n)(q:base<=a):
  InRel r n base bR gF gA gB gFr gW a rv w0 (k+1) [] (k+1) ((w.setCell ⟨a,k,none⟩ (.int .i64 (k:Int))).setCell ⟨gW,k,none⟩ (.bool true)):=by
 obtain⟨bA,bB,vF,F,h1,h2,j,l,f,s,v⟩:=h;obtain⟨s1,s2⟩:=f.stored k (.int .i64 (k:Int));have m:=j.keep s2 (fun g t cs hb q1 q2=>own_ne f hb (fun e=>q1 e.symm)) (fun b m hb=>hb.eXs f) (fun u y g hg=>l.2 u y g hg);have m2:=m.wait k true;rw[dKk i]at m2
 have e:(i64s (rng k++Ax (n - k) 0)).set k (.int .i64 (k:Int))=i64s (rng (k+1)++Ax (n - (k+1)) 0):=by
  rw[<-dZd i];simp[i64s,Cz]
 rw[e]at s1;refine⟨bA,bB,vF,F,h1,h2,m2,l,iQ s1 (own_ne s1 m.w (by decide)),s.next hc hd o,(v.setCell (p:=⟨a,k,none⟩) q _).setCell (p:=⟨gW,k,none⟩) j.lW _⟩
theorem InRel.drew{r:RowD}{n base bR gF gA gB gFr gW a k j:Nat}{d:List Int}{rv:Array CQ}{w0 w:CJ}(h:InRel r n base bR gF gA gB gFr gW a rv w0 k d j w):InRel r n base bR gF gA gB gFr gW a rv w0 k d j w.drew:=by
 obtain⟨bA,bB,vF,F,h1,h2,b,c,e,f,g⟩:=h;exact⟨bA,bB,vF,F,h1,h2,b.drew,c,bJa e,f,g.drew⟩
def MainRel(r:RowD)(n base bR gF gA gB gFr gW:Nat)(rv:Array CQ)(w0:CJ)(bA bB:List Nat)(vF:List CQ)(F:Sets)(v:CQ)(T:List Int)(A B:Sets)(wt:List Bool)(X:List Int)(wr:CJ):Prop:=
 LkM wr n base bR gF gA gB gFr gW rv bA bB A B vF F wt/\DJ vF v/\wr.ownsRow base 3 1 v T.length (i64s T)/\LkInv r A B T wt X/\CX base w0 wr
def muL(n p:Nat)(A:Sets)(T:List Int):Nat:=(n*p - vK A)*(n+1)+T.length
theorem InRel.main{r:RowD}{rv:Array CQ}(h:InRel r n base bR gF gA gB gFr gW a rv w0 n [] n w)(hn:r.code.length=n):
  ∃ bA bB vF F,bA.length=n/\bB.length=n/\aWx r F/\MainRel r n base bR gF gA gB gFr gW rv w0 bA bB vF F (.slice (some ⟨a,0,none⟩) n n) (rng n) (Ax n []) (Ax n []) (Ax n true) [] w:=by
 obtain⟨bA,bB,vF,F,h1,h2,b,d,c,e,f⟩:=h;simp only[BV,List.replicate_zero,Bg]at b c;refine⟨bA,bB,vF,F,h1,h2,e.done hn,b,d,?_,LkInv.start hn,f⟩;rw[aZk];exact c
def WkRel(n base bR gF gA gB gFr gW:Nat)(rv:Array CQ)(w0:CJ)(bA bB:List Nat)(vF:List CQ)(F:Sets)(v:CQ)(T:List Int)(gC:Nat)(cc:Array CQ)(A B:Sets)(wt:List Bool)(w:CJ):Prop:=
 LkM w n base bR gF gA gB gFr gW rv bA bB A B vF F wt/\DJ vF v/\w.ownsRow base 3 1 v T.length (i64s T)/\Blk w gC 52 cc/\base<=gC/\CX base w0 w
section
variable {n base bR gF gA gB gFr gW gC:Nat} {rv cc:Array CQ} {w0 w w':CJ} {bA bB:List Nat} {vF:List CQ} {F A B:Sets} {v:CQ} {T:List Int} {wt:List Bool}
theorem WkRel.grown(h:WkRel n base bR gF gA gB gFr gW rv w0 bA bB vF F v T gC cc A B wt w)(hb:CX w.heap.size w w'):WkRel n base bR gF gA gB gFr gW rv w0 bA bB vF F v T gC cc A B wt w':=by
 obtain⟨h1,h2,b,a,c,d⟩:=h;exact⟨h1.grown hb,h2,oY b hb (Ak _),a.below hb a.lt,c,d.trans (hb.mono h1.eXk)⟩
theorem WkRel.drew(h:WkRel n base bR gF gA gB gFr gW rv w0 bA bB vF F v T gC cc A B wt w):WkRel n base bR gF gA gB gFr gW rv w0 bA bB vF F v T gC cc A B wt w.drew:=by
 obtain⟨h1,h2,a,b,c,d⟩:=h;exact⟨h1.drew,h2,bJa a,b.drew,c,d.drew⟩
theorem WkRel.eXx(h:WkRel n base bR gF gA gB gFr gW rv w0 bA bB vF F v T gC cc A B wt w){i b:Nat}{s s':List Int}(hb:bA[i]? = some b)(hs:A[i]? = some s)(hg:w.grownBy w' (some b))(f:IM w' b (setKV s')):
  WkRel n base bR gF gA gB gFr gW rv w0 bA bB vF F v T gC cc (A.set i s') B wt w':=by
 obtain⟨h1,h2,c,d,j,k⟩:=h;have hi:=h1.ma i b s hb hs;exact⟨h1.eXx hb hs hg f,h2,lV c hg (fun g a e=>hi.eXs c (a.trans e.symm)),d.grown hg (fun e=>by injection e with e;exact hi.eXp d e),j,jV k hg h1.eXk (fun g a=>by injection a with a;rw[<-a];exact h1.lm b (Aw _ (Az hb)))⟩
theorem WkRel.eXu(h:WkRel n base bR gF gA gB gFr gW rv w0 bA bB vF F v T gC cc A B wt w){i b:Nat}{s s':List Int}(hb:bB[i]? = some b)(hs:B[i]? = some s)(hg:w.grownBy w' (some b))(f:IM w' b (setKV s')):
  WkRel n base bR gF gA gB gFr gW rv w0 bA bB vF F v T gC cc A (B.set i s') wt w':=by
 obtain⟨h1,h2,c,d,j,k⟩:=h;have hi:=h1.mb i b s hb hs;exact⟨h1.eXu hb hs hg f,h2,lV c hg (fun g a e=>hi.eXs c (a.trans e.symm)),d.grown hg (fun e=>by injection e with e;exact hi.eXp d e),j,jV k hg h1.eXk (fun g a=>by injection a with a;rw[<-a];exact h1.lm b (Bx _ (Az hb)))⟩
end
theorem MainRel.pop{r:RowD}{n base bR gF gA gB gFr gW b t c i:Nat}{rv cc:Array CQ}{w0 w:CJ}{bA bB:List Nat}{vF:List CQ}{F A B:Sets}{T:List Int}{x:Int}{wt:List Bool}{X:List Int}
  (h:MainRel r n base bR gF gA gB gFr gW rv w0 bA bB vF F (.slice (some ⟨b,0,none⟩) (t+1) c) (T ++ [x]) A B wt X w) (d:T.length=t) :
  WkRel n base bR gF gA gB gFr gW rv w0 bA bB vF F (.slice (some ⟨b,0,none⟩) t c) T w.heap.size cc A B (wt.set i false) ((w.setCell ⟨gW,i,none⟩ (.bool false)).alloc (.cells cc 52)):=by
 obtain⟨h1,h2,f,_,j⟩:=h;have l:(T ++ [x]).length=t+1:=(by simp[d]);rw[l]at f;have ho:=bJe (k:=t) f (by omega) (by simp)
 have e:(i64s (T ++ [x])).take (t*1)=i64s T:=by
  rw[BQ,<-d];unfold i64s;rw[Bw,List.take_left' (by simp)]
 rw[e]at ho;have m1:=h1.wait i false;have hz:(w.setCell ⟨gW,i,none⟩ (.bool false)).heap.size=w.heap.size:=(by simp);have q:(Ck (some ⟨b,0,none⟩) t c).ownBlock≠some gW:=own_ne ho h1.w (by decide);refine⟨m1.grown ((Bz _ _).alloc (Ak _) _),⟨h2.1,fun a ha g hg=>h2.2 a ha g hg⟩,?_,Blk.newAt _ _ _ hz,h1.eXk,(j.setCell (p:=⟨gW,i,none⟩) h1.lW _).alloc (by rw[hz];exact h1.eXk) _⟩;rw[d];exact jY (iQ ho q) _
theorem aWg{r:RowD}{A B:Sets}{wt:List Bool}(h:LkInv r A B T wt X):T.length<=r.code.length:=
 sZ h.tn (fun x a=>by obtain⟨i,e,hi⟩:=h.tr x a;omega)
theorem aXi{m d L:KV}(h:IT w b r m L)(f:IM w a d):a≠r:=by
 obtain⟨es,clock,seen,h1,h2,h3,h4,c,_⟩:=h;obtain⟨ad,aa,g,_⟩:=f;intro e;subst e;rw[g]at c;cases c
theorem yK{m L:KV}{cs:Array CQ}(h:IT w b r m L)(k:Blk w g t cs):r≠g:=by
 obtain⟨es,clock,seen,h1,h2,h3,h4,a,_⟩:=h;intro e;subst e;have:=a.symm.trans k;injection this with this;cases this
theorem aJy{size:Nat}{m L:KV}{a:List CQ}(h:IT w b r m L)(k:w.ownsRow base t size v n a):v.ownBlock≠some r:=by
 rcases k.2 with⟨h1,_⟩ | ⟨g,cap,cur,h1,h2,c,_⟩
 ·subst h1;simp[Bj]
 ·subst h1;intro e;injection e with e;exact yK h (show Blk w g t cur from c) e.symm
section
variable {n base bR gF gA gB gFr gW gC:Nat} {rv cc:Array CQ} {w0 w w':CJ} {bA bB:List Nat} {vF:List CQ} {F A B:Sets} {v:CQ} {T:List Int} {wt:List Bool}
theorem WkRel.turn(h:WkRel n base bR gF gA gB gFr gW rv w0 bA bB vF F v T gC cc A B wt w){rI:Nat}{m L:KV}(a:IT w b rI m L)(hg:w.grownBy w' (some rI))(hb:base<=rI):WkRel n base bR gF gA gB gFr gW rv w0 bA bB vF F v T gC cc A B wt w':=by
 obtain⟨h1,h2,c,d,f,j⟩:=h;refine⟨h1.keep hg (fun g t cs k _ _ e=>by injection e with e;exact yK a k e) (fun b' m' l e=>by injection e with e;exact aXi a l e.symm) (fun u o g p e=>?_),h2,lV c hg (fun g q e=>aJy a c (q.trans e.symm)),d.grown hg (fun e=>by injection e with e;exact yK a d e),f,jV j hg h1.eXk (fun g e=>by injection e with e;omega)⟩;obtain⟨i,hi⟩:=List.mem_iff_getElem?.1 o;have r:i<F.length:=(by rw[<-h1.rf.1];exact(List.getElem?_eq_some_iff.1 hi).1);exact aJy a (h1.rf.2 i u _ hi (Aj r)) (p.trans e.symm)
theorem WkRel.new(h:WkRel n base bR gF gA gB gFr gW rv w0 bA bB vF F v T gC cc A B wt w)(hg:w.grownBy w' none):WkRel n base bR gF gA gB gFr gW rv w0 bA bB vF F v T gC cc A B wt w':=by
 obtain⟨h1,h2,a,b,c,d⟩:=h;exact⟨h1.keep hg (fun _ _ _ _ _ _=>by simp) (fun _ _ _=>by simp) (fun _ _ _ _=>by simp),h2,lV a hg (fun g aa e=>by cases e),b.grown hg (by simp),c,jV d hg h1.eXk (fun g e=>by cases e)⟩
end
def WlRel(r:RowD)(n base bR gF gA gB gFr gW:Nat)(rv:Array CQ)(w0:CJ)(bA bB:List Nat)(vF:List CQ)(F:Sets)(v:CQ)(T:List Int)(gC:Nat)(cc:Array CQ)(wt:List Bool)(A0 B0:Sets)(i:Nat)(c:CodeD)(s0:List Int)(vn:CQ)(ln D:List Int)(b:Bool)(w:CJ):Prop:=
 ∃ A B s t,WkRel n base bR gF gA gB gFr gW rv w0 bA bB vF F v T gC cc A B wt w/\Work r A0 B0 A B i c s0 D s t b/\w.ownsRow base 3 1 vn ln.length (i64s ln)
def WiRel(r:RowD)(n base bR gF gA gB gFr gW:Nat)(rv:Array CQ)(w0:CJ)(bA bB:List Nat)(vF:List CQ)(F:Sets)(v:CQ)(T:List Int)(gC:Nat)(cc:Array CQ)(wt:List Bool)(A0 B0:Sets)(i:Nat)(c:CodeD)(s0:List Int)(vn:CQ)(ln D:List Int)(k:Nat)(u:List Int)(bk rI:Nat)(A B:Sets)(s t:List Int)(L:KV)(b:Bool)(w:CJ):Prop:=
 WkRel n base bR gF gA gB gFr gW rv w0 bA bB vF F v T gC cc A B wt w/\Work r A0 B0 A B i c s0 D s t b/\w.ownsRow base 3 1 vn ln.length (i64s ln) /\
  A[k]? = some u/\IT w bk rI (setKV u) L/\(∀ x∈u,x ∉ L.map (·.1)->x∈t/\(x ∉ c.outs->x∈s))/\(∀ x∈L.map (·.1),x∈u)/\base<=rI
section
variable {r:RowD} {n base bR gF gA gB gFr gW gC i:Nat} {rv cc:Array CQ} {w0 w w':CJ} {bA bB:List Nat} {vF:List CQ} {F:Sets} {v:CQ} {T:List Int} {wt:List Bool} {A0 B0 A B:Sets} {c:CodeD} {s0 s t ln D u:List Int} {vn:CQ} {b:Bool} {k bk rI:Nat} {L:KV}
theorem WiRel.start(h1:WkRel n base bR gF gA gB gFr gW rv w0 bA bB vF F v T gC cc A B wt w)(h2:Work r A0 B0 A B i c s0 D s t b)(d:w.ownsRow base 3 1 vn ln.length (i64s ln))(f:A[k]? = some u)(hg:w.grownBy w' none)(h:IT w' bk w.heap.size (setKV u) (setKV u)):
  WiRel r n base bR gF gA gB gFr gW rv w0 bA bB vF F v T gC cc wt A0 B0 i c s0 vn ln D k u bk w.heap.size A B s t (setKV u) b w':=by
 have e:(setKV u).map (·.1)=u:=by simp[setKV,Function.comp_def]
 refine⟨h1.new hg,h2,lV d hg (fun g aa e=>by cases e),f,h,fun x a hn=>absurd (by rw[e];exact a) hn,fun x a=>by rw[e]at a;exact a,h1.1.eXk⟩
theorem WiRel.done(h:WiRel r n base bR gF gA gB gFr gW rv w0 bA bB vF F v T gC cc wt A0 B0 i c s0 vn ln D k u bk rI A B s t [] b w):
  WlRel r n base bR gF gA gB gFr gW rv w0 bA bB vF F v T gC cc wt A0 B0 i c s0 vn ln (D ++ [(k:Int)]) b w:=by
 obtain⟨h1,h2,a,d,h5,e,h7,h8⟩:=h;exact⟨A,B,s,t,h1,h2.next d (fun x f=>e x f (by simp)),a⟩
theorem WiRel.turn{a d:KV}{p:Int}{x:CQ}(h:WiRel r n base bR gF gA gB gFr gW rv w0 bA bB vF F v T gC cc wt A0 B0 i c s0 vn ln D k u bk rI A B s t (a++(p,x) :: d) b w)(hI:IT w' bk rI (setKV u) (a++d))(hg:w.grownBy w' (some rI)):
  WkRel n base bR gF gA gB gFr gW rv w0 bA bB vF F v T gC cc A B wt w'/\w'.ownsRow base 3 1 vn ln.length (i64s ln)/\p∈u:=by
 obtain⟨h1,h2,f,h4,j,h6,l,m⟩:=h;exact⟨h1.turn j hg m,lV f hg (fun g o e=>aJy j f (o.trans e.symm)),l p (by simp)⟩
theorem cXf{a b:KV}{y:Int}{x:CQ}(h:y ∉ (a++b).map (·.1))(hp:y≠p):y ∉ (a++(p,x) :: b).map (·.1):=by
 simp only[Bw,Bk,AK,Bi,not_or]at h ⊢;exact⟨h.1,hp,h.2⟩
theorem bZu{a b:KV}{y:Int}{x:CQ}(h:y∈(a++b).map (·.1)):y∈(a++(p,x) :: b).map (·.1):=by
 simp only[Bw,Bk,AK,Bi]at h ⊢;rcases h with h | h
 ·exact .inl h
 ·exact .inr (.inr h)
theorem WiRel.skip{d f:KV}{x:CQ}{w1 j:CJ}{a:Nat}(h:WiRel r n base bR gF gA gB gFr gW rv w0 bA bB vF F v T gC cc wt A0 B0 i c s0 vn ln D k u bk rI A B s t (d++(p,x) :: f) b w)(l:IT w1 bk rI (setKV u) (d++f))(hg:w.grownBy w1 (some rI))
  (G:bA[k]? = some bk) (m:bB[i]? = some a) (H:IM j a (setKV (ins t p))) (o:w1.grownBy j (some a)) (hc:r.code[i]? = some c) (I:(k:Int)∈nextOf c i) (hs:p ∉ c.outs->p∈s) :
  WiRel r n base bR gF gA gB gFr gW rv w0 bA bB vF F v T gC cc wt A0 B0 i c s0 vn ln D k u bk rI A (B.set i (ins t p)) s (ins t p) (d++f) b j:=by
 obtain⟨q1,z,J⟩:=h.turn l hg;obtain⟨h1,h2,h3,C,h5,K,L,M⟩:=h;have N:LiveB r i p:=⟨c,hc,k,I,h2.snd.sA k u p C J⟩;have E:=q1.1.mb i a t m h2.b;have O:=List.nodup_append.1 q1.1.nd;have P:a≠bk:=fun e=>O.2.2 bk (Az G) a (Az m) e.symm;refine⟨q1.eXu m h2.b o H,h2.behind N,lV z o (fun g Q e=>E.eXs z (Q.trans e.symm)),C,l.grown o (fun e=>by injection e with e;exact P e) (fun e=>by injection e with e;exact aXi l E e),fun y q hn=>?_,fun y q=>L y (bZu q),M⟩;by_cases hp:y=p
 ·subst hp;exact⟨vQ.2 (.inr rfl),hs⟩
 ·obtain⟨a1,R⟩:=K y q (cXf hn hp);exact⟨vQ.2 (.inl a1),R⟩
theorem WiRel.put{l m:KV}{x:CQ}{w1 o q:CJ}{j d:Nat}(h:WiRel r n base bR gF gA gB gFr gW rv w0 bA bB vF F v T gC cc wt A0 B0 i c s0 vn ln D k u bk rI A B s t (l++(p,x) :: m) b w)(z:IT w1 bk rI (setKV u) (l++m))(hg:w.grownBy w1 (some rI))
  (L:bA[k]? = some bk) (C:bB[i]? = some d) (X:IM o d (setKV (ins t p))) (E:w1.grownBy o (some d)) (hc:r.code[i]? = some c) (Y:(k:Int)∈nextOf c i) (ho:p ∉ c.outs) (hs:p ∉ s) (G:bA[i]? = some j) (Z:IM q j (setKV (s ++ [p]))) (H:o.grownBy q (some j)) :
  WiRel r n base bR gF gA gB gFr gW rv w0 bA bB vF F v T gC cc wt A0 B0 i c s0 vn ln D k u bk rI (A.set i (s ++ [p])) (B.set i (ins t p)) (s ++ [p]) (ins t p) (l++m) true q:=by
 obtain⟨q1,M,N⟩:=h.turn z hg;obtain⟨h1,h2,h3,f,h5,h6,h7,h8⟩:=h;have O:LiveB r i p:=⟨c,hc,k,Y,h2.snd.sA k u p f N⟩;have P:=q1.1.mb i d t C h2.b;have Q:=List.nodup_append.1 q1.1.nd;have aq:d≠bk:=fun e=>Q.2.2 bk (Az L) d (Az C) e.symm
 have R:k≠i:=by
  intro e;subst e;rw[h2.a]at f;injection f with f;exact hs (f ▸ N)
 have af:j≠bk:=fun e=>R (aZy Q.1 (L.trans (congrArg some e.symm)) G);have S:=q1.eXu C h2.b E X;have I:=h2.behind O;have U:=lV M E (fun g J e=>P.eXs M (J.trans e.symm));have V:=z.grown E (fun e=>by injection e with e;exact aq e) (fun e=>by injection e with e;exact aXi z P e);have W:=S.1.ma i j s G I.a;refine⟨S.eXx G I.a H Z,I.fresh (O.ahead hc ho) hs (vQ.2 (.inr rfl)),lV U H (fun g J e=>W.eXs U (J.trans e.symm)),by rw[AX (fun e=>R e.symm)];exact f,V.grown H (fun e=>by injection e with e;exact af e) (fun e=>by injection e with e;exact aXi V W e),fun y K hn=>?_,fun y K=>h7 y (bZu K),h8⟩;by_cases hp:y=p
 ·subst hp;exact⟨vQ.2 (.inr rfl),fun _=>by simp⟩
 ·obtain⟨a1,a2⟩:=h6 y K (cXf hn hp);exact⟨vQ.2 (.inl a1),fun ho=>Aw _ (a2 ho)⟩
end
theorem WlRel.main{r:RowD}{n base bR gF gA gB gFr gW gC i:Nat}{rv cc:Array CQ}{w0 w:CJ}{bA bB:List Nat}{vF:List CQ}{F:Sets}{v:CQ}{T l:List Int}{wt:List Bool}{A0 B0:Sets}{c:CodeD}{s0 ln D:List Int}{vn:CQ}{b:Bool}{p:Nat}
  (h:WlRel r n base bR gF gA gB gFr gW rv w0 bA bB vF F v T gC cc (wt.set i false) A0 B0 i c s0 vn ln D b w) (hi:LkInv r A0 B0 (T ++ [(i:Int)]) wt []) (hc:r.code[i]? = some c) (a:∀ k:Nat,(k:Int)∈nextOf c i->(k:Int)∈D) (hF:aWx r F) (d:F[i]? = some l)
  (f:∀ A B,Snd r A B->∀ s∈A,s.length<=p) (hn:r.code.length=n) :
  ∃ A B,MainRel r n base bR gF gA gB gFr gW rv w0 bA bB vF F v T A B (wt.set i false) (if b then l else[]) w/\(b=true->vK A0<vK A)/\(b=false->vK A=vK A0)/\vK A<=n*p:=by
 obtain⟨A,B,s,t,h1,h2,h3⟩:=h;have e:=dZc (s':=s) h2.i0;rw[<-h2.ea]at e;refine⟨A,B,⟨h1.1,h1.2.1,h1.2.2.1,hi.done hc h2 a hF d,h1.2.2.2.2.2⟩,fun hb=>?_,fun hb=>?_,?_⟩
 ·have:=h2.ln hb;omega
 ·have:=h2.ls hb;rw[this]at e;omega
 ·have:=dKj (f A B h2.snd);rw[h2.snd.lA,hn]at this;exact this
theorem MainRel.waits{r:RowD}{rv:Array CQ}{vF:List CQ}{F:Sets}{A B:Sets}{wt:List Bool}(h:MainRel r n base bR gF gA gB gFr gW rv w0 bA bB vF F v T A B wt ((j:Int) :: X) w)(a:wt[j]? = some true):
  MainRel r n base bR gF gA gB gFr gW rv w0 bA bB vF F v T A B wt X w:=
 ⟨h.1,h.2.1,h.2.2.1,h.2.2.2.1.wait a,h.2.2.2.2⟩
theorem MainRel.push{r:RowD}{n base bR gF gA gB gFr gW:Nat}{rv:Array CQ}{w0 w w':CJ}{bA bB:List Nat}{vF:List CQ}{F:Sets}{v d:CQ}{T X:List Int}{A B:Sets}{wt:List Bool}{j:Nat}(h:MainRel r n base bR gF gA gB gFr gW rv w0 bA bB vF F v T A B wt ((j:Int) :: X) w)(k:wt[j]? = some false)
  (ho:w'.ownsRow base 3 1 d (T.length+1) (i64s (T ++ [(j:Int)]))) (hg:w.grownBy w' v.ownBlock) (c:d.ownBlock=v.ownBlock\/d.ownBlock=some w.heap.size) :
  MainRel r n base bR gF gA gB gFr gW rv w0 bA bB vF F d (T ++ [(j:Int)]) A B (wt.set j true) X (w'.setCell ⟨gW,j,none⟩ (.bool true)):=by
 obtain⟨h1,h2,f,l,o⟩:=h;have m:=h1.keep hg (fun g t cs hb q1 q2=>own_ne f hb (fun e=>q1 e.symm)) (fun b m hb=>hb.eXs f) (fun u s g x=>h2.2 u s g x);have hb:=jV o hg h1.eXk (fun g y=>(f.lt g y).1);refine⟨m.wait j true,⟨h2.1,fun a ha g i=>?_⟩,?_,l.push k,hb.setCell (p:=⟨gW,j,none⟩) h1.lW _⟩
 ·rcases c with c | c
  ·rw[c];exact h2.2 a ha g i
  ·rw[c];intro e;injection e with e;obtain⟨q,hq⟩:=List.mem_iff_getElem?.1 ha;have z:q<F.length:=(by rw[<-h1.rf.1];exact(List.getElem?_eq_some_iff.1 hq).1);have:=((h1.rf.2 q a _ hq (Aj z)).lt g i).2;omega
 ·have C:(T ++ [(j:Int)]).length=T.length+1:=(by simp);rw[C];exact iQ ho (own_ne ho m.w (by decide))
theorem bXe(w:CJ):(zeroValue 4).run fZ w = .ok (.bool false) w:=by kernel_rfl
theorem cYc{p:Nat}{A a:Sets}{b:List Int}(h1:vK A<vK a)(h2:vK a<=n*p)(h3:b.length<=n):muL n p a b<muL n p A T:=by
 unfold muL;generalize n*p=q at *;have c:(q - vK a+1)*(n+1)<=(q - vK A)*(n+1):=Bd _ (by omega);rw[Cv]at c;omega
theorem cYd{p:Nat}{A a:Sets}(h1:vK a=vK A):muL n p a T<muL n p A (T ++ [x]):=by
 unfold muL;rw[h1];simp
theorem dZe{p:Nat}{e:TypeId}{a:List CQ}(h:w.ownsRow p e 1 v n a):n<=9223372036854775807:=by
 rcases h.2 with⟨_,h⟩ | ⟨g',aa,cur,rfl,h1,h2,h3,b,r⟩
 ·omega
 ·unfold maxLen at b;omega
theorem MainRel.none{r:RowD}{rv:Array CQ}{vF:List CQ}{F:Sets}{A B:Sets}{wt:List Bool}(h:MainRel r n base bR gF gA gB gFr gW rv w0 bA bB vF F v T A B wt (if false=true then l else[]) w):
  MainRel r n base bR gF gA gB gFr gW rv w0 bA bB vF F v T A B wt [] w:=h
theorem MainRel.all{r:RowD}{rv:Array CQ}{vF:List CQ}{F:Sets}{A B:Sets}{wt:List Bool}(h:MainRel r n base bR gF gA gB gFr gW rv w0 bA bB vF F v T A B wt (if true=true then l else[]) w):
  MainRel r n base bR gF gA gB gFr gW rv w0 bA bB vF F v T A B wt l w:=h
theorem MainRel.alloc{r:RowD}{n base bR gF gA gB gFr gW:Nat}{rv:Array CQ}{w0 w:CJ}{bA bB:List Nat}{vF:List CQ}{F:Sets}{v:CQ}{T l:List Int}{A B:Sets}{wt:List Bool}(h:MainRel r n base bR gF gA gB gFr gW rv w0 bA bB vF F v T A B wt l w)(o:Obj):
  MainRel r n base bR gF gA gB gFr gW rv w0 bA bB vF F v T A B wt l (w.alloc o):=⟨h.1.grown ((Bz _ _).alloc (Ak _) _),h.2.1,jY h.2.2.1 _,h.2.2.2.1,h.2.2.2.2.alloc h.1.eXk _⟩
end Go.Proofs.YtabibkpfgmolkaaGreat

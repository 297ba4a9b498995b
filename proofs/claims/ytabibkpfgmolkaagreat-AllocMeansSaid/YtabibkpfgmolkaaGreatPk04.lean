/- Lemmas for the claim, part 4. Conditions: none. -/
import Derived.Test.YtabibkpfgmolkaaGreatPk03
set_option maxRecDepth 100000
set_option maxHeartbeats 16000000
set_option linter.unusedVariables false
set_option linter.unusedSimpArgs false
open Go.Lib renaming hid→fQ
open Go.Proofs.Tryz renaming prog→fZ
open Go.Proofs.Tryz
open Go.RowKit
open List renaming getElem?_eq_getElem→Aj,replicate→Aq,mem_of_getElem?→Ax,getElem?_append_left→Az,getElem?_append_right→Ak,mem_append_left→Aw,eq_nil_of_length_eq_zero→Ay,mem_append→AJ,getElem?_set_ne→AQ,getElem?_set_self→AX,append_assoc→AZ,length_set→AK,nodup_append→AW,mem_or_eq_of_mem_set→AY,mem_append_right→Aa,map_append→Ab,replicate_succ→Ad,map_cons→Ai,eq_of_mem_replicate→Bj,getElem?_toArray→Bz,set_append_right→Bk,replicate_succ'→Bv,append_nil→By,range→BJ,mem_cons→BQ,set_set→BX,map_set→BZ,Perm→BV
open Nat renaming le_refl→Av,eq_zero_or_pos→Ae,sub_self→Bx,add_mul→BK
open Go.World renaming setCell_alloc_past→AV,ownsRow_nil→Ah
open Go.RowKit.Below renaming refl→Af
open Bool renaming and_eq_true→Bq,eq_false_iff→Bw
open Go renaming World→BW,Value→BY
open Go.RowKit renaming Below→Ba
namespace Go.Proofs.YtabibkpfgmolkaaGreat
variable {n i base b k bR gF gA gB gFr gW j a g m r:Nat}{w w0 w':BW}{s T l s0 D X d s' ln:List Int}{v vn:BY}{bA bB:List Nat}{p x:Int}{t:TypeId}
theorem Structs.fXy{p q:BY}{s:SigD}(h:Blk w g t #[p,q])(h1:Ints w p s.inn)(h2:Ints w q s.out):Structs 2 SigC w (.slice (some ⟨g,0,none⟩) 1 1) [s]:=by
 refine⟨some ⟨g,0,none⟩,1,[[p,q]],rfl,by simp,(fun e=>by cases e),by simp,rfl,by simp,fun i r x q1 a=>?_,?_⟩
 ·match i,q1,a with
  | 0,q1,a=>
   simp at q1 a;subst q1;subst a;exact⟨p,q,rfl,h1,h2⟩
 ·have:=h.src 2 (by simp)
  simpa using this
def bJj(s:SigD):EnvD:=⟨[s],0,[],[],false⟩
theorem cZl(s:SigD):envOk (bJj s)=sigOk s:=by
 simp[envOk,bJj,kK]
theorem dQl{p q:BY}{s:SigD}(h:Blk w g t #[p,q])(h1:Ints w p s.inn)(h2:Ints w q s.out):EnvV w (.agg #[.slice (some ⟨g,0,none⟩) 1 1,.int .i64 0,.slice none 0 0,.slice none 0 0,.bool false]) (bJj s):=
 ⟨_,_,_,rfl,Structs.fXy h h1 h2,Ints.nil w,⟨none,0,rfl,Src.nil _ _,Av _,fun _=>rfl,by simp[bJj]⟩⟩
def aXh(op:Int):Bool:=decide (op ∈ [(273:Int),275,276,277])
theorem xQ(op:Int):aXh op=true↔(op=273\/op=275\/op=276\/op=277):=by simp[aXh]
theorem zZ{e:EnvD}{r:RowD}{c:CodeD}(h:codeOk e r c=true):(∀ x∈c.to,0<=x/\x<r.code.length)/\sX c.op<=c.to.length/\(c.to.length:Int)<=nJ c.op:=by
 unfold codeOk at h
 split at h
 ·cases h
 ·simp only[Bq,decide_eq_true_eq]at h;obtain⟨⟨_,_,h1,h2⟩,_,_,_,a⟩:=h;refine⟨fun x b=>?_,h1,h2⟩;have:=List.all_eq_true.1 a x b
  simpa using this
theorem bJk{e:EnvD}{r:RowD}(n1:1<=r.code.length)(n2:r.code.length<=4096)(hc:∀ c∈r.code,codeOk e r c=true)(g:∀ c,r.code[r.code.length - 1]? = some c->aXh c.op=true):FlowOk r:=by
 refine⟨n1,n2,fun i c hi=>?_⟩;obtain⟨h1,h2,h3⟩:=zZ (hc c (Ax hi));have ad:=(List.getElem?_eq_some_iff.1 hi).1
 have j:aXh c.op=false->(i:Int)+1<r.code.length:=by
  intro he;by_cases k:i=r.code.length - 1
  ·rw[k]at hi;have:=g c hi;rw[he]at this;cases this
  ·omega
 have d:c.op=274->0<c.to.length:=by
  intro e;rw[e]at h2;simp[sX]at h2;omega
 have ae:c.to.length<=65:=by
  have:nJ c.op<=65:=(by unfold nJ;split;omega;split <;> omega);omega
 refine⟨fun x b=>?_,d,?_⟩
 ·unfold nextOf at b
  split at b
  ·simp at b
  ·rename_i q1
   split at b
   ·exact h1 x b
   ·rename_i q2
    have he:aXh c.op=false:=by
     rw[Bw];intro h;rw[xQ]at h;omega
    have:=j he
    split at b
    ·rename_i m;simp at b;rcases b with b | b
     ·omega
     ·have f:=d m
      cases hct:c.to with
      | nil=>rw[hct]at f;simp at f
      | cons a l=>
       rw[hct]at b;simp at b;subst b;exact h1 _ (by rw[hct];simp)
    ·simp at b;omega
 ·unfold nextOf
  split
  ·simp
  ·split
   ·omega
   ·split <;> simp
theorem CheckP.fQl{e:EnvD}{r:RowD}(h:CheckP e r):FlowOk r:=bJk h.n1 h.n2 h.code (fun c hc=>(xQ _).2 (h.last c hc))
theorem dVh{e:EnvD}(h:envOk e=true):e.muts.length=e.globals.length:=by
 simp only[envOk,Bq,decide_eq_true_eq]at h;exact h.1.2.2.2
def ChkPost(e:EnvD)(r:RowD)(w:BW)(a:Ending)(w':BW):Prop:=∃ b:Bool,a = .returned (.bool b)/\(b=true↔CheckP e r)/\Ba w.heap.size w w'
theorem ChkPost.no{e:EnvD}{r:RowD}(h:¬CheckP e r)(a:Ba w.heap.size w w'):ChkPost e r w (.returned (.bool false)) w':=⟨false,rfl,⟨(fun h=>by cases h),(fun b=>absurd b h)⟩,a⟩
theorem aWq(e:EnvD)(r:RowD)(ve vr:BY)(w:BW)(he:EnvV w ve e)(hr:RowV w vr r):Calls fZ 44 #[ve,vr] w (ChkPost e r w):=by
 have HE:=fQ he;have HR:=fQ hr;obtain⟨va,vb,vd,rfl,h1,h2,h3⟩:=he;obtain⟨As,cs,rfl,_⟩:=h1.len;obtain⟨Ag,cg,rfl⟩:=h2.shape;obtain⟨Am,cm,rfl,_⟩:=h3;obtain⟨vp,vq,vr,vs,rfl,h4,h5,L,M⟩:=hr;have H4:=fQ h4;have H5:=fQ h5;have H6:=fQ L;have H7:=fQ M;obtain⟨i,cp,rfl⟩:=h4.shape;obtain⟨j,l,rfl⟩:=h5.shape;obtain⟨Ar,cr,rfl⟩:=L.shape;obtain⟨O,cc,rfl,_⟩:=M.len;obtain⟨_,l6,aM⟩:=L.fQb;obtain⟨_,l7,aN⟩:=M.fQb;have al:=fQ (al2 w (.cells #[.slice As e.sigs.length cs,.int .i64 e.imports,.slice Ag e.globals.length cg,.slice Am e.muts.length cm,.bool e.mem] 26) (.cells #[.slice i r.sig.inn.length cp,.slice j r.sig.out.length l,.int .i64 r.places,.slice Ar r.params.length cr,.slice O r.code.length cc] 43));have f:=fQ ((Blk.new w 26 #[.slice As e.sigs.length cs,.int .i64 e.imports,.slice Ag e.globals.length cg,.slice Am e.muts.length cm,.bool e.mem]).alloc (.cells #[.slice i r.sig.inn.length cp,.slice j r.sig.out.length l,.int .i64 r.places,.slice Ar r.params.length cr,.slice O r.code.length cc] 43));have g:=fQ (Blk.newAt (w.alloc (.cells #[.slice As e.sigs.length cs,.int .i64 e.imports,.slice Ag e.globals.length cg,.slice Am e.muts.length cm,.bool e.mem] 26)) (N:=w.heap.size+1) 43 #[.slice i r.sig.inn.length cp,.slice j r.sig.out.length l,.int .i64 r.places,.slice Ar r.params.length cr,.slice O r.code.length cc] (by simp));clear h1 h2 h4 h5 L M;go_in;go_wp2_with fail;refine(aJf _ e _ (HE.out.below al.out (Av _))).mono ?_;rintro m w1 ⟨rfl,P⟩;have a:=fQ (al.out.trans (P.mono al.out.size));have f:=fQ (f.out.below P f.out.lt);have g:=fQ (g.out.below P g.out.lt);clear P;obtain⟨o,s,u,x,y⟩:=gQ g.out;obtain⟨z,B,C,D,E⟩:=gQ f.out;have y0:=f.out.lt;have y1:=g.out.lt
 cases R:envOk e with
 | false=>
  have Q:=fQ R;clear R;go_wp2;go_ret;exact ChkPost.no (fun d=>by have:=d.env;rw[Q.out]at this;cases this) a.out
 | true=>
  have Q0:=fQ R;clear R;have S:=fQ (a.out.alloc a.out.size (.cells #[.slice i r.sig.inn.length cp,.slice j r.sig.out.length l] 40));have av:=fQ (f.out.alloc (.cells #[.slice i r.sig.inn.length cp,.slice j r.sig.out.length l] 40));have aw:=fQ (g.out.alloc (.cells #[.slice i r.sig.inn.length cp,.slice j r.sig.out.length l] 40));go_wp2_with fail;refine(aJf _ (bJj r.sig) _ (dQl (Blk.new w1 40 #[.slice i r.sig.inn.length cp,.slice j r.sig.out.length l]) (H4.out.below S.out (Av _)) (H5.out.below S.out (Av _)))).mono ?_;rintro m w2 ⟨rfl,T⟩;rw[cZl];have a:=fQ (S.out.trans (T.mono S.out.size));have f:=fQ (av.out.below T av.out.lt);have g:=fQ (aw.out.below T aw.out.lt);clear T;clear o s u x y z B C D E y0 y1;obtain⟨o,s,u,x,y⟩:=gQ g.out;obtain⟨z,B,C,D,E⟩:=gQ f.out;have y0:=f.out.lt;have y1:=g.out.lt
  cases q1:sigOk r.sig with
  | false=>
   have Q:=fQ q1;clear q1;go_wp2;go_ret;exact ChkPost.no (fun d=>by have:=d.sig;rw[Q.out]at this;cases this) a.out
  | true=>
   have Q1:=fQ q1;clear q1;by_cases F:r.code.length=0
   ·have g2:((r.code.length:Int) == 0)=true:=(by rw[F];rfl);have aA:(r.code.length == 0)=true:=(by rw[F];rfl);have aB:r.code = []:=Ay F;have Q:=fQ F;clear F;go_wp2;go_ret;exact ChkPost.no (fun d=>by have:=d.n1;rw[Q.out]at this;omega) a.out
   have g2:((r.code.length:Int) == 0)=false:=(by rw[beq_eq_false_iff_ne];omega);have aA:(r.code.length == 0)=false:=(by rw[beq_eq_false_iff_ne];omega);have aB:¬r.code = []:=fun e=>F (by rw[e];rfl);have aC:1<=r.code.length:=(by omega);by_cases q3:4096<r.code.length
   ·have g3:decide (4096<(r.code.length:Int))=true:=(by simp;omega);go_wp2;go_ret;exact ChkPost.no (fun d=>by have:=d.n2;omega) a.out
   have g3:decide (4096<(r.code.length:Int))=false:=(by simp;omega);have aD:r.code.length<=4096:=(by omega);by_cases q4:r.places<0
   ·have g4:decide (r.places<0)=true:=(by simpa using q4);go_wp2;go_ret;exact ChkPost.no (fun d=>by have:=d.p1;omega) a.out
   have g4:decide (r.places<0)=false:=(by simpa using q4);by_cases q5:4096<r.places
   ·have g5:decide (4096<r.places)=true:=(by simpa using q5);go_wp2;go_ret;exact ChkPost.no (fun d=>by have:=d.p2;omega) a.out
   have g5:decide (4096<r.places)=false:=(by simpa using q5);by_cases U:r.params.length=r.sig.inn.length
   ·have g6:((r.params.length:Int) != (r.sig.inn.length:Int))=false:=(by simp;omega);have aE:(r.params.length != r.sig.inn.length)=false:=(by simp;omega);have Q6:=fQ U;clear U;go_wp2_with fail;refine(pX r.places _ r.params _ (H6.out.ir.below a.out (Av _)) (by omega)).mono ?_;rintro m w3 ⟨rfl,V⟩;have a:=fQ (a.out.trans (V.mono a.out.size));have f:=fQ (f.out.below V f.out.lt);have g:=fQ (g.out.below V g.out.lt);clear V;clear o s u x y z B C D E y0 y1;obtain⟨o,s,u,x,y⟩:=gQ g.out;obtain⟨z,B,C,D,E⟩:=gQ f.out;have y0:=f.out.lt;have y1:=g.out.lt
    cases W:within r.places r.params with
    | false=>
     have Q:=fQ W;clear W;go_wp2;go_ret;exact ChkPost.no (fun d=>by have:=d.pin;rw[Q.out]at this;cases this) a.out
    | true=>
     have Q7:=fQ W;clear W;go_wp2_with fail;refine(aZl _ r.params _ (H6.out.ir.below a.out (Av _)) (by omega) (fun A n c h=>by injection h with e1 e2 e3;omega)).mono ?_;rintro m w4 ⟨rfl,rfl⟩;by_cases G:r.params.Nodup
     ·rw[decide_eq_true G];have Q8:=fQ G;clear G;go_wp2_with fail;refine(bVr O r.code.length cc r.code (fun c=>!codeOk e r c) w.heap.size (w.heap.size+1) _ (H7.out.below a.out (Av _) (fun _ _ h=>h.below a.out (Av _))) (by omega) (fun c hc v w' H hv=>cKj e r c _ _ v v v _ _ w' (HE.out.below (a.out.trans (H.mono a.out.size)) (Av _)) (HR.out.below (a.out.trans (H.mono a.out.size)) (Av _)) hv (dVh Q0.out) (f.out.below H f.out.lt) (g.out.below H g.out.lt))).mono ?_;rintro m w5 ⟨rfl,X⟩;have a:=fQ (a.out.trans (X.mono a.out.size));have f:=fQ (f.out.below X f.out.lt);have g:=fQ (g.out.below X g.out.lt);clear X;clear o s u x y z B C D E y0 y1;obtain⟨o,s,u,x,y⟩:=gQ g.out;obtain⟨z,B,C,D,E⟩:=gQ f.out;have y0:=f.out.lt;have y1:=g.out.lt
      cases Y:r.code.any (fun c=>!codeOk e r c)with
      | true=>
       have Q:=fQ Y;clear Y;go_wp2;go_ret;exact ChkPost.no (fun d=>by obtain⟨c,h1,h2⟩:=List.any_eq_true.1 Q.out;rw[d.code c h1]at h2;cases h2) a.out
      | false=>
       have Q9:=fQ (show ∀ c∈r.code,codeOk e r c=true from fun c hc=>by have:=List.any_eq_false.1 Y c hc;simpa using this);clear Y;have aF:(0:Int)<(r.code.length:Int):=(by omega);have aG:0<r.code.length:=(by omega);obtain⟨I,an⟩:∃ I,r.code[0]? = some I:=⟨_,Aj (by omega)⟩;obtain⟨c1,ao⟩:∃ c1,r.code[r.code.length - 1]? = some c1:=⟨_,Aj (by omega)⟩;have aq:=H7.out.below a.out (Av _) (fun _ _ h=>h.below a.out (Av _));obtain⟨gb,go,p,q,t,eA,aO,m0,_⟩:=aq.code an;obtain⟨aP,aQ,p',q',t',ar,aH,m1,_⟩:=aq.code ao;subst eA;injection ar with ar;injection ar with e1 e2;subst e1;subst e2;obtain⟨k,hk⟩:∃ k,r.code.length=k+1:=⟨r.code.length - 1,by omega⟩;rw[hk]at m1;simp only[Nat.add_sub_cancel,Nat.zero_mul,Nat.add_zero]at m0 m1;have aR:(k:Int)<(r.code.length:Int):=(by omega);have aI:k<r.code.length:=(by omega);have aS:(r.code.length:Int) - 1=(k:Int):=(by omega);have aT:((r.code.length:Int) - 1).toNat=k:=(by omega);have C0:=fQ an;have C1:=fQ ao;have HK:=fQ hk;clear an ao aq hk;by_cases J:I.op=258
       ·have g10:(I.op == 258)=true:=(by simpa using J);have au:=fQ J;clear J;have Z:=fQ (a.out.alloc a.out.size (.cells #[.int .i64 273,.int .i64 275,.int .i64 276,.int .i64 277] 3));have aU:=fQ (f.out.alloc (.cells #[.int .i64 273,.int .i64 275,.int .i64 276,.int .i64 277] 3));have aV:=fQ (g.out.alloc (.cells #[.int .i64 273,.int .i64 275,.int .i64 276,.int .i64 277] 3));go_wp2_with fail;refine(wQ _ [273,275,276,277] c1.op _ ⟨_,_,rfl,Blk.fQc (cs:=#[.int .i64 273,.int .i64 275,.int .i64 276,.int .i64 277]) (Blk.new _ _ _) rfl⟩ (by simp)).mono ?_;rintro m w6 ⟨rfl,rfl⟩
        cases K:aXh c1.op with
        | false=>
         have aj:=fQ K;rw[show decide (c1.op ∈ [(273:Int),275,276,277])=false from K];clear K;go_wp2;go_ret;exact ChkPost.no (fun d=>by have:=d.last c1 C1.out;rw[<-xQ,aj.out]at this;cases this) Z.out
        | true=>
         have aj:=fQ K;rw[show decide (c1.op ∈ [(273:Int),275,276,277])=true from K];clear K;have ak:=fQ (show 1<=r.code.length/\r.code.length<=4096 from⟨aC,aD⟩);go_wp2_with fail;refine(dXn r _ _ (HR.out.below Z.out (Av _)) (bJk ak.out.1 ak.out.2 Q9.out (fun c hc=>by rw[C1.out]at hc;injection hc with hc;rw[<-hc];exact aj.out))).mono ?_;rintro m w7 ⟨b,rfl,ax,ay⟩;have aJ:=fQ (Z.out.trans (ay.mono Z.out.size));have az:=fQ ax;clear ay ax;go_wp2;go_ret;refine⟨!b,rfl,⟨fun H=>?_,fun d=>?_⟩,aJ.out⟩
         ·have aK:¬b=true:=(by simpa using H);have aL:Ranked r:=Classical.byContradiction fun h=>aK (az.out.2 h);exact⟨Q0.out,Q1.out,ak.out.1,ak.out.2,by omega,by omega,Q6.out,Q7.out,Q8.out,Q9.out,(fun c hc=>by rw[C0.out]at hc;injection hc with hc;rw[<-hc];exact au.out),(fun c hc=>by rw[C1.out]at hc;injection hc with hc;rw[<-hc];exact(xQ _).1 aj.out),aL⟩
         ·cases b with
          | false=>rfl
          | true=>exact absurd d.rank (az.out.1 rfl)
       ·have g10:(I.op == 258)=false:=(by simpa using J);have au:=fQ J;clear J;go_wp2;go_ret;exact ChkPost.no (fun d=>au.out (d.first I C0.out)) (a.out.alloc a.out.size _)
     ·rw[decide_eq_false G];have Q8:=fQ G;clear G;go_wp2;go_ret;exact ChkPost.no (fun d=>Q8.out d.pun) a.out
   ·have g6:((r.params.length:Int) != (r.sig.inn.length:Int))=true:=(by simp;omega);have aE:(r.params.length != r.sig.inn.length)=true:=(by simp;omega);have Q6:=fQ U;clear U;go_wp2;go_ret;exact ChkPost.no (fun d=>Q6.out d.par) a.out
def oV(c:CodeD)(i:Nat):List Int:=c.to++if aXh c.op then[]else[(i:Int)+1]
theorem aJw{e:EnvD}{r:RowD}{c:CodeD}(h:codeOk e r c=true)(i:Nat)(x:Int):x∈oV c i↔x∈nextOf c i:=by
 obtain⟨_,h2,h3⟩:=zZ h;unfold oV nextOf;by_cases b:c.op=276\/c.op=277
 ·have f:nJ c.op=0:=(by rcases b with e | e <;> rw[e] <;> decide);have:c.to = []:=Ay (by omega);have he:aXh c.op=true:=(xQ _).2 (by omega);simp[b,this,he]
 ·by_cases e2:c.op=273\/c.op=275
  ·have he:aXh c.op=true:=(xQ _).2 (by omega);simp[b,e2,he]
  ·have he:aXh c.op=false:=by
    rw[Bw];intro h;rw[xQ]at h;omega
   by_cases d:c.op=274
   ·have hl:sX c.op=1:=(by rw[d];decide);have f:nJ c.op=1:=(by rw[d];decide);have h1:c.to.length=1:=(by omega)
    match aa:c.to,h1 with
    | [a],_=>
     rw[if_neg b,if_neg e2,if_pos d,he];simp;exact or_comm
   ·have f:nJ c.op=0:=by
     unfold nJ;rw[if_neg (by omega),if_neg (by omega)]
    have:c.to = []:=Ay (by omega);simp[b,e2,d,this,he]
def dQu(l:List Int)(w:BW)(a:Ending)(w':BW):Prop:=∃ v,a = .returned v/\w'.ownsRow w.heap.size 3 1 v l.length (i64s l)/\Ba w.heap.size w w'
theorem aJx(v:BY)(l:List Int)(w:BW)(hs:IR w v l)(j:l.length<=1000000):Calls fZ 50 #[v] w (dQu l w):=by
 have aa:∀ (w:BW) (a:Option Addr) (n c d f:Nat),(binOp .eql 23 (.slice a n c) (.slice none d f)).run fZ w = .ok (.bool a.isNone) w:=fun w a n c d f=>Lib.run_eql_slice_nil w 23 3 a n c d f underlying23;obtain⟨A,c,rfl,hs⟩:=hs;have g:=fQ hs;obtain⟨n,hn⟩:=fX l.length;rw[hn]at g j ⊢;have k:=fQ hn
 cases A with
 | none=>
  have i:n=0:=by
   rcases Ae n with h | h
   ·exact h
   ·obtain⟨b,o,e,_⟩:=g.out.2 h;cases e
  have h1:l = []:=Ay (by omega);subst h1;have H0:=fQ i;clear hs hn i;go_in;go_wp2;go_ret;exact⟨_,rfl,Ah _ _ _ _,Af _ _⟩
 | some a=>
  clear hs hn;go_in;go_wp2_with (at_builtin;refine aXd _ rfl (.tmp 5) (.tmp 6) 23 rfl w.heap.size 3 (.int .i64 0) 8 underlying23 oK rfl (.slice (some ⟨w.heap.size,0,none⟩) 0 0) 0 [] rfl (Blk.own (n:=0) (cs:=#[]) (Blk.new w _ _) (Av _) rfl (by omega)) (some a) n c (i64s l) rfl (g.out.alloc _) (aVe _) (by unfold maxLen;omega) (by omega) (by simp) ?_);rintro v' w' h1 h2;have H1:=fQ h1;have m:=fQ (((Af w.heap.size w).alloc (Av _) (.cells #[] 3)).trans h2);clear h1 h2;go_wp2;go_ret;unfold dQu;rw[k.out];exact⟨_,rfl,H1.out,m.out⟩
def eJu(c:CodeD)(i:Nat)(w:BW)(a:Ending)(w':BW):Prop:=∃ v,a = .returned v/\w'.ownsRow w.heap.size 3 1 v (oV c i).length (i64s (oV c i))/\Ba w.heap.size w w'
theorem bYi(r:RowD)(h:BY)(i:Nat)(c:CodeD)(w:BW)(hr:RowV w h r)(hi:r.code[i]? = some c)(u:c.to.length<=65)(aq:r.code.length<=4096):
  Calls fZ 45 #[h,.int .i64 (i:Int)] w (eJu c i w):=by
 obtain⟨vp,vq,h,vs,rfl,x,y,z,j⟩:=hr;obtain⟨A,cp,rfl⟩:=x.shape;obtain⟨B,C,rfl⟩:=y.shape;obtain⟨D,E,rfl⟩:=z.shape;obtain⟨Ac,cc,rfl,_⟩:=j.len;have ar:i<r.code.length:=(List.getElem?_eq_some_iff.1 hi).1;have ah:(i:Int)<(r.code.length:Int):=(by omega);have au:i<4096:=(by omega);obtain⟨a,go,p,q,t,rfl,av,c0,c1,c2,c3,c4,s0,s1,s2,s3⟩:=j.code hi;obtain⟨F,G,rfl⟩:=s1.shape;obtain⟨H,I,rfl⟩:=s2.shape;obtain⟨J,tc,rfl⟩:=s3.shape;have ai:a<w.heap.size+1:=(by omega);have aj:a<w.heap.size+1+1:=(by omega);have Q:=fQ s3.ir;have b:=fQ (al2 w (.cells #[.slice A r.sig.inn.length cp,.slice B r.sig.out.length C,.int .i64 r.places,.slice D r.params.length E,.slice (some ⟨a,go,none⟩) r.code.length cc] 43) (.cells #[.int .i64 c.op,.int .u64 (c.n:Int),.slice F c.args.length G,.slice H c.outs.length I,.slice J c.to.length tc] 52));have K:=fQ (Blk.newAt (w.alloc (.cells #[.slice A r.sig.inn.length cp,.slice B r.sig.out.length C,.int .i64 r.places,.slice D r.params.length E,.slice (some ⟨a,go,none⟩) r.code.length cc] 43)) (N:=w.heap.size+1) 52 #[.int .i64 c.op,.int .u64 (c.n:Int),.slice F c.args.length G,.slice H c.outs.length I,.slice J c.to.length tc] (by simp));have L:=fQ u;clear x y z j hi s0 s1 s2 s3 u;go_in;go_wp2_with fail;refine(aJx _ c.to _ (Q.out.below b.out (Av _)) (by have:=L.out;omega)).mono ?_;rintro R w1 ⟨v,rfl,k,l⟩;obtain⟨S,T,rfl,_⟩:=fW k;have M:=fQ (b.out.trans (l.mono b.out.size));have O:=fQ (K.out.below l K.out.lt);have U:=fQ (jX k b.out.size);clear k l;obtain⟨V,W,X,Y,Z⟩:=gQ O.out;have y1:=O.out.lt;go_wp2_with fail;refine(wQ _ [273,275,276,277] c.op _ ⟨_,_,rfl,Blk.fQc (cs:=#[.int .i64 273,.int .i64 275,.int .i64 276,.int .i64 277]) (Blk.new _ _ _) rfl⟩ (by simp)).mono ?_;rintro R w6 ⟨rfl,rfl⟩;have d:=fQ (M.out.alloc M.out.size (.cells #[.int .i64 273,.int .i64 275,.int .i64 276,.int .i64 277] 3));have o:=fQ (iJ U.out (.cells #[.int .i64 273,.int .i64 275,.int .i64 276,.int .i64 277] 3));obtain⟨m,f⟩:=fX c.to.length;rw[f]at o ⊢;have al:m<=65:=(by rw[<-f];exact L.out);have P:=fQ f;clear f V W X Y Z
 cases he:aXh c.op with
 | true=>
  rw[show decide (c.op ∈ [(273:Int),275,276,277])=true from he];have s:=fQ he;clear he;go_wp2;go_ret;refine⟨_,rfl,?_,d.out⟩;unfold oV;rw[s.out,if_pos rfl,By];have g:=o.out;rw[P.out];exact g
 | false=>
  rw[show decide (c.op ∈ [(273:Int),275,276,277])=false from he];have s:=fQ he;clear he;have an:=fQ (iJ o.out (.cells #[.int .i64 ((i:Int)+1)] 3));have ao:=d.out.size;go_wp2_with (at_builtin;refine aXd _ rfl (.tmp 20) (.tmp 23) 23 rfl w.heap.size 3 (.int .i64 0) 8 underlying23 oK rfl (.slice S m T) m (i64s c.to) rfl an.out (some ⟨w1.heap.size+1,0,none⟩) 1 1 [.int .i64 ((i:Int)+1)] rfl (Blk.fQc (cs:=#[.int .i64 ((i:Int)+1)]) (Blk.newAt _ _ _ (by simp)) rfl) (aZo _ _) (by unfold maxLen;omega) (by omega) (by simp at ao ⊢;omega) ?_);rintro v' w' h1 h2;obtain⟨A2,aw,rfl,_⟩:=fW h1;have H1:=fQ h1;have H2:=fQ ((d.out.alloc d.out.size (.cells #[.int .i64 ((i:Int)+1)] 3)).trans h2);clear h1 h2;go_wp2;go_ret;refine⟨_,rfl,?_,H2.out⟩;unfold oV;rw[s.out,if_neg (by simp)];have g:=H1.out;have e:i64s c.to ++ [.int .i64 ((i:Int)+1)]=i64s (c.to ++ [(i:Int)+1]):=(by simp[i64s]);rw[e]at g;have e2:(c.to ++ [(i:Int)+1]).length=m+1:=(by simp[P.out]);rw[e2];exact g
theorem IR.grown{w w':BW}{v:BY}{l:List Int}{b:Nat}{m:KV}(h:IR w v l)(f:IM w b m)(hg:w.grownBy w' (some b)):IR w' v l:=by
 obtain⟨A,c,e,hs⟩:=h;refine⟨A,c,e,?_⟩;rcases Ae l.length with d | d
 ·have:l = []:=Ay d;subst this;exact Src.nil _ _
 ·exact hs.grown hg (fun a ha e=>f.fXu hs d a ha (by injection e with e;exact e.symm))
def cZm(b:Nat)(s l:List Int)(w:BW)(a:Ending)(w':BW):Prop:=
 a = .returned (.bool (decide (s.length<(lY s l).length)))/\IM w' b (setKV (lY s l))/\w.grownBy w' (some b)/\w'.heap.size=w.heap.size
theorem aYr(b:Nat)(s l:List Int)(v:BY)(w:BW)(d:IM w b (setKV s))(f:IR w v l)(hn:l.length<=1152921504606846976)(hs:s.length<=1000000):Calls fZ 25 #[.map (some b),v] w (cZm b s l w):=by
 obtain⟨A,c,rfl⟩:=f.shape;have hlen:=d.fXf (P:=fZ) underlying73 3;rw[bKb]at hlen;have t:=fQ d;have u:=fQ f;obtain⟨n,m⟩:=fX l.length;have y:=fQ m;rw[m]at u hn ⊢;obtain⟨q,hq⟩:=fX s.length;rw[hq]at hlen hs;have F:=fQ hq;clear d f m hq;go_in;go_wp2;clear hlen;go_loopw [12] (fun i wr=>∃ k:Nat,k<=n/\i = .int .i64 k/\Hid (IM wr b (setKV (lY s (l.take k))))/\Hid (w.grownBy wr (some b))/\Hid (wr.heap.size=w.heap.size)) (fun i _=>n - (intOf i).toNat)
 case atStart=>exact⟨0,by omega,rfl,t,fQ (World.grownBy.refl _ _),fQ rfl⟩
 case round=>
  obtain⟨k,hk,rfl,z,o,B⟩:=hrel;by_cases G:k<n
  ·have H:decide ((k:Int)<n)=true:=(by simp;omega);have ai:(k:Int)<n:=(by omega);obtain⟨x,r⟩:∃ x,l[k]? = some x:=⟨_,Aj (by rw[y.out];exact G)⟩;obtain⟨ab,ao,rfl,hab,hcl⟩:=(IR.grown u.out t.out o.out).cell r;have I:=fQ r;clear r;go_wp2_with (at_mapUpdate;refine bWk _ rfl _ _ _ 73 rfl 3 4 underlying73 underlying3 b (setKV (lY s (l.take k))) x (.bool true) rfl rfl rfl z.out ?_);rintro J h1 h2 C;rw[aWk,<-bQg]at h1
   have e:l.take k ++ [x]=l.take (k+1):=by
    obtain⟨K,e⟩:=List.getElem?_eq_some_iff.1 I.out;rw[List.take_succ_eq_append_getElem K,e]
   rw[e]at h1;have a:=fQ h1
   have L:=fQ (show w.grownBy J (some b)from by
    have g:=o.out
    refine⟨h2.os.trans g.os,h2.tape.trans g.tape,h2.output.trans g.output,Nat.le_trans g.size h2.size,fun j hj D=>(h2.block j (Nat.lt_of_lt_of_le hj g.size) D).trans (g.block j hj D)⟩)
   have M:=fQ (C.trans B.out);clear h1 h2 C e;go_wp2;exact⟨⟨k+1,by omega,by simp,a,L,M⟩,by simp[intOf];omega⟩
  ·have H:decide ((k:Int)<n)=false:=(by simp;omega);have e:l.take k=l:=List.take_of_length_le (by rw[y.out];omega);have a:=z.out;rw[e]at a;have E:=a.fXf (P:=fZ) underlying73 3;rw[bKb]at E;have N:=fQ a;obtain⟨p,hp⟩:=fX ((lY s l).length);rw[hp]at E;have O:=fQ hp;clear a e hp;go_wp2;go_ret;unfold cZm;rw[O.out,F.out];refine⟨?_,N.out,o.out,B.out⟩
   have e:decide ((q:Int)<(p:Int))=decide (q<p):=by
    by_cases h:q<p
    ·rw[decide_eq_true h,decide_eq_true (by omega)]
    ·rw[decide_eq_false h,decide_eq_false (by omega)]
   rw[<-e];rfl
theorem dVy(base g c:Nat)(a:List Int)(w:BW)(h:w.ownsRow base 3 1 (.slice (some ⟨g,0,none⟩) a.length c) a.length (i64s a))(hz:a.length<4611686018427387904):
  Calls fZ 77 #[.slice (some ⟨g,0,none⟩) a.length c] w fun e w'=>e = .returned (.tuple #[])/\w'.ownsRow base 3 1 (.slice (some ⟨g,0,none⟩) a.length c) a.length (i64s (aZj a))/\w.grownBy w' (some g):=by
 refine(Tryz.slices_Sort_int g 0 c a w (cWi h) (h.lt g rfl).2 hz).mono ?_;rintro e w' ⟨rfl,n,os,rfl⟩;obtain⟨h1,h2⟩:=eQn (ys:=aZj a) (aWi a) h n os;rw[aWi]at h1;exact⟨rfl,h1,h2⟩
theorem dXo(h:s.Nodup):IsSet (aZj s) (fun x=>x∈s):=by
 refine⟨?_,fun x=>cWj s x⟩;have h1:=bWn s;have h2:(aZj s).Nodup:=(List.mergeSort_perm s _).nodup_iff.2 h;exact List.Pairwise.imp₂ (fun a b h1 h2=>by omega) h1 h2
def eKc(s:List Int)(w:BW)(e:Ending)(w':BW):Prop:=
 ∃ P A c,e = .returned (.slice A P.length c)/\w'.ownsRow w.heap.size 3 1 (.slice A P.length c) P.length (i64s P)/\IsSet P (fun x=>x∈s)/\P.length=s.length/\Ba w.heap.size w w'
def eWw(s:List Int)(a:Nat)(w:BW)(v:BY)(wr:BW):Prop:=
 ∃ (L:KV) (ks:List Int),IT wr a w.heap.size (setKV s) L/\wr.ownsRow (w.heap.size+1) 3 1 v ks.length (i64s ks)/\BV (ks++L.map (·.1)) s/\Ba w.heap.size w wr
theorem bYm(a:Nat)(s:List Int)(w:BW)(hf:IM w a (setKV s))(hs:s.Nodup)(hF:s.length<=1000000):Calls fZ 47 #[.map (some a)] w (eKc s w):=by
 have aB:=hf.lt;have I:=fQ hf;have J:=fQ hs;clear hf hs;go_in;go_wp2_with (at_range;refine aJc _ rfl _ 73 rfl 3 4 underlying73 a (setKV s) rfl I.out ?_);rintro w1 b hg hz;have y:=fQ b;have z:=fQ hg;have K:=fQ hz;clear b hg hz;go_wp2;go_loopw [3] (fun v wr=>eWw s a w v wr) (fun _ wr=>wr.rangeLeft a w.heap.size)
 case atStart=>
  refine⟨setKV s,[],y.out,Ah _ _ _ _,?_,iK (Af _ _) z.out (Av _) (by simp)⟩
  have e:(setKV s).map (·.1)=s:=by simp[setKV,Function.comp_def]
  rw[e];exact List.Perm.refl _
 case round=>
  clear y z K;obtain⟨L,ks,b,B,r,C⟩:=hrel;have M:=fQ b;have iO:=fQ B;have D:=fQ r;have f:=fQ C;have hle:=b.left;have N:=fQ hle;have i:=r.length_eq;simp at i;clear b B r C hle;go_wp2_with (at_next;refine aKo _ rfl _ rfl a w.heap.size (setKV s) L rfl M.out ?_ ?_)
  ·rintro rfl;obtain⟨A,c,O,hc⟩:=fW iO.out;subst O;have l:=fQ (show BV ks s by have:=D.out;simpa using this);have m:ks.length=s.length:=l.out.length_eq;have E:=fQ m;have P:=fQ (l.out.nodup_iff.2 J.out);rcases Ae ks.length with n | n
   ·have Q:ks = []:=Ay n;subst Q;clear m n i;go_wp2_with fail;refine(Tryz.slices_Sort_int_none A c _).mono ?_;rintro e t ⟨rfl,rfl⟩;go_wp2;go_ret;refine⟨[],A,c,rfl,jX iO.out (by omega),⟨by simp,fun x=>?_⟩,E.out,f.out⟩;exact l.out.mem_iff
   ·obtain⟨g,c',e,aC,aD,aE⟩:=mW iO.out n;injection e with R e2 S;subst R;subst S;have T:ks.length<4611686018427387904:=(by omega);clear m i;go_wp2_with fail;refine(dVy (w.heap.size+1) g c ks _ iO.out T).mono ?_;rintro e t ⟨rfl,F,d⟩;have o:=fQ F;have p:=fQ (iK f.out d f.out.size (fun k j=>by injection j with j;omega));clear F d;go_wp2;go_ret;have e:=aWi ks;have G:=dXo P.out;exact⟨aZj ks,some ⟨g,0,none⟩,c,by rw[e];rfl,by rw[e];exact jX o.out (by omega),⟨G.1,fun x=>(G.2 x).trans l.out.mem_iff⟩,e.trans E.out,p.out⟩
  ·rintro U k v V t rfl u d W aF;have X:=fQ u;have o:=fQ (kV iO.out d (fun g hg e=>by have:=(iO.out.lt g hg).1;injection e with e;omega));have p:=fQ (iK f.out d f.out.size (fun k j=>by injection j with j;omega));have Y:=p.out.size;have ay:=u.lt;have m:ks.length<s.length:=(by simp at i;omega);clear u d W i;go_wp2_with (at_builtin;refine jY _ rfl (.tmp 11) (.tmp 13) 23 rfl (w.heap.size+1) 3 (.int .i64 0) 1 8 underlying23 oK rfl (by omega) _ ks.length (i64s ks) rfl (iJ o.out _) (some ⟨t.heap.size,0,none⟩) 1 1 [.int .i64 k] rfl (aYm _ _ _) (aZo _ _) (by unfold maxLen;omega) (by omega) (by simp;omega) ?_);rintro v3 w3 h1 h2 Z _;have q:∀ g,u3.ownBlock=some g->w.heap.size+1<=g:=fun g hg=>(o.out.lt g hg).1;have H:=fQ ((X.out.alloc (.cells #[.int .i64 k] 3)).grown h2 (fun e=>by have:=q _ e;omega) (fun e=>by have:=q _ e;omega));have az:=fQ (iK (p.out.alloc Y (.cells #[.int .i64 k] 3)) h2 (by simp;omega) (fun g hg=>by have:=q g hg;omega));have aA:=fQ h1;have ai:=fQ H.out.left;clear h1 h2 Z q;go_wp2;go_roundw
   case rel=>
    refine⟨U++V,ks ++ [k],H.out,?_,?_,az.out⟩
    ·rw[bWm,List.length_append];exact aA.out
    ·have h:=D.out;simp only[Ab,Ai]at h ⊢;refine List.Perm.trans ?_ h;rw[AZ];refine List.Perm.append_left ks ?_;simp only[List.singleton_append];exact List.perm_middle.symm
   case measure=>
    rw[ai.out,N.out];simp
def mapsV(l:List Nat):List BY:=l.map fun b=>Value.map (some b)
theorem xX(l:List Nat):(mapsV l).length=l.length:=by simp[mapsV]
def RowsOf(w:BW)(base:Nat)(vs:List BY)(P:List (List Int)):Prop:=vs.length=P.length/\∀ (i:Nat) u p,vs[i]? = some u->P[i]? = some p->w.ownsRow base 3 1 u p.length (i64s p)
theorem sW{size:Nat}{xs:List BY}(h:w.ownsRow base t size v n xs)(hg:v.ownBlock=some g):∃ cur,Blk w g t cur:=by
 rcases h.2 with⟨h1,_⟩ | ⟨g',cap,cur,h1,_,a,_⟩
 ·subst h1;cases hg
 ·subst h1;injection hg with hg;subst hg;exact⟨cur,a⟩
theorem RowsOf.grown{vs:List BY}{P:List (List Int)}{r:Option Nat}(h:RowsOf w base vs P)(hg:w.grownBy w' r)(hr:∀ g cs,Blk w g 3 cs->r≠some g):RowsOf w' base vs P:=
 ⟨h.1,fun i u p h1 h2=>kV (h.2 i u p h1 h2) hg (fun g a=>by
  obtain⟨cur,b⟩:=sW (h.2 i u p h1 h2) a
  exact hr g cur b)⟩
theorem RowsOf.push{vs:List BY}{P:List (List Int)}{u:BY}{p:List Int}(h:RowsOf w base vs P)(b:w.ownsRow base 3 1 u p.length (i64s p)):RowsOf w base (vs ++ [u]) (P ++ [p]):=by
 refine⟨by simp[h.1],fun i x y h1 h2=>?_⟩;by_cases hi:i<P.length
 ·rw[Az (by rw[h.1];exact hi)]at h1;rw[Az hi]at h2;exact h.2 i x y h1 h2
 ·rw[Ak (by omega)]at h2;rw[Ak (by rw[h.1];omega)]at h1
  have a:i - P.length=0:=by
   have:=(List.getElem?_eq_some_iff.1 h2).1;simp at this;omega
  rw[h.1,a]at h1;rw[a]at h2;simp at h1 h2;subst h1;subst h2;exact b
def bYe(A:List (List Int))(w:BW)(e:Ending)(w':BW):Prop:=
 ∃ v vs P,e = .returned v/\w'.ownsRow w.heap.size 23 1 v A.length vs/\RowsOf w' w.heap.size vs P/\P.length=A.length/\(∀ (i:Nat) s p,A[i]? = some s->P[i]? = some p->IsSet p (fun x=>x∈s))/\Ba w.heap.size w w'
theorem dQs(gA:Nat)(bA:List Nat)(A:List (List Int))(w:BW)(c:Blk w gA 73 (mapsV bA).toArray)(B:bA.length=A.length)(C:∀ (i:Nat) b s,bA[i]? = some b->A[i]? = some s->IM w b (setKV s))
  (hs:∀ s∈A,s.Nodup/\s.length<=1000000) (hn:A.length<=1000000):Calls fZ 26 #[.slice (some ⟨gA,0,none⟩) A.length A.length] w (bYe A w):=by
 have e:=fQ c;have S:=fQ B;have D:=fQ C;have E:=fQ hs;obtain⟨n,o⟩:=fX A.length;rw[o]at hn ⊢;have r:=fQ o;clear c B C hs o;go_in;go_wp2;go_loopw [3,8] (fun v i wr=>∃ (k:Nat) (vs:List BY) (P:List (List Int)),k<=n/\i = .int .i64 k/\Hid (wr.ownsRow w.heap.size 23 1 v k vs)/\Hid (RowsOf wr w.heap.size vs P)/\Hid (P.length=k)/\Hid (∀ (i:Nat) s p,A[i]? = some s->P[i]? = some p->IsSet p (fun x=>x∈s))/\Hid (Ba w.heap.size w wr)) (fun _ i _=>n - (intOf i).toNat)
 case atStart=>exact⟨0,[],[],by omega,rfl,fQ (Ah _ _ _ _),fQ ⟨rfl,fun i u p h=>by simp at h⟩,fQ rfl,fQ (fun i s p _ h=>by simp at h),fQ (Af _ _)⟩
 case round=>
  obtain⟨k,vs,P,hk,rfl,iO,F,t,G,d⟩:=hrel;obtain⟨H,I,T,_⟩:=fW iO.out;subst T;by_cases J:k<n
  ·have U:decide ((k:Int)<n)=true:=(by simp;omega);have av:(k:Int)<n:=(by omega);obtain⟨s,f⟩:∃ s,A[k]? = some s:=⟨_,Aj (by rw[r.out];exact J)⟩;obtain⟨b,l⟩:∃ b,bA[k]? = some b:=⟨_,Aj (by rw[S.out,r.out];exact J)⟩;have V:=(e.out.below d.out e.out.lt).cell k;have e0:(mapsV bA).toArray[k]? = some (.map (some b)):=(by simp[mapsV,l]);rw[e0]at V;have y:=fQ f;have W:=fQ ((D.out k b s l f).below d.out (D.out k b s l f).lt);have hsz:=(e.out.below d.out e.out.lt).lt;have K:=d.out.size;clear f l e0;go_wp2_with fail;refine(bYm b s _ W.out (E.out s (Ax y.out)).1 (E.out s (Ax y.out)).2).mono ?_;rintro en w1 ⟨p,a,c1,rfl,L,M,X,m⟩;have N:=fQ (jX (base':=w.heap.size) L K);have Y:=fQ M;have Z:=fQ (nK iO.out m (Av _));have ay:=fQ (F.out.grown (rQ m) (fun _ _ _=>by simp));have O:=fQ (d.out.trans (m.mono K));have az:=O.out.size;obtain⟨q,hq⟩:=fX p.length;rw[hq]at N ⊢;have HQ:=fQ hq;clear L M m X hq;have z:=fQ (iJ Z.out (.cells #[.slice a q c1] 23));have aA:=fQ (ay.out.grown (World.grownBy_alloc w1 (.cells #[.slice a q c1] 23) none) (fun _ _ _=>by simp));have aB:=fQ (O.out.alloc az (.cells #[.slice a q c1] 23));have Q:=fQ (iJ N.out (.cells #[.slice a q c1] 23));go_wp2_with (at_builtin;refine jY _ rfl (.tmp 12) (.tmp 15) 44 rfl w.heap.size 23 (.slice none 0 0) 1 24 underlying44 zX rfl (by omega) (.slice H k I) k vs rfl z.out (some ⟨w1.heap.size,0,none⟩) 1 1 [.slice a q c1] rfl (Blk.fQc (cs:=#[.slice a q c1]) (Blk.newAt _ _ _ rfl) rfl) (by intro u hu;obtain rfl:=List.mem_singleton.1 hu;rfl) (by unfold maxLen;omega) (by omega) (by simp;omega) ?_);rintro v2 w2 h1 h2 h3 _;have hr:∀ g cs,Blk (w1.alloc (.cells #[.slice a q c1] 23)) g 3 cs->(Value.slice H k I).ownBlock≠some g:=fun g cs c=>own_ne z.out c (by decide)
   have aC:=fQ ((aA.out.grown h2 hr).push (u:=.slice a q c1) (p:=p) (by
    rw[HQ.out]
    exact kV Q.out h2 (fun g hg=>by
     obtain⟨cur,c⟩:=sW Q.out hg
     exact hr g cur c)))
   have aD:=fQ (iK aB.out h2 (by simp;omega) (fun j hj=>(z.out.lt j hj).1));have aE:=fQ h1;clear h1 h2 h3 hr;go_wp2;refine⟨⟨k+1,_,P ++ [p],by omega,by simp,aE,aC,fQ (by simp[t.out]),fQ (fun i s' p' h1 h2=>?_),aD⟩,by simp[intOf];omega⟩;by_cases hi:i<P.length
   ·rw[Az hi]at h2;exact G.out i s' p' h1 h2
   ·rw[Ak (by omega)]at h2
    have h0:i - P.length=0:=by
     have:=(List.getElem?_eq_some_iff.1 h2).1;simp at this;omega
    rw[h0]at h2;simp at h2;subst h2;have aF:i=k:=(by have:=t.out;omega);subst aF;rw[y.out]at h1;injection h1 with h1;subst h1;exact Y.out
  ·have U:decide ((k:Int)<n)=false:=(by simp;omega);have R:k=n:=(by omega);go_wp2;go_ret;unfold bYe;rw[r.out];exact⟨_,vs,P,rfl,R ▸ iO.out,F.out,t.out.trans R,G.out,d.out⟩
theorem qY{e:EnvD}{r:RowD}{c:CodeD}(h:codeOk e r c=true):(∀ x∈c.args,0<=x/\x<r.places)/\(∀ x∈c.outs,0<=x/\x<r.places)/\c.outs.Nodup:=by
 unfold codeOk at h
 split at h
 ·cases h
 ·simp only[Bq,decide_eq_true_eq]at h;obtain⟨_,h1,h2,b,_⟩:=h;refine⟨fun x a=>?_,fun x a=>?_,b⟩
  ·have:=List.all_eq_true.1 h1 x a
   simpa using this
  ·have:=List.all_eq_true.1 h2 x a
   simpa using this
theorem Live.range{e:EnvD}{r:RowD}(h:CheckP e r)(a:Live r i x):0<=x/\x<r.places:=by
 induction a with
 | arg hc b=>exact(qY (h.code _ (Ax hc))).1 _ b
 | step _ _ _ _ c=>exact c
theorem LiveB.range{e:EnvD}{r:RowD}(h:CheckP e r){i:Nat}{x:Int}(a:LiveB r i x):0<=x/\x<r.places:=by
 obtain⟨_,_,k,_,b⟩:=a;exact b.range h
theorem LiveB.ahead{r:RowD}{c:CodeD}(hc:r.code[i]? = some c)(h:LiveB r i x)(b:x ∉ c.outs):Live r i x:=by
 obtain⟨c',a,k,d,e⟩:=h;rw[hc]at a;injection a with a;subst a;exact .step hc d e b
abbrev Sets:=List (List Int)
def Stab(r:RowD)(A B:Sets)(i:Nat):Prop:=∀ c s t,r.code[i]? = some c->A[i]? = some s->B[i]? = some t->(∀ x∈c.args,x∈s)/\∀ k:Nat,(k:Int)∈nextOf c i->∀ u,A[k]? = some u->∀ x∈u,x∈t/\(x ∉ c.outs->x∈s)
structure Snd (r:RowD) (A B:Sets):Prop where
 lA:A.length=r.code.length
 lB:B.length=r.code.length
 nA:∀ s∈A,s.Nodup
 nB:∀ s∈B,s.Nodup
 sA:∀ (i:Nat) s x,A[i]? = some s->x∈s->Live r i x
 sB:∀ (i:Nat) s x,B[i]? = some s->x∈s->LiveB r i x
theorem cJi{r:RowD}(hf:FlowOk r){A B:Sets}(hs:Snd r A B)(h:∀ i,i<r.code.length->Stab r A B i):
  (∀ (i:Nat) s x,A[i]? = some s->(x∈s↔Live r i x))/\(∀ (i:Nat) s x,B[i]? = some s->(x∈s↔LiveB r i x)):=by
 have key:∀ (i:Nat) x,Live r i x->∀ s,A[i]? = some s->x∈s:=by
  intro i x b
  induction b with
  | arg hc j=>
   rename_i i c p;intro s f;have a:=(List.getElem?_eq_some_iff.1 hc).1;exact(h i a c s _ hc f (Aj (by rw[hs.lB];exact a))).1 _ j
  | step hc d b l m=>
   rename_i i k c p;intro s f;have a:=(List.getElem?_eq_some_iff.1 hc).1;have n:=(hf.to i c hc).1 _ d;have g:k<A.length:=(by rw[hs.lA];omega);have e:=Aj g;exact((h i a c s _ hc f (Aj (by rw[hs.lB];exact a))).2 k d _ e _ (m _ e)).2 l
 refine⟨fun i s x hi=>⟨hs.sA i s x hi,fun b=>key i x b s hi⟩,fun i s x hi=>⟨hs.sB i s x hi,fun b=>?_⟩⟩;obtain⟨c,hc,k,d,o⟩:=b;have a:=(List.getElem?_eq_some_iff.1 hc).1;have n:=(hf.to i c hc).1 _ d;have g:k<A.length:=(by rw[hs.lA];omega);have e:=Aj g;exact((h i a c _ s hc (Aj (by rw[hs.lA];exact a)) hi).2 k d _ e _ (key k x o _ e)).1
structure LkInv (r:RowD) (A B:Sets) (todo:List Int) (wt:List Bool) (X:List Int):Prop where
 s:Snd r A B
 lw:wt.length=r.code.length
 tn:todo.Nodup
 tr:∀ x∈todo,∃ i:Nat,x=i/\i<r.code.length
 tw:∀ i:Nat,wt[i]? = some true↔(i:Int)∈todo
 st:∀ i,i<r.code.length->(i:Int) ∉ todo->(i:Int) ∉ X->Stab r A B i
def bXq(r:RowD)(F:Sets):Prop:=F.length=r.code.length/\(∀ (k:Nat) l,F[k]? = some l->∀ x∈l,∃ i:Nat,x=i/\i<r.code.length)/\∀ (i k:Nat) c l,r.code[i]? = some c->(k:Int)∈nextOf c i->F[k]? = some l->(i:Int)∈l
structure Work (r:RowD) (A0 B0 A B:Sets) (i:Nat) (c:CodeD) (s0:List Int) (D:List Int) (s t:List Int) (turns:Bool):Prop where
 a:A[i]? = some s
 b:B[i]? = some t
 ea:A=A0.set i s
 eb:B=B0.set i t
 i0:A0[i]? = some s0
 snd:Snd r A B
 arg:∀ x∈c.args,x∈s
 don:∀ k:Nat,(k:Int)∈D->∀ u,A[k]? = some u->∀ x∈u,x∈t/\(x ∉ c.outs->x∈s)
 inc:∀ x∈s0,x∈s
 ln:turns=true->s0.length<s.length
 ls:turns=false->s=s0
theorem qV{α:Type}{l:List α}{x y:α}(h:(l.set i x)[j]? = some y):(i=j/\y=x/\i<l.length)\/(i≠j/\l[j]? = some y):=by
 by_cases e:i=j
 ·subst e;by_cases a:i<l.length
  ·rw[AX a]at h;injection h with h;exact .inl ⟨rfl,h.symm,a⟩
  ·rw[List.getElem?_eq_none (by simp;omega)]at h;cases h
 ·rw[AQ e]at h;exact .inr ⟨e,h⟩
theorem Snd.fQs{r:RowD}{A B:Sets}(h:Snd r A B)(hn:s.Nodup)(c:∀ x∈s,Live r i x):Snd r (A.set i s) B:=
  { h with lA:=by rw[AK];exact h.lA
           nA:=fun u a=>by
             rcases AY a with a | a
             · exact h.nA u a
             · rw[a];exact hn
           sA:=fun j u x hj b=>by
             rcases qV hj with⟨e,e2,_⟩ | ⟨e,e2⟩
             · subst e;subst e2;exact c x b
             · exact h.sA j u x e2 b }
theorem Snd.fQe{r:RowD}{A B:Sets}(h:Snd r A B)(hn:s.Nodup)(c:∀ x∈s,LiveB r i x):Snd r A (B.set i s):=
  { h with lB:=by rw[AK];exact h.lB
           nB:=fun u a=>by
             rcases AY a with a | a
             · exact h.nB u a
             · rw[a];exact hn
           sB:=fun j u x hj b=>by
             rcases qV hj with⟨e,e2,_⟩ | ⟨e,e2⟩
             · subst e;subst e2;exact c x b
             · exact h.sB j u x e2 b }
theorem Snd.fXg{r:RowD}{A B:Sets}(h:Snd r A B)(hi:A[i]? = some s):s.Nodup:=h.nA s (Ax hi)
theorem Snd.fXv{r:RowD}{A B:Sets}(h:Snd r A B)(hi:B[i]? = some s):s.Nodup:=h.nB s (Ax hi)
theorem Work.start{r:RowD}{A B:Sets}{c:CodeD}{t:List Int}(h:Snd r A B)(hc:r.code[i]? = some c)(ha:A[i]? = some s)(f:B[i]? = some t):
  Work r A B (A.set i (lY s c.args)) B i c s [] (lY s c.args) t (decide (s.length<(lY s c.args).length)) where
 a:=by rw[AX (List.getElem?_eq_some_iff.1 ha).1]
 b:=f
 ea:=rfl
 eb:=by
  obtain⟨hl,e⟩:=List.getElem?_eq_some_iff.1 f;rw[<-e,List.set_getElem_self]
 i0:=ha
 snd:=h.fQs (bWo (h.fXg ha)) (fun x d=>by
  rcases aZk.1 d with d | d
  ·exact h.sA i s x ha d
  ·exact .arg hc d)
 arg x d:=aZk.2 (.inr d)
 don k hk:=by simp at hk
 inc x d:=aZk.2 (.inl d)
 ln h:=by simpa using h
 ls h:=cXb (by simp at h;exact h)
theorem Work.behind{r:RowD}{A0 B0 A B:Sets}{c:CodeD}{t:List Int}{b:Bool}(h:Work r A0 B0 A B i c s0 D s t b)(hp:LiveB r i p):
  Work r A0 B0 A (B.set i (ins t p)) i c s0 D s (ins t p) b where
 a:=h.a
 b:=by rw[AX (List.getElem?_eq_some_iff.1 h.b).1]
 ea:=h.ea
 eb:=by rw[h.eb,BX]
 i0:=h.i0
 snd:=h.snd.fQe (aXv (h.snd.fXv h.b)) (fun x d=>by
  rcases sV.1 d with d | d
  ·exact h.snd.sB i t x h.b d
  ·rw[d];exact hp)
 arg:=h.arg
 don k hk u hu x d:=⟨sV.2 (.inl (h.don k hk u hu x d).1),(h.don k hk u hu x d).2⟩
 inc:=h.inc
 ln:=h.ln
 ls:=h.ls
theorem Work.fresh{r:RowD}{A0 B0 A B:Sets}{c:CodeD}{t:List Int}{b:Bool}(h:Work r A0 B0 A B i c s0 D s t b)(hp:Live r i p)(hn:p ∉ s)(l:p∈t):
  Work r A0 B0 (A.set i (s ++ [p])) B i c s0 D (s ++ [p]) t true where
 a:=by rw[AX (List.getElem?_eq_some_iff.1 h.a).1]
 b:=h.b
 ea:=by rw[h.ea,BX]
 eb:=h.eb
 i0:=h.i0
 snd:=h.snd.fQs (by
  rw[AW]
  exact⟨h.snd.fXg h.a,by simp,fun a ha b g e=>by simp at g;subst g;subst e;exact hn ha⟩) (fun x d=>by
  rcases List.mem_append.1 d with d | d
  ·exact h.snd.sA i s x h.a d
  ·simp at d;rw[d];exact hp)
 arg x d:=Aw _ (h.arg x d)
 don k j u m x d:=by
  rcases qV m with⟨e,e2,_⟩ | ⟨e,e2⟩
  ·subst e;subst e2;rcases List.mem_append.1 d with d | d
   ·have:=h.don i j s h.a x d;exact⟨this.1,fun f=>Aw _ (this.2 f)⟩
   ·simp at d;subst d;exact⟨l,fun _=>by simp⟩
  ·have:=h.don k j u e2 x d;exact⟨this.1,fun f=>Aw _ (this.2 f)⟩
 inc x d:=Aw _ (h.inc x d)
 ln _:=by
  cases b with
  | true=>have:=h.ln rfl;simp;omega
  | false=>rw[h.ls rfl];simp
 ls h:=by cases h
theorem Work.next{r:RowD}{A0 B0 A B:Sets}{c:CodeD}{t:List Int}{b:Bool}(h:Work r A0 B0 A B i c s0 D s t b){u:List Int}(g:A[k]? = some u)
  (j:∀ x∈u,x∈t/\(x ∉ c.outs->x∈s)):Work r A0 B0 A B i c s0 (D ++ [(k:Int)]) s t b:=by
 refine { h with don:=fun k' a l d x f=>?_ };rcases List.mem_append.1 a with a | a
 ·exact h.don k' a l d x f
 ·simp at a;have e:k'=k:=(by omega);subst e;rw[g]at d;injection d with d;subst d;exact j x f
theorem LkInv.done{r:RowD}{A0 B0 A B:Sets}{wt:List Bool}{c:CodeD}{s0 D s t:List Int}{b:Bool}{F:Sets}{l:List Int}(h:LkInv r A0 B0 (T ++ [(i:Int)]) wt [])(hc:r.code[i]? = some c)
  (d:Work r A0 B0 A B i c s0 D s t b) (y:∀ k:Nat,(k:Int)∈nextOf c i->(k:Int)∈D) (hF:bXq r F) (z:F[i]? = some l):LkInv r A B T (wt.set i false) (if b then l else[]) where
 s:=d.snd
 lw:=by rw[AK];exact h.lw
 tn:=(List.nodup_append.1 h.tn).1
 tr x m:=h.tr x (Aw _ m)
 tw j:=by
  have C:=List.nodup_append.1 h.tn;by_cases e:i=j
  ·subst e;rw[AX (by rw[h.lw];exact(List.getElem?_eq_some_iff.1 hc).1)];constructor
   ·intro e;cases e
   ·intro E;exact absurd rfl (C.2.2 _ E _ (by simp))
  ·rw[AQ e,h.tw j,AJ];constructor
   ·rintro(h | h)
    ·exact h
    ·simp at h;omega
   ·exact .inl
 st j hj hjT G:=by
  have eA:∀ k:Nat,k≠i->A[k]? = A0[k]?:=fun k f=>by rw[d.ea,AQ (fun e=>f e.symm)]
  have eB:∀ k:Nat,k≠i->B[k]? = B0[k]?:=fun k f=>by rw[d.eb,AQ (fun e=>f e.symm)]
  intro q s' H n o p;by_cases e:j=i
  ·subst e;rw[hc]at n;injection n with n;subst n;rw[d.a]at o;rw[d.b]at p;injection o with o;injection p with p;subst o;subst p;exact⟨d.arg,fun k f u g x m=>d.don k (y k f) u g x m⟩
  ·have I:=h.st j hj (fun J=>by
    rcases List.mem_append.1 J with h1 | h1
    ·exact hjT h1
    ·simp at h1;omega) (by simp)
   rw[eA j e]at o;rw[eB j e]at p;obtain⟨q1,v⟩:=I q s' H n o p;refine⟨q1,fun k f u g x m=>?_⟩;by_cases w:k=i
   ·subst w
    cases b with
    | false=>
     have:s=s0:=d.ls rfl;rw[d.a]at g;injection g with g;subst g;exact v k f s (by rw[this];exact d.i0) x m
    | true=>
     exact absurd (hF.2.2 j k q l n f z) (by simpa using G)
   ·rw[eA k w]at g;exact v k f u g x m
theorem LkInv.wait{r:RowD}{A B:Sets}{todo:List Int}{wt:List Bool}(h:LkInv r A B todo wt ((j:Int) :: X))(hj:wt[j]? = some true):LkInv r A B todo wt X:=
  { h with st:=fun i hi h1 h2=>h.st i hi h1 (fun a=>by
      rcases List.mem_cons.1 a with a | a
      · have:i=j:=by omega
        subst this;exact h1 ((h.tw i).1 hj)
      · exact h2 a) }
theorem LkInv.push{r:RowD}{A B:Sets}{todo:List Int}{wt:List Bool}(h:LkInv r A B todo wt ((j:Int) :: X))(hj:wt[j]? = some false):LkInv r A B (todo ++ [(j:Int)]) (wt.set j true) X:=by
 have g:=(List.getElem?_eq_some_iff.1 hj).1
 have l:(j:Int) ∉ todo:=fun f=>by have:=(h.tw j).2 f;rw[hj]at this;cases this
 refine { s:=h.s,lw:=by rw[AK];exact h.lw,tn:=?_,tr:=fun x c=>?_,tw:=fun i=>?_,st:=fun i hi h1 h2=>?_ }
 ·rw[AW];exact⟨h.tn,by simp,fun a ha b k e=>by simp at k;subst k;subst e;exact l ha⟩
 ·rcases List.mem_append.1 c with c | c
  ·exact h.tr x c
  ·simp at c;exact⟨j,c,by rw[<-h.lw];exact g⟩
 ·by_cases e:j=i
  ·subst e;rw[AX g];simp
  ·rw[AQ e,h.tw i,AJ];constructor
   ·exact .inl
   ·rintro(h | h)
    ·exact h
    ·simp at h;omega
 ·refine h.st i hi (fun f=>h1 (Aw _ f)) (fun d=>?_);rcases List.mem_cons.1 d with d | d
  ·exact h1 (by rw[d];simp)
  ·exact h2 d
theorem LkInv.start{r:RowD}(hn:r.code.length=n):LkInv r (Aq n []) (Aq n []) ((BJ n).map fun i:Nat=>(i:Int)) (Aq n true) []:=by
 have g:∀ (i:Nat) s x,(Aq n ([]:List Int))[i]? = some s->x∈s->False:=by
  intro i s x h c;obtain⟨d,e⟩:=List.getElem?_eq_some_iff.1 h;simp at e;subst e;simp at c
 refine { s:={ lA:=by simp[hn],lB:=by simp[hn],nA:=?_,nB:=?_,sA:=fun i s x h c=>(g i s x h c).elim,sB:=fun i s x h c=>(g i s x h c).elim },lw:=by simp[hn],tn:=?_,tr:=fun x c=>?_,tw:=fun i=>?_,st:=fun i hi h1 h2=>?_ }
 ·intro s hs;have:=Bj hs;rw[this];simp
 ·intro s hs;have:=Bj hs;rw[this];simp
 ·exact List.Pairwise.map (fun i:Nat=>(i:Int)) (fun a b h e=>h (by omega)) List.nodup_range
 ·obtain⟨i,hi,e⟩:=List.mem_map.1 c;exact⟨i,e.symm,by rw[hn];exact List.mem_range.1 hi⟩
 ·rw[List.getElem?_replicate];constructor
  ·intro h
   split at h
   ·rename_i d;exact List.mem_map.2 ⟨i,List.mem_range.2 d,rfl⟩
   ·cases h
  ·intro h;obtain⟨j,hj,e⟩:=List.mem_map.1 h;have:j=i:=(by omega);subst this;rw[if_pos (List.mem_range.1 hj)]
 ·exact absurd (List.mem_map.2 ⟨i,List.mem_range.2 (by omega),rfl⟩) h1
def yK(A:Sets):Nat:=(A.map List.length).sum
theorem eQo{A:Sets}(h:A[i]? = some s):yK (A.set i s')+s.length=yK A+s'.length:=by
 unfold yK
 induction A generalizing i with
 | nil=>simp at h
 | cons a A b=>
  cases i with
  | zero=>
   simp at h;subst h;simp;omega
  | succ i=>
   simp at h;have:=b h;simp only[List.set_cons_succ,Ai,List.sum_cons];omega
theorem qJ(hn:s.Nodup)(h:∀ x∈s,0<=x/\x<m):s.length<=m:=by
 have h1:s.length<=((BJ m).map fun i:Nat=>(i:Int)).length:=List.Nodup.length_le_of_subset hn fun x a=>by
  have:=h x a;exact List.mem_map.2 ⟨x.toNat,List.mem_range.2 (by omega),by omega⟩
 simpa using h1
theorem eJh{A:Sets}(h:∀ s∈A,s.length<=m):yK A<=A.length*m:=by
 unfold yK
 induction A with
 | nil=>simp
 | cons a A b=>
  have h1:=h a (by simp);have h2:=b (fun s hs=>h s (by simp[hs]));simp;rw[BK];omega
theorem Snd.small{e:EnvD}{r:RowD}(hc:CheckP e r){A B:Sets}(h:Snd r A B):(∀ s∈A,s.length<=r.places.toNat)/\(∀ s∈B,s.length<=r.places.toNat):=by
 have hp:=hc.p1;refine⟨fun s hs=>?_,fun s hs=>?_⟩
 ·obtain⟨i,hi⟩:=List.mem_iff_getElem?.1 hs;exact qJ (h.nA s hs) (fun x a=>by have:=(h.sA i s x hi a).range hc;omega)
 ·obtain⟨i,hi⟩:=List.mem_iff_getElem?.1 hs;exact qJ (h.nB s hs) (fun x a=>by have:=(h.sB i s x hi a).range hc;omega)
def setsV(bA:List Nat)(n:Nat):Array BY:=(mapsV bA++Aq (n - bA.length) (Value.map none)).toArray
theorem aVg(h:bA[i]? = some b):(setsV bA n)[i]? = some (.map (some b)):=by
 unfold setsV;have a:=(List.getElem?_eq_some_iff.1 h).1;rw[Bz,Az (by rw[xX];exact a)];simp[mapsV,h]
theorem aVh(h:bA.length=n):setsV bA n=(mapsV bA).toArray:=by
 unfold setsV;rw[h,Bx];simp
theorem aVi(h:bA.length<n):(setsV bA n).setIfInBounds bA.length (.map (some b))=setsV (bA ++ [b]) n:=by
 unfold setsV;apply Array.ext_getElem?;intro j;have e:n - bA.length=(n - (bA ++ [b]).length)+1:=(by simp;omega);rw[e,Ad];rw[Array.getElem?_setIfInBounds];have a:=xX bA;by_cases hj:bA.length=j
 ·subst hj;rw[if_pos rfl,if_pos (by simp[a])];simp[mapsV]
 ·rw[if_neg hj];simp only[Bz];have e2:mapsV (bA ++ [b])=mapsV bA ++ [.map (some b)]:=(by simp[mapsV]);rw[e2,AZ];by_cases aa:j<bA.length
  ·rw[Az (by omega),Az (by omega)]
  ·rw[Ak (by omega),Ak (by omega),a];have hp:0<j - bA.length:=(by omega);obtain⟨q,hq⟩:∃ q,j - bA.length=q+1:=⟨j - bA.length - 1,by omega⟩;rw[hq];simp
structure LkM (w:BW) (n base bR gF gA gB gFr gW:Nat) (rv:Array BY) (bA bB:List Nat) (A B:Sets) (vF:List BY) (F:Sets) (wt:List Bool):Prop where
 r:Blk w bR 43 rv
 f:Blk w gF 77 #[.slice (some ⟨gA,0,none⟩) n n,.slice (some ⟨gB,0,none⟩) n n]
 a:Blk w gA 73 (setsV bA n)
 b:Blk w gB 73 (setsV bB n)
 la:bA.length=A.length
 lb:bB.length=B.length
 ma:∀ (i:Nat) b s,bA[i]? = some b->A[i]? = some s->IM w b (setKV s)
 mb:∀ (i:Nat) b s,bB[i]? = some b->B[i]? = some s->IM w b (setKV s)
 nd:(bA++bB).Nodup
 fr:Blk w gFr 23 vF.toArray
 rf:RowsOf w base vF F
 w:Blk w gW 4 (boolsV wt).toArray
 lR:base<=bR
 lF:base<=gF
 lA:base<=gA
 lB:base<=gB
 lr:base<=gFr
 lW:base<=gW
 lm:∀ b∈bA++bB,base<=b
 hab:gA≠gB
section
variable {w w':BW} {n base bR gF gA gB gFr gW:Nat} {rv:Array BY} {bA bB:List Nat} {A B:Sets} {vF:List BY} {F:Sets} {wt:List Bool}
theorem LkM.fQf(h:LkM w n base bR gF gA gB gFr gW rv bA bB A B vF F wt):base<=w.heap.size:=Nat.le_of_lt (Nat.lt_of_le_of_lt h.lR h.r.lt)
theorem LkM.keep{r:Option Nat}(h:LkM w n base bR gF gA gB gFr gW rv bA bB A B vF F wt)(hg:w.grownBy w' r)(h1:∀ g t cs,Blk w g t cs->t≠3->t≠52->r≠some g)(h2:∀ b m,IM w b m->r≠some b)(d:∀ u∈vF,∀ g,u.ownBlock=some g->r≠some g):
    LkM w' n base bR gF gA gB gFr gW rv bA bB A B vF F wt:=
  { h with r:=h.r.grown hg (h1 _ _ _ h.r (by decide) (by decide)),f:=h.f.grown hg (h1 _ _ _ h.f (by decide) (by decide)),a:=h.a.grown hg (h1 _ _ _ h.a (by decide) (by decide)),b:=h.b.grown hg (h1 _ _ _ h.b (by decide) (by decide)),fr:=h.fr.grown hg (h1 _ _ _ h.fr (by decide) (by decide)),w:=h.w.grown hg (h1 _ _ _ h.w (by decide) (by decide)),
           ma:=fun i b s q1 c=>(h.ma i b s q1 c).grown hg (h2 _ _ (h.ma i b s q1 c)),mb:=fun i b s q1 c=>(h.mb i b s q1 c).grown hg (h2 _ _ (h.mb i b s q1 c)),
           rf:=⟨h.rf.1,fun i u p q1 c=>kV (h.rf.2 i u p q1 c) hg (fun g e=>d u (Ax q1) g e)⟩ }
theorem LkM.grown(h:LkM w n base bR gF gA gB gFr gW rv bA bB A B vF F wt)(a:Ba w.heap.size w w'):LkM w' n base bR gF gA gB gFr gW rv bA bB A B vF F wt:=
 h.keep (rQ a) (fun _ _ _ _ _ _=>by simp) (fun _ _ _=>by simp) (fun _ _ _ _=>by simp)
theorem LkM.drew(h:LkM w n base bR gF gA gB gFr gW rv bA bB A B vF F wt):LkM w.drew n base bR gF gA gB gFr gW rv bA bB A B vF F wt:=
 { r:=h.r,f:=h.f,a:=h.a,b:=h.b,la:=h.la,lb:=h.lb,ma:=h.ma,mb:=h.mb,nd:=h.nd,fr:=h.fr,rf:=h.rf,w:=h.w,lR:=h.lR,lF:=h.lF,lA:=h.lA,lB:=h.lB,lr:=h.lr,lW:=h.lW,lm:=h.lm,hab:=h.hab }
theorem aXq{l:List Nat}(h:l.Nodup)(hi:l[i]? = some b)(hj:l[j]? = some b):i=j:=by
 obtain⟨h1,c⟩:=List.getElem?_eq_some_iff.1 hi;obtain⟨h2,e2⟩:=List.getElem?_eq_some_iff.1 hj;have hp:=List.pairwise_iff_getElem.1 h;rcases Nat.lt_trichotomy i j with a | he | a
 ·exact absurd (c.trans e2.symm) (hp i j h1 h2 a)
 ·exact he
 ·exact absurd (e2.trans c.symm) (hp j i h2 h1 a)
theorem LkM.fQt(h:LkM w n base bR gF gA gB gFr gW rv bA bB A B vF F wt)(l:bA[i]? = some b)(hs:A[i]? = some s)(hg:w.grownBy w' (some b))(q:IM w' b (setKV s')):
    LkM w' n base bR gF gA gB gFr gW rv bA bB (A.set i s') B vF F wt:=by
  have hi:=h.ma i b s l hs
  have hn:∀ g t cs,Blk w g t cs->(some b:Option Nat)≠some g:=fun g t cs m e=>by injection e with e;exact hi.fQi m e
  have o:=List.nodup_append.1 h.nd;have ho:∀ u p,w.ownsRow base 3 1 u p (i64s [])->True:=fun _ _ _=>trivial
  refine { h with r:=h.r.grown hg (hn _ _ _ h.r),f:=h.f.grown hg (hn _ _ _ h.f),a:=h.a.grown hg (hn _ _ _ h.a),b:=h.b.grown hg (hn _ _ _ h.b),fr:=h.fr.grown hg (hn _ _ _ h.fr),w:=h.w.grown hg (hn _ _ _ h.w),la:=by rw[AK];exact h.la,
                  ma:=fun j c u q1 k=>?_,mb:=fun j c u q1 k=>?_,rf:=⟨h.rf.1,fun j u p q1 k=>?_⟩ }
  · rcases qV k with⟨e,e2,_⟩ | ⟨e,e2⟩
    · subst e
      subst e2;rw[l]at q1;injection q1 with q1;subst q1;exact q
    · exact(h.ma j c u q1 e2).grown hg (fun d=>by injection d with d;subst d;exact e (aXq o.1 l q1))
  · refine(h.mb j c u q1 k).grown hg (fun d=>?_)
    injection d with d;exact o.2.2 b (Ax l) c (Ax q1) d
  · exact kV (h.rf.2 j u p q1 k) hg (fun g v e=>by
      obtain⟨cur,m⟩:=sW (h.rf.2 j u p q1 k) v
      exact hn g _ _ m e)
theorem LkM.fQo(h:LkM w n base bR gF gA gB gFr gW rv bA bB A B vF F wt)(l:bB[i]? = some b)(hs:B[i]? = some s)(hg:w.grownBy w' (some b))(q:IM w' b (setKV s')):
    LkM w' n base bR gF gA gB gFr gW rv bA bB A (B.set i s') vF F wt:=by
  have hi:=h.mb i b s l hs
  have hn:∀ g t cs,Blk w g t cs->(some b:Option Nat)≠some g:=fun g t cs m e=>by injection e with e;exact hi.fQi m e
  have o:=List.nodup_append.1 h.nd
  refine { h with r:=h.r.grown hg (hn _ _ _ h.r),f:=h.f.grown hg (hn _ _ _ h.f),a:=h.a.grown hg (hn _ _ _ h.a),b:=h.b.grown hg (hn _ _ _ h.b),fr:=h.fr.grown hg (hn _ _ _ h.fr),w:=h.w.grown hg (hn _ _ _ h.w),lb:=by rw[AK];exact h.lb,
                  ma:=fun j c u q1 k=>?_,mb:=fun j c u q1 k=>?_,rf:=⟨h.rf.1,fun j u p q1 k=>?_⟩ }
  · refine(h.ma j c u q1 k).grown hg (fun d=>?_)
    injection d with d;exact o.2.2 c (Ax q1) b (Ax l) d.symm
  · rcases qV k with⟨e,e2,_⟩ | ⟨e,e2⟩
    · subst e
      subst e2;rw[l]at q1;injection q1 with q1;subst q1;exact q
    · exact(h.mb j c u q1 e2).grown hg (fun d=>by injection d with d;subst d;exact e (aXq o.2.1 l q1))
  · exact kV (h.rf.2 j u p q1 k) hg (fun g v e=>by
      obtain⟨cur,m⟩:=sW (h.rf.2 j u p q1 k) v
      exact hn g _ _ m e)
theorem LkM.wait(h:LkM w n base bR gF gA gB gFr gW rv bA bB A B vF F wt)(i:Nat)(x:Bool):LkM (w.setCell ⟨gW,i,none⟩ (.bool x)) n base bR gF gA gB gFr gW rv bA bB A B vF F (wt.set i x):=by
  have hg:=nV w gW i (.bool x)
  have hn:∀ g t cs,Blk w g t cs->t≠4->(some gW:Option Nat)≠some g:=fun g t cs k l e=>by injection e with e;exact blk_ne h.w k (fun e=>l e.symm) e
  refine { h with r:=h.r.grown hg (hn _ _ _ h.r (by decide)),f:=h.f.grown hg (hn _ _ _ h.f (by decide)),a:=h.a.grown hg (hn _ _ _ h.a (by decide)),b:=h.b.grown hg (hn _ _ _ h.b (by decide)),fr:=h.fr.grown hg (hn _ _ _ h.fr (by decide)),w:=?_,
                  ma:=fun j c u q1 d=>(h.ma j c u q1 d).grown hg (fun e=>by injection e with e;exact(h.ma j c u q1 d).fQi h.w e.symm),
                  mb:=fun j c u q1 d=>(h.mb j c u q1 d).grown hg (fun e=>by injection e with e;exact(h.mb j c u q1 d).fQi h.w e.symm),
                  rf:=⟨h.rf.1,fun j u p q1 d=>kV (h.rf.2 j u p q1 d) hg (fun g m e=>by
                    obtain⟨cur,k⟩:=sW (h.rf.2 j u p q1 d) m
                    exact hn g _ _ k (by decide) e)⟩ }
  have:=fV h.w i (.bool x)
  have o:(boolsV wt).toArray.setIfInBounds i (.bool x)=(boolsV (wt.set i x)).toArray:=by
    simp[boolsV,BZ]
  rwa[o]at this
end
def DJ(vF:List BY)(v:BY):Prop:=(∀ (i j:Nat) a b g,i≠j->vF[i]? = some a->vF[j]? = some b->a.ownBlock=some g->b.ownBlock≠some g)/\∀ a∈vF,∀ g,a.ownBlock=some g->v.ownBlock≠some g
section
variable {w w':BW} {n base bR gF gA gB gFr gW:Nat} {rv:Array BY} {bA bB:List Nat} {A B:Sets} {vF:List BY} {F:Sets} {wt:List Bool}
theorem LkM.fXw(h:LkM w n base bR gF gA gB gFr gW rv bA bB A B vF F wt)(z:bA.length<n)(o:IM w b [])(hn:b ∉ bA++bB)(C:base<=b):
  LkM (w.setCell ⟨gA,bA.length,none⟩ (.map (some b))) n base bR gF gA gB gFr gW rv (bA ++ [b]) bB (A ++ [[]]) B vF F wt:=by
 have hg:=nV w gA bA.length (.map (some b));have k:∀ g t cs,Blk w g t cs->g≠gA->Blk (w.setCell ⟨gA,bA.length,none⟩ (.map (some b))) g t cs:=fun g t cs o D=>o.grown hg (fun e=>by injection e with e;exact D e.symm);have q:∀ c m,IM w c m->IM (w.setCell ⟨gA,bA.length,none⟩ (.map (some b))) c m:=fun c m hc=>hc.grown hg (fun e=>by injection e with e;exact hc.fQi h.a e.symm);have hab:=List.nodup_append.1 h.nd;rw[AJ,not_or]at hn;refine { h with r:=k _ _ _ h.r (blk_ne h.r h.a (by decide)),f:=k _ _ _ h.f (blk_ne h.f h.a (by decide)),a:=?_,b:=k _ _ _ h.b (fun e=>h.hab e.symm),la:=by simp[h.la],ma:=fun i c s q1 d=>?_,mb:=fun i c s q1 d=>q _ _ (h.mb i c s q1 d),nd:=?_,fr:=k _ _ _ h.fr (blk_ne h.fr h.a (by decide)),rf:=⟨h.rf.1,fun i u p q1 d=>?_⟩,w:=k _ _ _ h.w (blk_ne h.w h.a (by decide)),lm:=fun c hc=>?_ }
 ·have:=fV h.a bA.length (.map (some b))
  rwa[aVi z]at this
 ·by_cases hi:i<A.length
  ·rw[Az (by rw[h.la];exact hi)]at q1;rw[Az hi]at d;exact q _ _ (h.ma i c s q1 d)
  ·rw[Ak (by omega)]at d
   have v:i - A.length=0:=by
    have:=(List.getElem?_eq_some_iff.1 d).1;simp at this;omega
   rw[Ak (by rw[h.la];omega),h.la,v]at q1;rw[v]at d;simp at q1 d;subst q1;subst d;exact q _ _ o
 ·rw[AZ,AW];refine⟨hab.1,?_,fun x l y j e=>?_⟩
  ·rw[AW];exact⟨by simp,hab.2.1,fun x l y j e=>by simp at l;subst l;subst e;exact hn.2 j⟩
  ·subst e;rcases List.mem_append.1 j with j | j
   ·simp at j;subst j;exact hn.1 l
   ·exact hab.2.2 x l x j rfl
 ·exact kV (h.rf.2 i u p q1 d) hg (fun g E e=>by
   obtain⟨cur,k⟩:=sW (h.rf.2 i u p q1 d) E;injection e with e
   exact blk_ne h.a k (by decide) e)
 ·rw[AZ,AJ,AJ]at hc;rcases hc with hc | hc | hc
  ·exact h.lm c (Aw _ hc)
  ·simp at hc;rw[hc];exact C
  ·exact h.lm c (Aa _ hc)
theorem LkM.fXx(h:LkM w n base bR gF gA gB gFr gW rv bA bB A B vF F wt)(z:bB.length<n)(l:IM w b [])(hn:b ∉ bA++bB)(C:base<=b):
  LkM (w.setCell ⟨gB,bB.length,none⟩ (.map (some b))) n base bR gF gA gB gFr gW rv bA (bB ++ [b]) A (B ++ [[]]) vF F wt:=by
 have hg:=nV w gB bB.length (.map (some b));have j:∀ g t cs,Blk w g t cs->g≠gB->Blk (w.setCell ⟨gB,bB.length,none⟩ (.map (some b))) g t cs:=fun g t cs l D=>l.grown hg (fun e=>by injection e with e;exact D e.symm);have o:∀ c m,IM w c m->IM (w.setCell ⟨gB,bB.length,none⟩ (.map (some b))) c m:=fun c m hc=>hc.grown hg (fun e=>by injection e with e;exact hc.fQi h.b e.symm);have hab:=List.nodup_append.1 h.nd;rw[AJ,not_or]at hn;refine { h with r:=j _ _ _ h.r (blk_ne h.r h.b (by decide)),f:=j _ _ _ h.f (blk_ne h.f h.b (by decide)),b:=?_,a:=j _ _ _ h.a h.hab,lb:=by simp[h.lb],mb:=fun i c s q1 d=>?_,ma:=fun i c s q1 d=>o _ _ (h.ma i c s q1 d),nd:=?_,fr:=j _ _ _ h.fr (blk_ne h.fr h.b (by decide)),rf:=⟨h.rf.1,fun i u p q1 d=>?_⟩,w:=j _ _ _ h.w (blk_ne h.w h.b (by decide)),lm:=fun c hc=>?_ }
 ·have:=fV h.b bB.length (.map (some b))
  rwa[aVi z]at this
 ·by_cases hi:i<B.length
  ·rw[Az (by rw[h.lb];exact hi)]at q1;rw[Az hi]at d;exact o _ _ (h.mb i c s q1 d)
  ·rw[Ak (by omega)]at d
   have q:i - B.length=0:=by
    have:=(List.getElem?_eq_some_iff.1 d).1;simp at this;omega
   rw[Ak (by rw[h.lb];omega),h.lb,q]at q1;rw[q]at d;simp at q1 d;subst q1;subst d;exact o _ _ l
 ·rw[<-AZ,AW];refine⟨h.nd,by simp,fun x k y v e=>?_⟩;simp at v;subst v;subst e;rcases List.mem_append.1 k with k | k
  ·exact hn.1 k
  ·exact hn.2 k
 ·exact kV (h.rf.2 i u p q1 d) hg (fun g E e=>by
   obtain⟨cur,j⟩:=sW (h.rf.2 i u p q1 d) E;injection e with e
   exact blk_ne h.b j (by decide) e)
 ·rw[<-AZ,AJ]at hc;rcases hc with hc | hc
  ·exact h.lm c hc
  ·simp at hc;rw[hc];exact C
theorem LkM.fXh(h:LkM w n base bR gF gA gB gFr gW rv bA bB A B vF F wt){xs:List BY}(hd:DJ vF v)(M:w.ownsRow base 3 1 v m xs){u d:BY}{x:Int}(E:vF[k]? = some u)(S:F[k]? = some l)(hg:w.grownBy w' u.ownBlock)
    (N:w'.ownsRow base 3 1 d (l.length+1) (i64s (l ++ [x]))) (c:d.ownBlock=u.ownBlock\/d.ownBlock=some w.heap.size) :
    LkM (w'.setCell ⟨gFr,k,none⟩ d) n base bR gF gA gB gFr gW rv bA bB A B (vF.set k d) (F.set k (l ++ [x])) wt/\DJ (vF.set k d) v/\(w'.setCell ⟨gFr,k,none⟩ d).ownsRow base 3 1 v m xs:=by
  have O:=h.rf.2 k u l E S;have P:∀ g t cs,Blk w g t cs->t≠3->u.ownBlock≠some g:=fun g t cs o J=>own_ne O o (fun e=>J e.symm);have Q:∀ b m,IM w b m->u.ownBlock≠some b:=fun b m o=>o.fQk O;have H:=h.fr.grown hg (P _ _ _ h.fr (by decide));have gk:=nV w' gFr k d;have tr:∀ g t cs,Blk w g t cs->t≠3->g≠gFr->Blk (w'.setCell ⟨gFr,k,none⟩ d) g t cs:=fun g t cs o J K=>(o.grown hg (P g t cs o J)).grown gk (fun e=>by injection e with e;exact K e.symm);have R:∀ b m,IM w b m->IM (w'.setCell ⟨gFr,k,none⟩ d) b m:=fun b m o=>(o.grown hg (Q b m o)).grown gk (fun e=>by injection e with e;exact(o.grown hg (Q b m o)).fQi H e.symm);have L:∀ a p xs,w.ownsRow base 3 1 a p xs->∀ g,a.ownBlock=some g->g<w.heap.size:=fun a p xs ha g q=>(ha.lt g q).2
  have to:∀ a p xs,w.ownsRow base 3 1 a p xs->(∀ g,a.ownBlock=some g->u.ownBlock≠some g)->(w'.setCell ⟨gFr,k,none⟩ d).ownsRow base 3 1 a p xs:=fun a p xs ha K=>by
    have h1:=kV ha hg (fun g q=>K g q);exact gY h1 (own_ne h1 H (by decide))
  refine⟨{ h with r:=tr _ _ _ h.r (by decide) (blk_ne h.r h.fr (by decide)),f:=tr _ _ _ h.f (by decide) (blk_ne h.f h.fr (by decide)),a:=tr _ _ _ h.a (by decide) (blk_ne h.a h.fr (by decide)),b:=tr _ _ _ h.b (by decide) (blk_ne h.b h.fr (by decide)),w:=tr _ _ _ h.w (by decide) (blk_ne h.w h.fr (by decide)),
                    ma:=fun i b s q1 z=>R _ _ (h.ma i b s q1 z),mb:=fun i b s q1 z=>R _ _ (h.mb i b s q1 z),fr:=?_,rf:=⟨by simp[h.rf.1],fun i a p q1 z=>?_⟩ },⟨fun i j a b g I q1 z D=>?_,fun a ha g q=>?_⟩,to v m xs M (fun g T e=>hd.2 u (Ax E) g e T)⟩
  · have:=fV H k d
    have U:vF.toArray.setIfInBounds k d=(vF.set k d).toArray:=by simp
    rwa[U]at this
  · rcases qV q1 with⟨e,e2,_⟩ | ⟨e,e2⟩
    · subst e
      subst e2;rcases qV z with⟨_,y,_⟩ | ⟨C,_⟩
      · subst y
        have G:(l ++ [x]).length=l.length+1:=(by simp);rw[G];exact gY N (own_ne N H (by decide))
      · exact absurd rfl C
    · rw[AQ e]at z
      exact to a _ _ (h.rf.2 i a p e2 z) (fun g q C=>hd.1 i k a u g (fun y=>e y.symm) e2 E q C)
  · rcases qV q1 with⟨e,e2,_⟩ | ⟨e,e2⟩
    · subst e
      subst e2;rcases qV z with⟨C,_,_⟩ | ⟨C,y⟩
      · exact absurd C I
      · rcases c with c | c
        · exact hd.1 k j u b g I E y (by rw[<-c];exact D)
        · intro G
          rw[c]at D;injection D with D;obtain⟨p,hp⟩:∃ p,F[j]? = some p:=⟨_,Aj (by rw[<-h.rf.1];exact(List.getElem?_eq_some_iff.1 y).1)⟩;have:=L b _ _ (h.rf.2 j b p y hp) g G;omega
    · rcases qV z with⟨C,y,_⟩ | ⟨C,y⟩
      · subst C
        subst y;rcases c with c | c
        · rw[c];exact hd.1 i k a u g I e2 E D
        · rw[c]
          intro G;injection G with G;obtain⟨p,hp⟩:∃ p,F[i]? = some p:=⟨_,Aj (by rw[<-h.rf.1];exact(List.getElem?_eq_some_iff.1 e2).1)⟩;have:=L a _ _ (h.rf.2 i a p e2 hp) g D;omega
      · exact hd.1 i j a b g I e2 y D
  · rcases AY ha with ha | ha
    · exact hd.2 a ha g q
    · subst ha
      rcases c with c | c
      · exact hd.2 u (Ax E) g (by rw[<-c];exact q)
      · rw[c]at q
        injection q with q;intro e;have:=L v _ _ M g e;omega
end
structure Looked (r:RowD) (w:BW) (base gF gA gB:Nat) (bA bB:List Nat) (A B:Sets):Prop where
 f:Blk w gF 77 #[.slice (some ⟨gA,0,none⟩) r.code.length r.code.length,.slice (some ⟨gB,0,none⟩) r.code.length r.code.length]
 a:Blk w gA 73 (mapsV bA).toArray
 b:Blk w gB 73 (mapsV bB).toArray
 la:bA.length=A.length
 lb:bB.length=B.length
 ma:∀ (i:Nat) b s,bA[i]? = some b->A[i]? = some s->IM w b (setKV s)
 mb:∀ (i:Nat) b s,bB[i]? = some b->B[i]? = some s->IM w b (setKV s)
 s:Snd r A B
 eA:∀ (i:Nat) s x,A[i]? = some s->(x∈s↔Live r i x)
 eB:∀ (i:Nat) s x,B[i]? = some s->(x∈s↔LiveB r i x)
 lF:base<=gF
 lA:base<=gA
 lB:base<=gB
def dVb(e:EnvD)(r:RowD)(w:BW)(a:Ending)(w':BW):Prop:=
 (¬CheckP e r/\a = .returned (.tuple #[.pointer none,.int .i64 6])/\Ba w.heap.size w w') \/
 (CheckP e r/\∃ gF gA gB bA bB A B,a = .returned (.tuple #[.pointer (some ⟨gF,0,none⟩),.int .i64 0])/\Looked r w' w.heap.size gF gA gB bA bB A B/\Ba w.heap.size w w')
structure FromK (r:RowD) (F:Sets) (k:Nat) (d:List Int):Prop where
 l:F.length=r.code.length
 s:∀ (j:Nat) l,F[j]? = some l->(∀ x∈l,∃ i:Nat,x=i/\i<r.code.length)/\l.length<=66*k+d.length
 f:∀ (i j:Nat) c l,i<k->r.code[i]? = some c->(j:Int)∈nextOf c i->F[j]? = some l->(i:Int)∈l
 d:∀ (j:Nat) l,(j:Int)∈d->F[j]? = some l->(k:Int)∈l
theorem FromK.start{r:RowD}(h:r.code.length=n):FromK r (Aq n []) 0 [] where
 l:=by simp[h]
 s j l hj:=by
  obtain⟨hl,e⟩:=List.getElem?_eq_some_iff.1 hj;simp at e;subst e;simp
 f i j c l hi:=by omega
 d j l hj:=by simp at hj
theorem FromK.push{r:RowD}{F:Sets}(h:FromK r F k d)(m:k<r.code.length)(g:F[j]? = some l):FromK r (F.set j (l ++ [(k:Int)])) k (d ++ [(j:Int)]) where
 l:=by rw[AK];exact h.l
 s i u b:=by
  rcases qV b with⟨e,e2,_⟩ | ⟨e,e2⟩
  ·subst e;subst e2;obtain⟨h1,h2⟩:=h.s j l g;refine⟨fun x a=>?_,by simp;omega⟩;rcases List.mem_append.1 a with a | a
   ·exact h1 x a
   ·simp at a;exact⟨k,a,m⟩
  ·obtain⟨h1,h2⟩:=h.s i u e2;exact⟨h1,by simp;omega⟩
 f i q c u hi hc hq b:=by
  rcases qV b with⟨e,e2,_⟩ | ⟨e,e2⟩
  ·subst e;subst e2;exact Aw _ (h.f i j c l hi hc hq g)
  ·exact h.f i q c u hi hc hq e2
 d q u hq b:=by
  rcases qV b with⟨e,e2,_⟩ | ⟨e,e2⟩
  ·subst e2;simp
  ·rcases List.mem_append.1 hq with hq | hq
   ·exact h.d q u hq e2
   ·simp at hq;omega
theorem FromK.next{r:RowD}{F:Sets}{c:CodeD}(h:FromK r F k d)(hc:r.code[k]? = some c)(hd:∀ x,x∈nextOf c k->x∈d)(hl:d.length<=66):FromK r F (k+1) [] where
 l:=h.l
 s j l hj:=by
  obtain⟨h1,h2⟩:=h.s j l hj;exact⟨h1,by simp;omega⟩
 f i j c' l hi a hj hl':=by
  by_cases e:i=k
  ·subst e;rw[hc]at a;injection a with a;subst a;exact h.d j l (hd _ hj) hl'
  ·exact h.f i j c' l (by omega) a hj hl'
 d j l hj:=by simp at hj
theorem FromK.done{r:RowD}{F:Sets}(h:FromK r F n [])(hn:r.code.length=n):bXq r F:=
 ⟨h.l,fun k l a=>(h.s k l a).1,fun i k c l hc a b=>h.f i k c l (by rw[<-hn];exact(List.getElem?_eq_some_iff.1 hc).1) hc a b⟩
def rng(k:Nat):List Int:=(BJ k).map fun i:Nat=>(i:Int)
theorem aKq(k:Nat):(rng k).length=k:=by simp[rng]
theorem eQp(h:k<n):(rng k++Aq (n - k) 0).set k (k:Int)=rng (k+1)++Aq (n - (k+1)) 0:=by
 obtain⟨m,a⟩:∃ m,n - k=m+1:=⟨n - k - 1,by omega⟩;have b:n - (k+1)=m:=(by omega);rw[a,b,Ad];have e:rng (k+1)=rng k ++ [(k:Int)]:=(by simp[rng,List.range_succ]);rw[e,Bk _ _ (by rw[aKq];exact Av _),aKq,Bx];simp
theorem eJi(h:k<n):(Aq k true++Aq (n - k) false).set k true=Aq (k+1) true++Aq (n - (k+1)) false:=by
 obtain⟨m,a⟩:∃ m,n - k=m+1:=⟨n - k - 1,by omega⟩;have b:n - (k+1)=m:=(by omega);rw[a,b,Ad];rw[Bk _ _ (by simp),List.length_replicate,Bx,Bv];simp
def InRel(r:RowD)(n base bR gF gA gB gFr gW a:Nat)(rv:Array BY)(w0:BW)(k:Nat)(d:List Int)(j:Nat)(wr:BW):Prop:=
 ∃ (bA bB:List Nat) (vF:List BY) (F:Sets),bA.length=j/\bB.length=j/\LkM wr n base bR gF gA gB gFr gW rv bA bB (Aq j []) (Aq j []) vF F (Aq k true++Aq (n - k) false)/\DJ vF (.slice (some ⟨a,0,none⟩) n n) /\
  wr.ownsRow base 3 1 (.slice (some ⟨a,0,none⟩) n n) n (i64s (rng k++Aq (n - k) 0))/\FromK r F k d/\Ba base w0 wr
section
variable {w w':BW} {n base bR gF gA gB gFr gW:Nat} {rv:Array BY} {bA bB:List Nat} {A B:Sets} {vF:List BY} {F:Sets} {wt:List Bool}
theorem LkM.fQv(h:LkM w n base bR gF gA gB gFr gW rv bA bB A B vF F wt)(a:b∈bA++bB):b<w.heap.size:=by
 rcases List.mem_append.1 a with a | a
 ·obtain⟨i,hi⟩:=List.mem_iff_getElem?.1 a;exact(h.ma i b _ hi (Aj (by rw[<-h.la];exact(List.getElem?_eq_some_iff.1 hi).1))).lt
 ·obtain⟨i,hi⟩:=List.mem_iff_getElem?.1 a;exact(h.mb i b _ hi (Aj (by rw[<-h.lb];exact(List.getElem?_eq_some_iff.1 hi).1))).lt
theorem LkM.made(h:LkM w n base bR gF gA gB gFr gW rv bA bB A B vF F wt){c f:Nat}(j:bA.length=k)(l:bB.length=k)(m:k<n)(g:(c=w.heap.size/\f=w.heap.size+1)\/(c=w.heap.size+1/\f=w.heap.size)):
  LkM ((((w.setCell ⟨gA,k,none⟩ (.map (some c))).setCell ⟨gB,k,none⟩ (.map (some f))).alloc (.map #[] 0)).alloc (.map #[] 0)) n base bR gF gA gB gFr gW rv (bA ++ [c]) (bB ++ [f]) (A ++ [[]]) (B ++ [[]]) vF F wt:=by
 subst j;have hz:=h.fQf;have lA:=h.a.lt;have lB:=h.b.lt
 have e:(((w.setCell ⟨gA,bA.length,none⟩ (.map (some c))).setCell ⟨gB,bA.length,none⟩ (.map (some f))).alloc (.map #[] 0)).alloc (.map #[] 0)=(((w.alloc (.map #[] 0)).alloc (.map #[] 0)).setCell ⟨gA,bA.length,none⟩ (.map (some c))).setCell ⟨gB,bA.length,none⟩ (.map (some f)):=by
  rw[AV _ _ _ _ (show gA<(w.alloc (.map #[] 0)).heap.size by simp;omega),AV _ _ _ _ lA,AV _ _ _ _ (show gB<((w.setCell ⟨gA,bA.length,none⟩ (.map (some c))).alloc (.map #[] 0)).heap.size by simp;omega),AV _ _ _ _ (show gB<(w.setCell ⟨gA,bA.length,none⟩ (.map (some c))).heap.size by simp;omega)]
 rw[e];have h2:LkM ((w.alloc (.map #[] 0)).alloc (.map #[] 0)) n base bR gF gA gB gFr gW rv bA bB A B vF F wt:=h.grown (al2 w _ _);have i0:IM ((w.alloc (.map #[] 0)).alloc (.map #[] 0)) w.heap.size []:=(IM.new w).alloc _;have i1:IM ((w.alloc (.map #[] 0)).alloc (.map #[] 0)) (w.heap.size+1) []:=IM.newAt (by simp);have o:IM ((w.alloc (.map #[] 0)).alloc (.map #[] 0)) c []:=(by rcases g with⟨e,_⟩ | ⟨e,_⟩ <;> rw[e] <;> assumption);have q:IM ((w.alloc (.map #[] 0)).alloc (.map #[] 0)) f []:=(by rcases g with⟨_,e⟩ | ⟨_,e⟩ <;> rw[e] <;> assumption);have r:=h2.fXw m o (fun d=>by have:=h.fQv d;omega) (by omega);have s:=q.setCell (p:=⟨gA,bA.length,none⟩) (.map (some c)) (show f≠gA by omega)
 have i:=r.fXx (by omega) s (fun d=>by
  rw[AZ,AJ,AJ]at d;rcases d with d | d | d
  ·have:=h.fQv (Aw _ d);omega
  ·simp at d;omega
  ·have:=h.fQv (Aa _ d);omega) (by omega)
 rw[l]at i;exact i
end
theorem InRel.made{r:RowD}{n base bR gF gA gB gFr gW i k d f:Nat}{rv:Array BY}{w0 w:BW}(h:InRel r n base bR gF gA gB gFr gW i rv w0 k [] k w)(j:k<n)(l:(d=w.heap.size/\f=w.heap.size+1)\/(d=w.heap.size+1/\f=w.heap.size)):
  InRel r n base bR gF gA gB gFr gW i rv w0 k [] (k+1) ((((w.setCell ⟨gA,k,none⟩ (.map (some d))).setCell ⟨gB,k,none⟩ (.map (some f))).alloc (.map #[] 0)).alloc (.map #[] 0)):=by
 obtain⟨bA,bB,vF,F,h1,h2,c,o,g,q,s⟩:=h;have hz:=c.fQf;have m:=c.made h1 h2 j l;have e:Aq k ([]:List Int) ++ [[]]=Aq (k+1) []:=(by rw[Bv]);rw[e]at m;refine⟨bA ++ [d],bB ++ [f],vF,F,by simp[h1],by simp[h2],m,o,?_,q,?_⟩
 ·have q1:=own_ne g c.a (show(3:Nat)≠73 by decide);have t:=own_ne g c.b (show(3:Nat)≠73 by decide);exact iJ (iJ (gY (gY g q1) t) _) _
 ·exact(((s.setCell (p:=⟨gA,k,none⟩) c.lA _).setCell (p:=⟨gB,k,none⟩) c.lB _).alloc (by simp;exact hz) _).alloc (by simp;omega) _
def InRel2(r:RowD)(n base bR gF gA gB gFr gW a:Nat)(rv:Array BY)(w0:BW)(k:Nat)(d:List Int)(vn:BY)(ln:List Int)(wr:BW):Prop:=
 ∃ (bA bB:List Nat) (vF:List BY) (F:Sets),bA.length=k+1/\bB.length=k+1/\LkM wr n base bR gF gA gB gFr gW rv bA bB (Aq (k+1) []) (Aq (k+1) []) vF F (Aq k true++Aq (n - k) false)/\DJ vF (.slice (some ⟨a,0,none⟩) n n) /\
  wr.ownsRow base 3 1 (.slice (some ⟨a,0,none⟩) n n) n (i64s (rng k++Aq (n - k) 0))/\FromK r F k d/\Ba base w0 wr/\DJ vF vn/\wr.ownsRow base 3 1 vn ln.length (i64s ln)
theorem InRel.two{r:RowD}{d:Nat}{rv:Array BY}(h:InRel r n base bR gF gA gB gFr gW d rv w0 k [] (k+1) w)(f:w'.ownsRow w.heap.size 3 1 vn ln.length (i64s ln))(c:Ba w.heap.size w w'):
  InRel2 r n base bR gF gA gB gFr gW d rv w0 k [] vn ln w':=by
 obtain⟨bA,bB,vF,F,h1,h2,b,j,l,m,o⟩:=h;have hz:=b.fQf;refine⟨bA,bB,vF,F,h1,h2,b.grown c,j,nK l c (Av _),m,o.trans (c.mono hz),⟨j.1,fun a ha g hg e=>?_⟩,jX f hz⟩;obtain⟨i,hi⟩:=List.mem_iff_getElem?.1 ha;have p:i<F.length:=(by rw[<-b.rf.1];exact(List.getElem?_eq_some_iff.1 hi).1);have q1:=((b.rf.2 i a _ hi (Aj p)).lt g hg).2;have q2:=(f.lt g e).1;omega
theorem InRel2.one{r:RowD}{rv:Array BY}(h:InRel2 r n base bR gF gA gB gFr gW a rv w0 k d vn ln w):InRel r n base bR gF gA gB gFr gW a rv w0 k d (k+1) w:=by
 obtain⟨bA,bB,vF,F,h1,h2,b,c,e,f,g,_⟩:=h;exact⟨bA,bB,vF,F,h1,h2,b,c,e,f,g⟩
theorem InRel.mark{r:RowD}{c:CodeD}{rv:Array BY}(h:InRel r n base bR gF gA gB gFr gW a rv w0 k d (k+1) w)(hc:r.code[k]? = some c)(hd:∀ x,x∈nextOf c k->x∈d)(q:d.length<=66)(j:k<n)(s:base<=a):
  InRel r n base bR gF gA gB gFr gW a rv w0 (k+1) [] (k+1) ((w.setCell ⟨a,k,none⟩ (.int .i64 (k:Int))).setCell ⟨gW,k,none⟩ (.bool true)):=by
 obtain⟨bA,bB,vF,F,h1,h2,l,o,f,v,y⟩:=h;obtain⟨s1,s2⟩:=f.stored k (.int .i64 (k:Int));have m:=l.keep s2 (fun g t cs i q1 q2=>own_ne f i (fun e=>q1 e.symm)) (fun b m i=>i.fQk f) (fun u z g hg=>o.2 u z g hg);have m2:=m.wait k true;rw[eJi j]at m2
 have e:(i64s (rng k++Aq (n - k) 0)).set k (.int .i64 (k:Int))=i64s (rng (k+1)++Aq (n - (k+1)) 0):=by
  rw[<-eQp j];simp[i64s,BZ]
 rw[e]at s1;refine⟨bA,bB,vF,F,h1,h2,m2,o,gY s1 (own_ne s1 m.w (by decide)),v.next hc hd q,(y.setCell (p:=⟨a,k,none⟩) s _).setCell (p:=⟨gW,k,none⟩) l.lW _⟩
theorem InRel.drew{r:RowD}{n base bR gF gA gB gFr gW a k j:Nat}{d:List Int}{rv:Array BY}{w0 w:BW}(h:InRel r n base bR gF gA gB gFr gW a rv w0 k d j w):InRel r n base bR gF gA gB gFr gW a rv w0 k d j w.drew:=by
 obtain⟨bA,bB,vF,F,h1,h2,b,c,e,f,g⟩:=h;exact⟨bA,bB,vF,F,h1,h2,b.drew,c,bWj e,f,g.drew⟩
def MainRel(r:RowD)(n base bR gF gA gB gFr gW:Nat)(rv:Array BY)(w0:BW)(bA bB:List Nat)(vF:List BY)(F:Sets)(v:BY)(T:List Int)(A B:Sets)(wt:List Bool)(X:List Int)(wr:BW):Prop:=
 LkM wr n base bR gF gA gB gFr gW rv bA bB A B vF F wt/\DJ vF v/\wr.ownsRow base 3 1 v T.length (i64s T)/\LkInv r A B T wt X/\Ba base w0 wr
def muL(n p:Nat)(A:Sets)(T:List Int):Nat:=(n*p - yK A)*(n+1)+T.length
theorem InRel.main{r:RowD}{rv:Array BY}(h:InRel r n base bR gF gA gB gFr gW a rv w0 n [] n w)(hn:r.code.length=n):
  ∃ bA bB vF F,bA.length=n/\bB.length=n/\bXq r F/\MainRel r n base bR gF gA gB gFr gW rv w0 bA bB vF F (.slice (some ⟨a,0,none⟩) n n) (rng n) (Aq n []) (Aq n []) (Aq n true) [] w:=by
 obtain⟨bA,bB,vF,F,h1,h2,b,d,c,e,f⟩:=h;simp only[Bx,List.replicate_zero,By]at b c;refine⟨bA,bB,vF,F,h1,h2,e.done hn,b,d,?_,LkInv.start hn,f⟩;rw[aKq];exact c
def WkRel(n base bR gF gA gB gFr gW:Nat)(rv:Array BY)(w0:BW)(bA bB:List Nat)(vF:List BY)(F:Sets)(v:BY)(T:List Int)(gC:Nat)(cc:Array BY)(A B:Sets)(wt:List Bool)(w:BW):Prop:=
 LkM w n base bR gF gA gB gFr gW rv bA bB A B vF F wt/\DJ vF v/\w.ownsRow base 3 1 v T.length (i64s T)/\Blk w gC 52 cc/\base<=gC/\Ba base w0 w
section
variable {n base bR gF gA gB gFr gW gC:Nat} {rv cc:Array BY} {w0 w w':BW} {bA bB:List Nat} {vF:List BY} {F A B:Sets} {v:BY} {T:List Int} {wt:List Bool}
theorem WkRel.grown(h:WkRel n base bR gF gA gB gFr gW rv w0 bA bB vF F v T gC cc A B wt w)(a:Ba w.heap.size w w'):WkRel n base bR gF gA gB gFr gW rv w0 bA bB vF F v T gC cc A B wt w':=by
 obtain⟨h1,h2,c,b,d,e⟩:=h;exact⟨h1.grown a,h2,nK c a (Av _),b.below a b.lt,d,e.trans (a.mono h1.fQf)⟩
theorem WkRel.drew(h:WkRel n base bR gF gA gB gFr gW rv w0 bA bB vF F v T gC cc A B wt w):WkRel n base bR gF gA gB gFr gW rv w0 bA bB vF F v T gC cc A B wt w.drew:=by
 obtain⟨h1,h2,a,b,c,d⟩:=h;exact⟨h1.drew,h2,bWj a,b.drew,c,d.drew⟩
theorem WkRel.fQt(h:WkRel n base bR gF gA gB gFr gW rv w0 bA bB vF F v T gC cc A B wt w){i b:Nat}{s s':List Int}(c:bA[i]? = some b)(hs:A[i]? = some s)(hg:w.grownBy w' (some b))(j:IM w' b (setKV s')):
  WkRel n base bR gF gA gB gFr gW rv w0 bA bB vF F v T gC cc (A.set i s') B wt w':=by
 obtain⟨h1,h2,d,f,k,l⟩:=h;have hi:=h1.ma i b s c hs;exact⟨h1.fQt c hs hg j,h2,kV d hg (fun g a e=>hi.fQk d (a.trans e.symm)),f.grown hg (fun e=>by injection e with e;exact hi.fQi f e),k,iK l hg h1.fQf (fun g a=>by injection a with a;rw[<-a];exact h1.lm b (Aw _ (Ax c)))⟩
theorem WkRel.fQo(h:WkRel n base bR gF gA gB gFr gW rv w0 bA bB vF F v T gC cc A B wt w){i b:Nat}{s s':List Int}(c:bB[i]? = some b)(hs:B[i]? = some s)(hg:w.grownBy w' (some b))(j:IM w' b (setKV s')):
  WkRel n base bR gF gA gB gFr gW rv w0 bA bB vF F v T gC cc A (B.set i s') wt w':=by
 obtain⟨h1,h2,d,f,k,l⟩:=h;have hi:=h1.mb i b s c hs;exact⟨h1.fQo c hs hg j,h2,kV d hg (fun g a e=>hi.fQk d (a.trans e.symm)),f.grown hg (fun e=>by injection e with e;exact hi.fQi f e),k,iK l hg h1.fQf (fun g a=>by injection a with a;rw[<-a];exact h1.lm b (Aa _ (Ax c)))⟩
end
theorem MainRel.pop{r:RowD}{n base bR gF gA gB gFr gW b t c i:Nat}{rv cc:Array BY}{w0 w:BW}{bA bB:List Nat}{vF:List BY}{F A B:Sets}{T:List Int}{x:Int}{wt:List Bool}{X:List Int}
  (h:MainRel r n base bR gF gA gB gFr gW rv w0 bA bB vF F (.slice (some ⟨b,0,none⟩) (t+1) c) (T ++ [x]) A B wt X w) (d:T.length=t) :
  WkRel n base bR gF gA gB gFr gW rv w0 bA bB vF F (.slice (some ⟨b,0,none⟩) t c) T w.heap.size cc A B (wt.set i false) ((w.setCell ⟨gW,i,none⟩ (.bool false)).alloc (.cells cc 52)):=by
 obtain⟨h1,h2,j,_,l⟩:=h;have m:(T ++ [x]).length=t+1:=(by simp[d]);rw[m]at j;have f:=bQx (k:=t) j (by omega) (by simp)
 have e:(i64s (T ++ [x])).take (t*1)=i64s T:=by
  rw[Nat.mul_one,<-d];unfold i64s;rw[Ab,List.take_left' (by simp)]
 rw[e]at f;have m1:=h1.wait i false;have hz:(w.setCell ⟨gW,i,none⟩ (.bool false)).heap.size=w.heap.size:=(by simp);have q:(Value.slice (some ⟨b,0,none⟩) t c).ownBlock≠some gW:=own_ne f h1.w (by decide);refine⟨m1.grown ((Af _ _).alloc (Av _) _),⟨h2.1,fun a ha g hg=>h2.2 a ha g hg⟩,?_,Blk.newAt _ _ _ hz,h1.fQf,(l.setCell (p:=⟨gW,i,none⟩) h1.lW _).alloc (by rw[hz];exact h1.fQf) _⟩;rw[d];exact iJ (gY f q) _
theorem bQy{r:RowD}{A B:Sets}{wt:List Bool}(h:LkInv r A B T wt X):T.length<=r.code.length:=
 qJ h.tn (fun x a=>by obtain⟨i,e,hi⟩:=h.tr x a;omega)
theorem aQp{m d L:KV}(h:IT w b r m L)(f:IM w a d):a≠r:=by
 obtain⟨es,clock,seen,h1,h2,h3,h4,c,_⟩:=h;obtain⟨ad,aa,g,_⟩:=f;intro e;subst e;rw[g]at c;cases c
theorem zQ{m L:KV}{cs:Array BY}(h:IT w b r m L)(k:Blk w g t cs):r≠g:=by
 obtain⟨es,clock,seen,h1,h2,h3,h4,a,_⟩:=h;intro e;subst e;have:=a.symm.trans k;injection this with this;cases this
theorem aWl{size:Nat}{m L:KV}{xs:List BY}(h:IT w b r m L)(k:w.ownsRow base t size v n xs):v.ownBlock≠some r:=by
 rcases k.2 with⟨h1,_⟩ | ⟨g,cap,cur,h1,h2,a,_⟩
 ·subst h1;simp[Value.ownBlock]
 ·subst h1;intro e;injection e with e;exact zQ h (show Blk w g t cur from a) e.symm
section
variable {n base bR gF gA gB gFr gW gC:Nat} {rv cc:Array BY} {w0 w w':BW} {bA bB:List Nat} {vF:List BY} {F A B:Sets} {v:BY} {T:List Int} {wt:List Bool}
theorem WkRel.turn(h:WkRel n base bR gF gA gB gFr gW rv w0 bA bB vF F v T gC cc A B wt w){rI:Nat}{m L:KV}(a:IT w b rI m L)(hg:w.grownBy w' (some rI))(hb:base<=rI):WkRel n base bR gF gA gB gFr gW rv w0 bA bB vF F v T gC cc A B wt w':=by
 obtain⟨h1,h2,c,d,f,j⟩:=h;refine⟨h1.keep hg (fun g t cs k _ _ e=>by injection e with e;exact zQ a k e) (fun b' m' l e=>by injection e with e;exact aQp a l e.symm) (fun u o g p e=>?_),h2,kV c hg (fun g q e=>aWl a c (q.trans e.symm)),d.grown hg (fun e=>by injection e with e;exact zQ a d e),f,iK j hg h1.fQf (fun g e=>by injection e with e;omega)⟩;obtain⟨i,hi⟩:=List.mem_iff_getElem?.1 o;have r:i<F.length:=(by rw[<-h1.rf.1];exact(List.getElem?_eq_some_iff.1 hi).1);exact aWl a (h1.rf.2 i u _ hi (Aj r)) (p.trans e.symm)
theorem WkRel.new(h:WkRel n base bR gF gA gB gFr gW rv w0 bA bB vF F v T gC cc A B wt w)(hg:w.grownBy w' none):WkRel n base bR gF gA gB gFr gW rv w0 bA bB vF F v T gC cc A B wt w':=by
 obtain⟨h1,h2,a,b,c,d⟩:=h;exact⟨h1.keep hg (fun _ _ _ _ _ _=>by simp) (fun _ _ _=>by simp) (fun _ _ _ _=>by simp),h2,kV a hg (fun g aa e=>by cases e),b.grown hg (by simp),c,iK d hg h1.fQf (fun g e=>by cases e)⟩
end
def WlRel(r:RowD)(n base bR gF gA gB gFr gW:Nat)(rv:Array BY)(w0:BW)(bA bB:List Nat)(vF:List BY)(F:Sets)(v:BY)(T:List Int)(gC:Nat)(cc:Array BY)(wt:List Bool)(A0 B0:Sets)(i:Nat)(c:CodeD)(s0:List Int)(vn:BY)(ln D:List Int)(b:Bool)(w:BW):Prop:=
 ∃ A B s t,WkRel n base bR gF gA gB gFr gW rv w0 bA bB vF F v T gC cc A B wt w/\Work r A0 B0 A B i c s0 D s t b/\w.ownsRow base 3 1 vn ln.length (i64s ln)
def WiRel(r:RowD)(n base bR gF gA gB gFr gW:Nat)(rv:Array BY)(w0:BW)(bA bB:List Nat)(vF:List BY)(F:Sets)(v:BY)(T:List Int)(gC:Nat)(cc:Array BY)(wt:List Bool)(A0 B0:Sets)(i:Nat)(c:CodeD)(s0:List Int)(vn:BY)(ln D:List Int)(k:Nat)(u:List Int)(bk rI:Nat)(A B:Sets)(s t:List Int)(L:KV)(b:Bool)(w:BW):Prop:=
 WkRel n base bR gF gA gB gFr gW rv w0 bA bB vF F v T gC cc A B wt w/\Work r A0 B0 A B i c s0 D s t b/\w.ownsRow base 3 1 vn ln.length (i64s ln) /\
  A[k]? = some u/\IT w bk rI (setKV u) L/\(∀ x∈u,x ∉ L.map (·.1)->x∈t/\(x ∉ c.outs->x∈s))/\(∀ x∈L.map (·.1),x∈u)/\base<=rI
section
variable {r:RowD} {n base bR gF gA gB gFr gW gC i:Nat} {rv cc:Array BY} {w0 w w':BW} {bA bB:List Nat} {vF:List BY} {F:Sets} {v:BY} {T:List Int} {wt:List Bool} {A0 B0 A B:Sets} {c:CodeD} {s0 s t ln D u:List Int} {vn:BY} {b:Bool} {k bk rI:Nat} {L:KV}
theorem WiRel.start(h1:WkRel n base bR gF gA gB gFr gW rv w0 bA bB vF F v T gC cc A B wt w)(h2:Work r A0 B0 A B i c s0 D s t b)(d:w.ownsRow base 3 1 vn ln.length (i64s ln))(f:A[k]? = some u)(hg:w.grownBy w' none)(h:IT w' bk w.heap.size (setKV u) (setKV u)):
  WiRel r n base bR gF gA gB gFr gW rv w0 bA bB vF F v T gC cc wt A0 B0 i c s0 vn ln D k u bk w.heap.size A B s t (setKV u) b w':=by
 have e:(setKV u).map (·.1)=u:=by simp[setKV,Function.comp_def]
 refine⟨h1.new hg,h2,kV d hg (fun g aa e=>by cases e),f,h,fun x a hn=>absurd (by rw[e];exact a) hn,fun x a=>by rw[e]at a;exact a,h1.1.fQf⟩
theorem WiRel.done(h:WiRel r n base bR gF gA gB gFr gW rv w0 bA bB vF F v T gC cc wt A0 B0 i c s0 vn ln D k u bk rI A B s t [] b w):
  WlRel r n base bR gF gA gB gFr gW rv w0 bA bB vF F v T gC cc wt A0 B0 i c s0 vn ln (D ++ [(k:Int)]) b w:=by
 obtain⟨h1,h2,a,d,h5,e,h7,h8⟩:=h;exact⟨A,B,s,t,h1,h2.next d (fun x f=>e x f (by simp)),a⟩
theorem WiRel.turn{a d:KV}{p:Int}{x:BY}(h:WiRel r n base bR gF gA gB gFr gW rv w0 bA bB vF F v T gC cc wt A0 B0 i c s0 vn ln D k u bk rI A B s t (a++(p,x) :: d) b w)(hI:IT w' bk rI (setKV u) (a++d))(hg:w.grownBy w' (some rI)):
  WkRel n base bR gF gA gB gFr gW rv w0 bA bB vF F v T gC cc A B wt w'/\w'.ownsRow base 3 1 vn ln.length (i64s ln)/\p∈u:=by
 obtain⟨h1,h2,f,h4,j,h6,l,m⟩:=h;exact⟨h1.turn j hg m,kV f hg (fun g o e=>aWl j f (o.trans e.symm)),l p (by simp)⟩
theorem bWp{a b:KV}{y:Int}{x:BY}(h:y ∉ (a++b).map (·.1))(hp:y≠p):y ∉ (a++(p,x) :: b).map (·.1):=by
 simp only[Ab,Ai,AJ,BQ,not_or]at h ⊢;exact⟨h.1,hp,h.2⟩
theorem bXr{a b:KV}{y:Int}{x:BY}(h:y∈(a++b).map (·.1)):y∈(a++(p,x) :: b).map (·.1):=by
 simp only[Ab,Ai,AJ,BQ]at h ⊢;rcases h with h | h
 ·exact .inl h
 ·exact .inr (.inr h)
theorem WiRel.skip{d f:KV}{x:BY}{w1 j:BW}{a:Nat}(h:WiRel r n base bR gF gA gB gFr gW rv w0 bA bB vF F v T gC cc wt A0 B0 i c s0 vn ln D k u bk rI A B s t (d++(p,x) :: f) b w)(l:IT w1 bk rI (setKV u) (d++f))(hg:w.grownBy w1 (some rI))
  (G:bA[k]? = some bk) (m:bB[i]? = some a) (H:IM j a (setKV (ins t p))) (o:w1.grownBy j (some a)) (hc:r.code[i]? = some c) (I:(k:Int)∈nextOf c i) (hs:p ∉ c.outs->p∈s) :
  WiRel r n base bR gF gA gB gFr gW rv w0 bA bB vF F v T gC cc wt A0 B0 i c s0 vn ln D k u bk rI A (B.set i (ins t p)) s (ins t p) (d++f) b j:=by
 obtain⟨q1,z,J⟩:=h.turn l hg;obtain⟨h1,h2,h3,C,h5,K,L,M⟩:=h;have N:LiveB r i p:=⟨c,hc,k,I,h2.snd.sA k u p C J⟩;have E:=q1.1.mb i a t m h2.b;have O:=List.nodup_append.1 q1.1.nd;have P:a≠bk:=fun e=>O.2.2 bk (Ax G) a (Ax m) e.symm;refine⟨q1.fQo m h2.b o H,h2.behind N,kV z o (fun g Q e=>E.fQk z (Q.trans e.symm)),C,l.grown o (fun e=>by injection e with e;exact P e) (fun e=>by injection e with e;exact aQp l E e),fun y q hn=>?_,fun y q=>L y (bXr q),M⟩;by_cases hp:y=p
 ·subst hp;exact⟨sV.2 (.inr rfl),hs⟩
 ·obtain⟨R,S⟩:=K y q (bWp hn hp);exact⟨sV.2 (.inl R),S⟩
theorem WiRel.put{l m:KV}{x:BY}{w1 o q:BW}{j d:Nat}(h:WiRel r n base bR gF gA gB gFr gW rv w0 bA bB vF F v T gC cc wt A0 B0 i c s0 vn ln D k u bk rI A B s t (l++(p,x) :: m) b w)(z:IT w1 bk rI (setKV u) (l++m))(hg:w.grownBy w1 (some rI))
  (M:bA[k]? = some bk) (C:bB[i]? = some d) (Y:IM o d (setKV (ins t p))) (E:w1.grownBy o (some d)) (hc:r.code[i]? = some c) (Z:(k:Int)∈nextOf c i) (G:p ∉ c.outs) (hs:p ∉ s) (H:bA[i]? = some j) (ao:IM q j (setKV (s ++ [p]))) (I:o.grownBy q (some j)) :
  WiRel r n base bR gF gA gB gFr gW rv w0 bA bB vF F v T gC cc wt A0 B0 i c s0 vn ln D k u bk rI (A.set i (s ++ [p])) (B.set i (ins t p)) (s ++ [p]) (ins t p) (l++m) true q:=by
 obtain⟨q1,N,O⟩:=h.turn z hg;obtain⟨h1,h2,h3,f,h5,h6,h7,h8⟩:=h;have P:LiveB r i p:=⟨c,hc,k,Z,h2.snd.sA k u p f O⟩;have Q:=q1.1.mb i d t C h2.b;have R:=List.nodup_append.1 q1.1.nd;have aq:d≠bk:=fun e=>R.2.2 bk (Ax M) d (Ax C) e.symm
 have S:k≠i:=by
  intro e;subst e;rw[h2.a]at f;injection f with f;exact hs (f ▸ O)
 have af:j≠bk:=fun e=>S (aXq R.1 (M.trans (congrArg some e.symm)) H);have U:=q1.fQo C h2.b E Y;have J:=h2.behind P;have V:=kV N E (fun g K e=>Q.fQk N (K.trans e.symm));have W:=z.grown E (fun e=>by injection e with e;exact aq e) (fun e=>by injection e with e;exact aQp z Q e);have X:=U.1.ma i j s H J.a;refine⟨U.fQt H J.a I ao,J.fresh (P.ahead hc G) hs (sV.2 (.inr rfl)),kV V I (fun g K e=>X.fQk V (K.trans e.symm)),by rw[AQ (fun e=>S e.symm)];exact f,W.grown I (fun e=>by injection e with e;exact af e) (fun e=>by injection e with e;exact aQp W X e),fun y L hn=>?_,fun y L=>h7 y (bXr L),h8⟩;by_cases hp:y=p
 ·subst hp;exact⟨sV.2 (.inr rfl),fun _=>by simp⟩
 ·obtain⟨a1,a2⟩:=h6 y L (bWp hn hp);exact⟨sV.2 (.inl a1),fun G=>Aw _ (a2 G)⟩
end
theorem WlRel.main{r:RowD}{n base bR gF gA gB gFr gW gC i:Nat}{rv cc:Array BY}{w0 w:BW}{bA bB:List Nat}{vF:List BY}{F:Sets}{v:BY}{T l:List Int}{wt:List Bool}{A0 B0:Sets}{c:CodeD}{s0 ln D:List Int}{vn:BY}{b:Bool}{p:Nat}
  (h:WlRel r n base bR gF gA gB gFr gW rv w0 bA bB vF F v T gC cc (wt.set i false) A0 B0 i c s0 vn ln D b w) (hi:LkInv r A0 B0 (T ++ [(i:Int)]) wt []) (hc:r.code[i]? = some c) (d:∀ k:Nat,(k:Int)∈nextOf c i->(k:Int)∈D) (hF:bXq r F) (f:F[i]? = some l)
  (g:∀ A B,Snd r A B->∀ s∈A,s.length<=p) (hn:r.code.length=n) :
  ∃ A B,MainRel r n base bR gF gA gB gFr gW rv w0 bA bB vF F v T A B (wt.set i false) (if b then l else[]) w/\(b=true->yK A0<yK A)/\(b=false->yK A=yK A0)/\yK A<=n*p:=by
 obtain⟨A,B,s,t,h1,h2,h3⟩:=h;have e:=eQo (s':=s) h2.i0;rw[<-h2.ea]at e;refine⟨A,B,⟨h1.1,h1.2.1,h1.2.2.1,hi.done hc h2 d hF f,h1.2.2.2.2.2⟩,fun a=>?_,fun a=>?_,?_⟩
 ·have:=h2.ln a;omega
 ·have:=h2.ls a;rw[this]at e;omega
 ·have:=eJh (g A B h2.snd);rw[h2.snd.lA,hn]at this;exact this
theorem MainRel.waits{r:RowD}{rv:Array BY}{vF:List BY}{F:Sets}{A B:Sets}{wt:List Bool}(h:MainRel r n base bR gF gA gB gFr gW rv w0 bA bB vF F v T A B wt ((j:Int) :: X) w)(hj:wt[j]? = some true):
  MainRel r n base bR gF gA gB gFr gW rv w0 bA bB vF F v T A B wt X w:=
 ⟨h.1,h.2.1,h.2.2.1,h.2.2.2.1.wait hj,h.2.2.2.2⟩
theorem MainRel.push{r:RowD}{n base bR gF gA gB gFr gW:Nat}{rv:Array BY}{w0 w w':BW}{bA bB:List Nat}{vF:List BY}{F:Sets}{v f:BY}{T X:List Int}{A B:Sets}{wt:List Bool}{j:Nat}(h:MainRel r n base bR gF gA gB gFr gW rv w0 bA bB vF F v T A B wt ((j:Int) :: X) w)(hj:wt[j]? = some false)
  (k:w'.ownsRow base 3 1 f (T.length+1) (i64s (T ++ [(j:Int)]))) (hg:w.grownBy w' v.ownBlock) (c:f.ownBlock=v.ownBlock\/f.ownBlock=some w.heap.size) :
  MainRel r n base bR gF gA gB gFr gW rv w0 bA bB vF F f (T ++ [(j:Int)]) A B (wt.set j true) X (w'.setCell ⟨gW,j,none⟩ (.bool true)):=by
 obtain⟨h1,h2,i,o,s⟩:=h;have m:=h1.keep hg (fun g t cs d q1 q2=>own_ne i d (fun e=>q1 e.symm)) (fun b m d=>d.fQk i) (fun u x g y=>h2.2 u x g y);have d:=iK s hg h1.fQf (fun g z=>(i.lt g z).1);refine⟨m.wait j true,⟨h2.1,fun a ha g l=>?_⟩,?_,o.push hj,d.setCell (p:=⟨gW,j,none⟩) h1.lW _⟩
 ·rcases c with c | c
  ·rw[c];exact h2.2 a ha g l
  ·rw[c];intro e;injection e with e;obtain⟨q,hq⟩:=List.mem_iff_getElem?.1 ha;have C:q<F.length:=(by rw[<-h1.rf.1];exact(List.getElem?_eq_some_iff.1 hq).1);have:=((h1.rf.2 q a _ hq (Aj C)).lt g l).2;omega
 ·have D:(T ++ [(j:Int)]).length=T.length+1:=(by simp);rw[D];exact gY k (own_ne k m.w (by decide))
theorem bKc(w:BW):(zeroValue 4).run fZ w = .ok (.bool false) w:=by kernel_rfl
theorem dVc{p:Nat}{A a:Sets}{T':List Int}(h1:yK A<yK a)(h2:yK a<=n*p)(h3:T'.length<=n):muL n p a T'<muL n p A T:=by
 unfold muL;generalize n*p=q at *;have b:(q - yK a+1)*(n+1)<=(q - yK A)*(n+1):=Nat.mul_le_mul_right _ (by omega);rw[BK]at b;omega
theorem dVd{p:Nat}{A a:Sets}(h1:yK a=yK A):muL n p a T<muL n p A (T ++ [x]):=by
 unfold muL;rw[h1];simp
theorem eQq{p:Nat}{e:TypeId}{xs:List BY}(h:w.ownsRow p e 1 v n xs):n<=9223372036854775807:=by
 rcases h.2 with⟨_,h⟩ | ⟨g',aa,cur,rfl,h1,h2,h3,a,r⟩
 ·omega
 ·unfold maxLen at a;omega
theorem MainRel.none{r:RowD}{rv:Array BY}{vF:List BY}{F:Sets}{A B:Sets}{wt:List Bool}(h:MainRel r n base bR gF gA gB gFr gW rv w0 bA bB vF F v T A B wt (if false=true then l else[]) w):
  MainRel r n base bR gF gA gB gFr gW rv w0 bA bB vF F v T A B wt [] w:=h
theorem MainRel.all{r:RowD}{rv:Array BY}{vF:List BY}{F:Sets}{A B:Sets}{wt:List Bool}(h:MainRel r n base bR gF gA gB gFr gW rv w0 bA bB vF F v T A B wt (if true=true then l else[]) w):
  MainRel r n base bR gF gA gB gFr gW rv w0 bA bB vF F v T A B wt l w:=h
theorem MainRel.alloc{r:RowD}{n base bR gF gA gB gFr gW:Nat}{rv:Array BY}{w0 w:BW}{bA bB:List Nat}{vF:List BY}{F:Sets}{v:BY}{T l:List Int}{A B:Sets}{wt:List Bool}(h:MainRel r n base bR gF gA gB gFr gW rv w0 bA bB vF F v T A B wt l w)(o:Obj):
  MainRel r n base bR gF gA gB gFr gW rv w0 bA bB vF F v T A B wt l (w.alloc o):=⟨h.1.grown ((Af _ _).alloc (Av _) _),h.2.1,iJ h.2.2.1 _,h.2.2.2.1,h.2.2.2.2.alloc h.1.fQf _⟩
end Go.Proofs.YtabibkpfgmolkaaGreat

/- Lemmas for the claim, part 12. Conditions: none. -/
import Derived.Test.YtabibkpfgmolkaaGreatDoorPt11
import Derived.Deep.AppendLies
import Derived.Laws.CopyOwn
import Derived.LoopIn
import Derived.LoopNIn
import Derived.OwnWalkIn
import Derived.RangeFuncBound
import Derived.RangeFuncNested
import Derived.Shelf.RegionOpen
import Derived.StillTailTactics
set_option maxRecDepth 100000
set_option maxHeartbeats 16000000
set_option linter.unusedVariables false
set_option linter.unusedSimpArgs false
open Go.Lib renaming hid→fQ
open Go.Proofs.Tryz renaming prog→fZ
open Go.Proofs.Tryz
open Go.RowKit
open List renaming getElem?_eq_getElem→Aj,mem_of_getElem?→Ax,take_of_length_le→Aw,take_succ_eq_append_getElem→Ay,getElem?_append_right→AQ,getElem?_append_left→AX,any_append→AK,getElem?_toArray→AV,getElem?_map→AY,getElem_set→Ad,getElem_mem→Ae,length_set→Af,range_succ→Ag,range→Ah,map_set→Bj
open Nat renaming le_refl→Aq,eq_zero_or_pos→AW,le_of_eq→Aa,add_zero→Ab
open Array renaming replicate→Az
open Go.RowKit.Below renaming refl→Ak
open Go.IntWalk renaming i64_in→AJ
open Go.World renaming ownsRow_nil→AZ
open Go renaming World→Bq,Value→Bx,Calls→Bk
open Go.RowKit renaming Below→Bz
open Go.Value renaming int->fF,slice->fG,bool->fH,tuple->fI,agg->fM
open Go.IntKind renaming i64->fN,u64->fO
open Go.Obj renaming cells->fP
open Go.Ending renaming returned->fR
open Or renaming inl->fS,inr->fT
open Option renaming none->fU,some->gh
open Bool renaming true->gj,false->gm
namespace Go.Proofs.YtabibkpfgmolkaaGreatDoor
variable {n k P g i a base b j p:Nat}{w w2 wr w':Bq}{v:Bx}{l u:List Int}{t:TypeId}{gs S:List Nat}{x o:Int}{A:Option Addr}
def fQz(b:Bool)(w:Bq)(a:Ending)(w':Bq):Prop:=a = fR (fH b)/\Bz w.heap.size w w'
theorem dZh(e:ia)(r:gR)(c:gP)(i:Nat)(ve t:Bx)(w:Bq)(he:iG w ve e)(hr:jn w t r)(hi:r.K[i]? = gh c)(y:iH e=gj)(hS:je r.a2=gj)(aE:r.K.length<=4096):
  Bk fZ 81 #[ve,t,fF fN (i:Int)] w (fQz (codeOk e r c) w):=by
 have z:=fQ (eQn (c:=c) (r:=r) y hS)
 have az:=fQ (show e.a3.length=e.E.length by
  unfold iH at y;simp only[Bool.and_eq_true,decide_eq_true_eq]at y
  exact y.1.2.2.2)
 obtain⟨g,an⟩:∃ b,codeOk e r c=b:=⟨_,rfl⟩;rw[an]at z ⊢;have HE:=fQ he;have HR:=fQ hr;obtain⟨va,vb,R,rfl,h1,h2,h3⟩:=he;obtain⟨vp,vq,t,vs,rfl,S,T,h6,U⟩:=hr;obtain⟨B,C,rfl⟩:=S.I;obtain⟨D,E,rfl⟩:=T.I;obtain⟨Ac,V,rfl,_⟩:=U.len;have aF:i<r.K.length:=(gw hi).1;have aA:(i:Int)<(r.K.length:Int):=fu;obtain⟨A,go,p,q,tt,rfl,aG,g0,g1,g2,g3,g4,s0,s1,s2,s3⟩:=U.K hi;obtain⟨F,G,rfl⟩:=s1.I;obtain⟨H,I,rfl⟩:=s2.I;obtain⟨J,tc,rfl⟩:=s3.I;have aB:A<w.heap.size+1:=fu;have aC:=fQ (show jq w (fM #[fG B r.a2.a1.length C,fG D r.a2.out.length E]) r.a2 from⟨_,_,rfl,S,T⟩);have aD:=fQ (show jz w (fM #[fF fN c.op,fF fO (c.n:Int),fG F c.args.length G,fG H c.O.length I,fG J c.to.length tc]) c from⟨_,_,_,rfl,s0,s1,s2,s3⟩);have HA:=fQ s1.ir;have HO:=fQ s2.ir;have HT:=fQ s3.ir;have m:=fQ (mh w (fP #[va,fF fN e.G,vb,R,fH e.L] 26) (fP #[fG B r.a2.a1.length C,fG D r.a2.out.length E,fF fN r.M,t,fG (gh ⟨A,go,fU⟩) r.K.length V] 89) (fP #[fF fN c.op,fF fO (c.n:Int),fG F c.args.length G,fG H c.O.length I,fG J c.to.length tc] 86));clear h1 h2 h3 S T h6 U hi s0 s1 s2 s3 an y hS;go_in
 have no:=fun(h:¬(c.args.length<=8/\c.O.length<=8/\c.to.length<=65))=>(show g=gm by
  cases g with
  | false=>rfl
  | true=>exact gH (z.1 rfl).1 h)
 have K:=fQ no;clear no;by_cases W:c.args.length<=8
 ·have u1:decide ((8:Int)<(c.args.length:Int))=gm:=fw;have ao:decide (8<c.args.length)=gm:=fw;by_cases k2:c.O.length<=8
  ·have u2:decide ((8:Int)<(c.O.length:Int))=gm:=fw;have aq:decide (8<c.O.length)=gm:=fw;by_cases X:c.to.length<=65
   ·have u3:decide ((65:Int)<(c.to.length:Int))=gm:=fw;have ar:decide (65<c.to.length)=gm:=fw;go_wp2_with fail;have au:=fQ (gO.alloc (gO.X (w.alloc (fP #[va,fF fN e.G,vb,R,fH e.L] 26)) (N:=w.heap.size+1) 89 #[fG B r.a2.a1.length C,fG D r.a2.out.length E,fF fN r.M,t,fG (gh ⟨A,go,fU⟩) r.K.length V] fz) (fP #[fF fN c.op,fF fO (c.n:Int),fG F c.args.length G,fG H c.O.length I,fG J c.to.length tc] 86));have aw:=fQ (gO.X ((w.alloc (fP #[va,fF fN e.G,vb,R,fH e.L] 26)).alloc (fP #[fG B r.a2.a1.length C,fG D r.a2.out.length E,fF fN r.M,t,fG (gh ⟨A,go,fU⟩) r.K.length V] 89)) (N:=w.heap.size+1+1) 86 #[fF fN c.op,fF fO (c.n:Int),fG F c.args.length G,fG H c.O.length I,fG J c.to.length tc] fz);refine(bVn e r.a2 c _ _ _ _ (HE.C m.out (Aq _)) (aC.C m.out (Aq _)) (aD.C m.out (Aq _)) az.out).mono ?_;rintro Y w1 ⟨vi,vo,ok,ii,u,rfl,q1,q2,q3,q4,L⟩;obtain⟨Ai,ci,rfl⟩:=q1.I;obtain⟨Ao,co,rfl⟩:=q2.I;have f:=fQ (m.trans (L.mono m.out.size));have ax:=fQ (au.C L au.lt);have ay:=fQ (aw.C L aw.lt);have Q3:=fQ q3;have Q4:=fQ q4;have M:=fQ (show c.args.length<=8/\c.O.length<=8/\c.to.length<=65 from⟨W,k2,X⟩);clear q1 q2 q3 q4 L u1 ao u2 aq u3 ar g0 g1 g2 g3 g4 K
    cases hf:iV e r.a2 c.op c.n with
    | none=>
     have Z:=Q3.out hf;subst Z
     have a:=fQ (show g=gm by
      cases g with
      | false=>rfl
      | true=>obtain⟨_,_,_,h,_⟩:=z.1 rfl;rw[hf]at h;cases h)
     clear hf;go_wp2;go_ret;exact⟨by rw[a.out];rfl,f.out⟩
    | some x=>
     obtain⟨Z,hx⟩:=Q4.out x hf;subst Z;subst hx
     have af:=fQ (show g=gj↔(ii.length=c.args.length/\u.length=c.O.length/\mQ r.M c.args gm=gj/\mQ r.M c.O gj=gj/\mQ r.K.length c.to gm=gj/\wY c=gj) by
      rw[z.out];constructor
      ·rintro⟨_,i',o',h,h2⟩;rw[hf]at h;injection h with h;injection h with e1 e2;subst e1;subst e2;exact h2
      ·intro h
       exact⟨M.out,ii,u,hf,h⟩)
     clear hf z Q3 Q4
     have v:=fQ (fun(h:¬(ii.length=c.args.length/\u.length=c.O.length/\mQ r.M c.args gm=gj/\mQ r.M c.O gj=gj/\mQ r.K.length c.to gm=gj/\wY c=gj))=>(show g=gm by
      cases g with
      | false=>rfl
      | true=>exact gH (af.1 rfl) h))
     obtain⟨c0,c1,c2,c3,c4⟩:=gZ ay.out;obtain⟨r0,r1,r2,r3,r4⟩:=gZ ax.out;by_cases m1:ii.length=c.args.length
     ·have v1:((ii.length:Int) != (c.args.length:Int))=gm:=fw;have M1:=fQ m1;clear m1;by_cases m2:u.length=c.O.length
      ·have v2:((u.length:Int) != (c.O.length:Int))=gm:=fw;have M2:=fQ m2;clear m2;go_wp2_with fail;refine(aJo gm r.M _ c.args _ (HA.C f.out (Aq _)) (by have:=M.out;omega)).mono ?_;rintro Y w2 ⟨rfl,m2,rfl⟩
       cases O:mQ r.M c.args gm with
       | false=>
        have a:=fQ (v.out (fun h=>by have h:=h.2.2.1;rw[O]at h;cases h));clear O;go_wp2;go_ret;exact⟨by rw[a.out];rfl,fK f.out _⟩
       | true=>
        have P2:=fQ O;clear O;go_wp2_with fail;refine(aJo gj r.M _ c.O _ ((HO.C f.out (Aq _)).drewN _) (by have:=M.out;omega)).mono ?_;rintro Y w3 ⟨rfl,m3,rfl⟩
        cases P:mQ r.M c.O gj with
        | false=>
         have a:=fQ (v.out (fun h=>by have h:=h.2.2.2.1;rw[P]at h;cases h));clear P;go_wp2;go_ret;exact⟨by rw[a.out];rfl,fK f.out _⟩
        | true=>
         have P3:=fQ P;clear P;go_wp2_with fail;refine(aJo gm (r.K.length:Int) _ c.to _ ((HT.C f.out (Aq _)).drewN _) (by have:=M.out;omega)).mono ?_;rintro Y w4 ⟨rfl,m4,rfl⟩
         cases Q:mQ (r.K.length:Int) c.to gm with
         | false=>
          have a:=fQ (v.out (fun h=>by have h:=h.2.2.2.2.1;rw[Q]at h;cases h));clear Q;go_wp2;go_ret;exact⟨by rw[a.out];rfl,fK f.out _⟩
         | true=>
          have P4:=fQ Q;clear Q
          have o:=fQ (show g=wY c by
           cases ht:wY c with
           | true=>exact af.2 ⟨M1.out,M2.out,P2.out,P3.out,P4.out,ht⟩
           | false=>exact v.out (fun h=>by have h:=h.2.2.2.2.2;rw[ht]at h;cases h))
          by_cases j:c.op=273
          ·have z1:(c.op == 273)=gj:=(by simp[j]);by_cases d:c.to.length=1
           ·have s:((c.to.length:Int) == 1)=gj:=beq_iff_eq.2 fu;have a:=fQ (show g=gj by rw[o.out];simp[wY,j,d]);clear j d;go_wp2;go_ret;exact⟨by rw[a.out];rfl,fK f.out _⟩
           ·have s:((c.to.length:Int) == 1)=gm:=beq_eq_false_iff_ne.2 fu;have a:=fQ (show g=gm by rw[o.out];simp[wY,j,d]);clear j d;go_wp2;go_ret;exact⟨by rw[a.out];rfl,fK f.out _⟩
          have z1:(c.op == 273)=gm:=(by simp[j]);by_cases k:c.op=274
          ·have z2:(c.op == 274)=gj:=(by simp[k]);by_cases d:c.to.length=1
           ·have s:((c.to.length:Int) == 1)=gj:=beq_iff_eq.2 fu;have a:=fQ (show g=gj by rw[o.out];simp[wY,k,d]);clear j k d;go_wp2;go_ret;exact⟨by rw[a.out];rfl,fK f.out _⟩
           ·have s:((c.to.length:Int) == 1)=gm:=beq_eq_false_iff_ne.2 fu;have a:=fQ (show g=gm by rw[o.out];simp[wY,k,d]);clear j k d;go_wp2;go_ret;exact⟨by rw[a.out];rfl,fK f.out _⟩
          have z2:(c.op == 274)=gm:=(by simp[k]);by_cases l:c.op=275
          ·have z3:(c.op == 275)=gj:=(by simp[l]);by_cases d:1<=c.to.length
           ·have s:decide ((1:Int)<=(c.to.length:Int))=gj:=gD fu;have a:=fQ (show g=gj by rw[o.out];unfold wY;rw[gy fu,gz l];exact gD d);clear j k l d;go_wp2;go_ret;exact⟨by rw[a.out];rfl,fK f.out _⟩
           ·have s:decide ((1:Int)<=(c.to.length:Int))=gm:=gE fu;have a:=fQ (show g=gm by rw[o.out];unfold wY;rw[gy fu,gz l];exact gE d);clear j k l d;go_wp2;go_ret;exact⟨by rw[a.out];rfl,fK f.out _⟩
          have z3:(c.op == 275)=gm:=(by simp[l]);by_cases d:c.to.length=0
          ·have s:((c.to.length:Int) == 0)=gj:=beq_iff_eq.2 fu;have a:=fQ (show g=gj by rw[o.out];unfold wY;rw[gy fu,gy l];exact gD d);clear j k l d;go_wp2;go_ret;exact⟨by rw[a.out];rfl,fK f.out _⟩
          ·have s:((c.to.length:Int) == 0)=gm:=beq_eq_false_iff_ne.2 fu;have a:=fQ (show g=gm by rw[o.out];unfold wY;rw[gy fu,gy l];exact gE d);clear j k l d;go_wp2;go_ret;exact⟨by rw[a.out];rfl,fK f.out _⟩
      ·have v2:((u.length:Int) != (c.O.length:Int))=gj:=fw;have a:=fQ (v.out (fun h=>m2 h.2.1));clear m2;go_wp2;go_ret;exact⟨by rw[a.out];rfl,f.out⟩
     ·have v1:((ii.length:Int) != (c.args.length:Int))=gj:=fw;have a:=fQ (v.out (fun h=>m1 h.1));clear m1;go_wp2;go_ret;exact⟨by rw[a.out];rfl,f.out⟩
   ·have u3:decide ((65:Int)<(c.to.length:Int))=gj:=fw;have a:=fQ (K.out (fun h=>X h.2.2));clear X;go_wp2;go_ret;exact⟨by rw[a.out];rfl,m.out⟩
  ·have u2:decide ((8:Int)<(c.O.length:Int))=gj:=fw;have a:=fQ (K.out (fun h=>k2 h.2.1));clear k2;go_wp2;go_ret;exact⟨by rw[a.out];rfl,m.out⟩
 ·have u1:decide ((8:Int)<(c.args.length:Int))=gj:=fw;have a:=fQ (K.out (fun h=>W h.1));clear W;go_wp2;go_ret;exact⟨by rw[a.out];rfl,m.out⟩
theorem cWe(l:List Bool):(rQ l).length=l.length:=by simp[rQ]
theorem eQx(n:Nat)(f:Nat->Bool):(rQ (vV n f)).length=n:=by rw[cWe,aKw]
theorem cQj{f:Nat->Bool}(h:i<n):(rQ (vV n f))[i]? = gh (fH (f i)):=by
 unfold rQ;rw[AY,aYk h];rfl
def RB(t:TypeId)(w:Bq)(g n:Nat)(f:Nat->Bool):Prop:=gO w g t (rQ (vV n f)).toArray
theorem RB.cell{t:TypeId}{w:Bq}{g n i:Nat}{f:Nat->Bool}(h:RB t w g n f)(hi:i<n):w.cell? ⟨g,i,fU⟩=gh (fH (f i)):=by
 have:=gO.cell h i;rw[this,AV];exact cQj hi
theorem RB.congr{f f':Nat->Bool}(h:RB t w g n f)(he:∀ i,i<n->f i=f' i):RB t w g n f':=by
 unfold RB at h ⊢
 rwa[cJb he]at h
theorem RB.set{f:Nat->Bool}(h:RB t w g n f)(i:Nat)(b:Bool):RB t (w.setCell ⟨g,i,fU⟩ (fH b)) g n (fun j=>if j=i then b else f j):=by
 have:=heap_setCell_same w g i _ t (fH b) h;unfold RB gO;rw[this,<-dZy];simp[rQ,Bj]
theorem RB.a4(w:Bq){N:Nat}(b:Bool)(h:w.heap.size=N):RB t (w.alloc (fP (Az n (fH b)) t)) N n (fun _=>b):=by
 unfold RB;rw[<-dZz];have e:(rQ (List.replicate n b)).toArray=Az n (fH b):=(by simp[rQ]);rw[e];exact gO.X w t _ h
theorem RB.keep{f:Nat->Bool}(h:RB t w g n f)(a:Bz w.heap.size w w'):RB t w' g n f:=gO.C h a h.lt
theorem RB.src{f:Nat->Bool}(h:RB t w g n f):Src w (gh ⟨g,0,fU⟩) n (rQ (vV n f)):=by
 have:=gO.kE h (n:=n) (by simp[eQx])
 simpa using this
theorem cQk{f:Nat->Bool}(h:Src w A n (rQ (vV n f)))(hi:i<n):∃ b o,A=gh ⟨b,o,fU⟩/\b<w.heap.size/\w.cell? ⟨b,o+i,fU⟩=gh (fH (f i)):=by
 obtain⟨b,o,rfl,a⟩:=h.addr fu;have:=h.at_ hi;have e:=(gw (cQj (f:=f) hi)).2;rw[e]at this;exact⟨b,o,rfl,a,this⟩
def TB(w:Bq)(v:Bx)(n P:Nat)(T:Nat->Nat->Bool):Prop:=∃ A c vs,v = fG A n c/\Src w A n vs/\∀ (i:Nat) u,vs[i]? = gh u->∃ B k,u = fG B P k/\Src w B P (rQ (vV P (T i)))
theorem TB.C{w w':Bq}{B n P:Nat}{v:Bx}{T:Nat->Nat->Bool}(h:TB w v n P T)(a:Bz B w w')(b:w.heap.size<=B):TB w' v n P T:=by
 obtain⟨A,c,vs,e,h1,h2⟩:=h;refine⟨A,c,vs,e,h1.C a b,fun i u d=>?_⟩;obtain⟨C,k,e2,f⟩:=h2 i u d;exact⟨C,k,e2,f.C a b⟩
theorem TB.I{T:Nat->Nat->Bool}(h:TB w v n P T):∃ A c,v = fG A n c:=by
 obtain⟨A,c,vs,e,_⟩:=h;exact⟨A,c,e⟩
theorem TB.row{c:Nat}{T:Nat->Nat->Bool}(h:TB w (fG A n c) n P T)(hi:i<n):∃ b o C k,A=gh ⟨b,o,fU⟩/\b<w.heap.size/\w.cell? ⟨b,o+i,fU⟩=gh (fG C P k)/\Src w C P (rQ (vV P (T i))):=by
 obtain⟨A',c',vs,e,h1,h2⟩:=h;injection e with a e2 e3;subst a;obtain⟨b,o,rfl,d⟩:=h1.addr fu;have hc:=h1.at_ hi;have f:i<vs.length:=(by rw[h1.1];exact hi);obtain⟨C,k,e,g⟩:=h2 i _ (Aj f);rw[e]at hc;exact⟨b,o,C,k,rfl,d,hc,g⟩
theorem dJa{l:List Nat}(h:l.Nodup)(hn:∀ x∈l,x≠g):(l.set i g).Nodup:=by
 rw[List.Nodup,List.pairwise_iff_getElem];intro a b ha c d;rw[Af]at ha c;rw[Ad,Ad]
 split
 ·split
  ·omega
  ·intro e;exact hn _ (Ae c) e.symm
 ·split
  ·intro e;exact hn _ (Ae ha) e
  ·exact List.pairwise_iff_getElem.1 h a b ha c d
def jR(gs:List Nat)(P:Nat):List Bx:=gs.map fun g=>fG (gh ⟨g,0,fU⟩) P P
theorem dJb(gs:List Nat)(P:Nat):(jR gs P).length=gs.length:=by simp[jR]
theorem bVo(h:gs[i]? = gh g):(jR gs P)[i]? = gh (fG (gh ⟨g,0,fU⟩) P P):=by simp[jR,h]
structure TM (w:Bq) (base:Nat) (v:Bx) (n P:Nat) (T:Nat->Nat->Bool) (gs:List Nat):Prop where
 own:w.ownsRow base 24 1 v n (jR gs P)
 len:gs.length=n
 nd:gs.Nodup
 rows:∀ (i g:Nat),gs[i]? = gh g->base<=g/\RB 4 w g P (T i)
section
variable {w w':Bq} {base n P:Nat} {v:Bx} {T:Nat->Nat->Bool} {gs:List Nat}
theorem TM.nil(w:Bq)(base P:Nat)(T:Nat->Nat->Bool):TM w base (fG fU 0 0) 0 P T []:=
 ⟨AZ _ _ _ _,rfl,fz,fun i g h=>by simp at h⟩
theorem TM.C(h:TM w base v n P T gs)(a:Bz w.heap.size w w'):TM w' base v n P T gs:=
 ⟨iJ h.own a (Aq _),h.len,h.nd,fun i g hg=>⟨(h.rows i g hg).1,(h.rows i g hg).2.keep a⟩⟩
theorem TM.alloc(h:TM w base v n P T gs)(o:Obj):TM (w.alloc o) base v n P T gs:=h.C ((Ak _ _).alloc (Aq _) _)
theorem TM.drew(h:TM w base v n P T gs):TM w.drew base v n P T gs:=⟨h.own,h.len,h.nd,h.rows⟩
theorem TM.drewN(h:TM w base v n P T gs)(k:Nat):TM (w.drewN k) base v n P T gs:=⟨h.own,h.len,h.nd,h.rows⟩
theorem TM.congr{T':Nat->Nat->Bool}(h:TM w base v n P T gs)(he:∀ i p,i<n->p<P->T i p=T' i p):TM w base v n P T' gs:=
 ⟨h.own,h.len,h.nd,fun i g hg=>⟨(h.rows i g hg).1,(h.rows i g hg).2.congr fun p hp=>he i p (by rw[<-h.len];exact(gw hg).1) hp⟩⟩
theorem TM.I(h:TM w base v n P T gs):∃ A c,v = fG A n c:=by
 obtain⟨A,c,e,_⟩:=fJ h.own;exact⟨A,c,e⟩
theorem TM.tb(h:TM w base v n P T gs):TB w v n P T:=by
 obtain⟨A,c,e,_⟩:=fJ h.own;subst e;refine⟨A,c,jR gs P,rfl,Src.mf h.own,fun i u a=>?_⟩;have hi:i<gs.length:=(by rw[<-dJb gs P];exact(gw a).1);have hg:=Aj hi;rw[bVo hg]at a;injection a with a;subst a;exact⟨_,_,rfl,(h.rows i _ hg).2.src⟩
theorem TM.at_(h:TM w base v n P T gs)(hn:0<n):∃ a c,v = fG (gh ⟨a,0,fU⟩) n c/\base<=a/\a<w.heap.size/\(∀ i,w.frozen? ⟨a,i,fU⟩=gm)/\(∀ i g,gs[i]? = gh g->w.cell? ⟨a,i,fU⟩=gh (fG (gh ⟨g,0,fU⟩) P P))/\(∀ g∈gs,g≠a):=by
 obtain⟨a,c,rfl,h1,h2,_⟩:=lZ h.own fu;obtain⟨cur,b⟩:=oD h.own (g:=a) rfl;refine⟨a,c,rfl,h2,h1,fun i=>ik b i,fun i g hg=>?_,fun g hg e=>?_⟩
 ·have hi:i<n:=(by rw[<-h.len];exact(gw hg).1);have:=h.own.cellAt i fu;rw[bVo hg]at this;exact this
 ·subst e;obtain⟨i,hi⟩:=List.mem_iff_getElem?.1 hg;exact pK b (show gO w g 4 _ from(h.rows i g hi).2) fy rfl
theorem TM.push{v':Bx}{f:Nat->Bool}(h:TM w base v n P T gs)(hg:RB 4 w g P f)(d:base<=g)(hn:∀ x∈gs,x≠g)(k:w'.ownsRow base 24 1 v' (n+1) (jR gs P ++ [fG (gh ⟨g,0,fU⟩) P P]))(l:w.grownBy w' v.ownBlock):
  TM w' base v' (n+1) P (upd T n f) (gs ++ [g]):=by
 have key:∀ g f,RB 4 w g P f->RB 4 w' g P f:=fun g f j=>gO.grown j l (iZ h.own j fy);refine⟨by rw[show jR (gs ++ [g]) P=jR gs P ++ [fG (gh ⟨g,0,fU⟩) P P] by simp[jR]];exact k,by simp[h.len],?_,fun i x c=>?_⟩
 ·rw[List.nodup_append];exact⟨h.nd,fz,fun a ha b d e=>by simp at d;subst d;exact hn a ha e⟩
 ·by_cases hi:i<gs.length
  ·rw[AX hi]at c;have:=h.rows i x c;rw[tY (by have:=h.len;omega)];exact⟨this.1,key _ _ this.2⟩
  ·rw[AQ fu]at c
   have m:i - gs.length=0:=by
    have:=(gw c).1;simp at this;omega
   rw[m]at c;simp at c;subst c;have:i=n:=(by have:=h.len;omega);subst this;rw[vX];exact⟨d,key _ _ hg⟩
theorem TM.put{c i:Nat}{f:Nat->Bool}(h:TM w base (fG (gh ⟨a,0,fU⟩) n c) n P T gs)(hg:RB 4 w g P f)(l:base<=g)(hn:∀ x∈gs,x≠g):
  TM (w.setCell ⟨a,i,fU⟩ (fG (gh ⟨g,0,fU⟩) P P)) base (fG (gh ⟨a,0,fU⟩) n c) n P (upd T i f) (gs.set i g):=by
 obtain⟨cur,d⟩:=oD h.own (g:=a) rfl;have k:∀ x g f,RB 4 w g P f->RB 4 (w.setCell ⟨a,i,fU⟩ x) g P f:=fun x g f b=>tW b (pK b d fy);refine⟨?_,by rw[Af];exact h.len,?_,fun j x m=>?_⟩
 ·have:=(h.own.stored i (fG (gh ⟨g,0,fU⟩) P P)).1;have e:(jR gs P).set i (fG (gh ⟨g,0,fU⟩) P P)=jR (gs.set i g) P:=(by simp[jR,Bj]);rw[e]at this;exact this
 ·exact dJa h.nd hn
 ·rcases eKy m with⟨e,e2,_⟩|⟨e,e2⟩
  ·subst e;subst e2;rw[vX];exact⟨l,k _ _ _ hg⟩
  ·rw[tY (fun o=>e o.symm)];have:=h.rows j x e2;exact⟨this.1,k _ _ _ this.2⟩
theorem TM.setAt{b:Bool}(h:TM w base v n P T gs)(hg:gs[i]? = gh g):TM (w.setCell ⟨g,p,fU⟩ (fH b)) base v n P (upd T i (fun q=>if q=p then b else T i q)) gs:=by
 have c:=h.rows i g hg;refine⟨iW h.own (iZ h.own c.2 fy),h.len,h.nd,fun j x a=>?_⟩;by_cases e:j=i
 ·subst e;rw[hg]at a;injection a with a;subst a;rw[vX];exact⟨c.1,c.2.set p b⟩
 ·rw[tY e];have:=h.rows j x a;refine⟨this.1,tW this.2 (fun e2=>e ?_)⟩;subst e2;exact bYu h.nd a hg
end
theorem eVb{T:Nat->Nat->Bool}(h:l[k]? = gh x):bh (l.take (k+1)) T p=(bh (l.take k) T p || T x.toNat p):=by
 obtain⟨a,e⟩:=gw h;rw[Ay a,e];unfold bh;rw[AK];simp
theorem cZx{o c:Nat}{f:Nat->Bool}(h:IR w (fG (gh ⟨b,o,fU⟩) n c) l)(a:l[k]? = gh x)(hg:RB t w g P f):b≠g:=by
 intro e;subst e;obtain⟨b',o',e,_,hc⟩:=h.cell a;injection e with e;injection e with d e2;subst d;subst e2;rw[gO.cell hg]at hc;rw[AV]at hc;unfold rQ at hc;rw[AY,Option.map_eq_some_iff]at hc;obtain⟨_,_,h2⟩:=hc;cases h2
theorem IR.fYt{o c:Nat}{u:Bx}(h:IR w (fG (gh ⟨b,o,fU⟩) n c) l)(d:b≠g):IR (w.setCell ⟨g,i,fU⟩ u) (fG (gh ⟨b,o,fU⟩) n c) l:=
 h.setCell u (fun A n' c' e a ha=>by
  injection e with f e2 e3;subst f;injection ha with ha;subst ha
  exact d)
def lst(f:Nat->Bool)(k:Nat):List Int:=((Ah k).filter f).map fun i:Nat=>(i:Int)
theorem cKb(f:Nat->Bool)(k:Nat):(lst f k).length<=k:=by
 unfold lst;rw[List.length_map];have:=List.length_filter_le f (Ah k)
 simpa using this
theorem eQc(f:Nat->Bool)(k:Nat):lst f (k+1)=if f k then lst f k ++ [(k:Int)]else lst f k:=by
 unfold lst;rw[Ag,List.filter_append];cases h:f k <;> simp[h]
theorem eVc(f:Nat->Bool)(P:Nat):jj (lst f P) (fun x=>∃ i:Nat,x=i/\i<P/\f i=gj):=by
 refine⟨?_,fun x=>?_⟩
 ·unfold lst;rw[List.pairwise_map];exact(List.pairwise_lt_range.filter _).imp (fun h=>fu)
 ·unfold lst;simp only[List.mem_map,List.mem_filter,List.mem_range];constructor
  ·rintro⟨i,⟨h1,h2⟩,rfl⟩;exact⟨i,rfl,h1,h2⟩
  ·rintro⟨i,rfl,h1,h2⟩;exact⟨i,⟨h1,h2⟩,rfl⟩
theorem jj.imp{Q R:Int->Prop}(h:jj l Q)(hq:∀ x,Q x↔R x):jj l R:=⟨h.1,fun x=>(h.2 x).trans (hq x)⟩
def fQt(P:Nat)(f:Nat->Bool)(w:Bq)(a:Ending)(w':Bq):Prop:=∃ g,a = fR (fG (gh ⟨g,0,fU⟩) P P)/\w.heap.size<=g/\RB 4 w' g P f/\Bz w.heap.size w w'
theorem bJd(r:gR)(vr v:Bx)(i n P:Nat)(c:gP)(T:Nat->Nat->Bool)(w:Bq)(hr:jn w vr r)(V:TB w v n P T)(hi:r.K[i]? = gh c)(hn:r.K.length=n)(W:r.M=P)(aE:P<=4096)(hf:jG r):
  Bk fZ 132 #[vr,v,fF fN (i:Int)] w (fQt P (bh (ib c i) T) w):=by
 obtain⟨d,f,vs,s,rfl,h4,h5,h6,h7⟩:=hr;obtain⟨A,cA,rfl⟩:=V.I;have HR:=fQ (show jn w (fM #[d,f,fF fN (P:Int),vs,s]) r from⟨d,f,vs,s,by rw[W],h4,h5,h6,h7⟩);rw[W];have HT:=fQ V;have M:=fQ hi;have HN:=fQ hn;have X:=fQ hf;have K0:=fQ (gO.a4 w 89 #[d,f,fF fN (P:Int),vs,s]);have mk:=nL (P:=fZ) 24 4 (fH gm) 1 underlying24 s9 rfl P fu fu;clear h4 h5 h6 h7 V hi hn hf W;go_in;go_wp2_with fail;have Y:=fQ (show Bz w.heap.size w ((w.alloc (fP #[d,f,fF fN (P:Int),vs,s] 89)).alloc (fP (Az P (fH gm)) 4))from j8 _ _ _);have G1:=fQ (RB.a4 (t:=4) (w.alloc (fP #[d,f,fF fN (P:Int),vs,s] 89)) (N:=w.heap.size+1) (n:=P) gm fz);have K1:=fQ (K0.alloc (fP (Az P (fH gm)) 4));clear mk;refine(bVk r _ i c _ (HR.C Y.out (Aq _)) M.out (X.to i c M.out).2.1).mono ?_;rintro en w1 ⟨vl,rfl,I,y⟩;obtain⟨B,cB,rfl⟩:=I.I;obtain⟨l,J⟩:=fX (ib c i);have ay:=fQ (show ∀ x∈l,0<=x/\x<(n:Int)from fun x K=>by rw[<-HN.out];exact(X.to i c M.out).1 x (by rw[J];exact K));rw[J]at I ⊢;obtain⟨m,O⟩:=fX l.length;rw[O]at I ⊢;have az:m<=66:=(by rw[<-O,<-J];exact(X.to i c M.out).2.2);have aA:=fQ J;have HM:=fQ O;have HL:=fQ I;have HB:=fQ (Y.trans (y.mono Y.out.size));have G2:=fQ (G1.keep y);have K2:=fQ (K1.C y K1.lt);clear I y J O;go_wp2_with fail;go_loopw [9] (fun j wr=>∃ k:Nat,k<=m/\j = fF fN k/\Hid (RB 4 wr (w.heap.size+1) P (bh (l.take k) T))/\Hid (IR wr (fG B m cB) l)/\Hid (gO wr w.heap.size 89 #[d,f,fF fN (P:Int),vs,s])/\Hid (Bz w.heap.size w wr)) (fun j _=>m - (intOf j).toNat)
 case atStart=>exact⟨0,fu,rfl,fQ (G2.congr fun p _=>by simp[bh]),HL,K2,HB⟩
 case round=>as_aux_lemma=>
  obtain⟨k,hk,rfl,a,D,E,F⟩:=hrel;by_cases aB:k<m
  ·have t2:(k:Int)<m:=fu;obtain⟨x,K⟩:∃ x,l[k]? = gh x:=⟨_,Aj (by rw[HM.out];exact aB)⟩;have aq:=ay.out x (Ax K);obtain⟨z,rfl⟩:∃ z:Nat,x=z:=⟨x.toNat,fu⟩;have aG:(z:Int)<n:=aq.2;have aj:z<n:=fu;have Z:=fQ K;clear K aq;go_wp2_with fail;go_loopw [10] (fun j wr=>∃ p:Nat,p<=P/\j = fF fN p/\Hid (RB 4 wr (w.heap.size+1) P (fun q=>bh (l.take (if q<p then k+1 else k)) T q))/\Hid (IR wr (fG B m cB) l)/\Hid (gO wr w.heap.size 89 #[d,f,fF fN (P:Int),vs,s])/\Hid (Bz w.heap.size w wr)) (fun j _=>P - (intOf j).toNat)
   case atStart=>exact⟨0,fu,rfl,fQ (a.out.congr fun p _=>by rw[gy fu]),D,E,F⟩
   case round=>as_aux_lemma=>
    clear a D E F;obtain⟨p,hp,rfl,a,D,E,F⟩:=hrel;have r2:=E.out.cell 2;simp at r2;by_cases ar:p<P
    ·have t3:decide ((p:Int)<P)=gj:=fw;have t4:(p:Int)<P:=fu;obtain⟨b,o,rfl,y,hc⟩:=D.out.cell Z.out;have au:=cZx D.out Z.out a.out;obtain⟨b2,o2,C,kC,rfl,aH,aI,aw⟩:=(HT.C F.out (Aq _)).row aj;obtain⟨b3,o3,rfl,aJ,aC⟩:=cQk aw ar;have ak:=a.out.cell ar;rw[gy (Nat.lt_irrefl p)]at ak;have aK:=gO.lt a.out;have aL:=ik a.out p;have H:=fQ (eVb (T:=T) (p:=p) Z.out);rw[Int.toNat_natCast]at H;have aD:=fQ au;clear aw au
     have Q:=fun(b:Bool) (y:b=bh (l.take (k+1)) T p)=>fQ ((a.out.set p b).congr (f':=fun q=>bh (l.take (if q<p+1 then k+1 else k)) T q) (fun q _=>by
      by_cases e:q=p
      ·subst e;simp[y]
      ·rw[gy e];by_cases h:q<p
       ·rw[gz h,gz fu]
       ·rw[gy h,gy fu]))
     have R:=fun(L:Bool)=>fQ (IR.fYt (g:=w.heap.size+1) (i:=p) (u:=fH L) D.out aD.out);have S:=fun(L:Bool)=>fQ (tW (k:=p) (u:=fH L) E.out (show w.heap.size≠w.heap.size+1 by omega));have U:=fun(L:Bool)=>fQ (F.out.setCell (p:=⟨w.heap.size+1,p,fU⟩) fz (fH L))
     cases hv:bh (l.take k) T p with
     | true=>
      rw[hv]at ak H;have G:=Q gj (by rw[H.out];rfl);have al:=R gj;have an:=S gj;have ao:=U gj;clear Q R S U hv;go_wp2;exact⟨⟨p+1,fu,fz,G,al,an,ao⟩,fB⟩
     | false=>
      rw[hv]at ak H;obtain⟨tb,ax⟩:=fX (T z p);rw[ax]at aC H;have G:=Q tb (by rw[H.out];simp);have al:=R tb;have an:=S tb;have ao:=U tb;clear Q R S U hv ax;go_wp2;exact⟨⟨p+1,fu,fz,G,al,an,ao⟩,fB⟩
    ·have G:=fQ (a.out.congr (f':=bh (l.take (k+1)) T) fun q hq=>by rw[gz fu]);clear a;go_wp2;exact⟨⟨k+1,fu,fz,G,D,E,F⟩,fB⟩
  ·have G:=fQ (a.out.congr (f':=bh l T) fun q hq=>by rw[Aw (by rw[HM.out];omega)]);clear a;go_wp2;go_ret;exact⟨_,rfl,fu,by rw[aA.out];exact G.out,F.out⟩
def eVd(P:Nat)(f:Nat->Bool)(w:Bq)(a:Ending)(w':Bq):Prop:=∃ v p,a = fR v/\w'.ownsRow w.heap.size 3 1 v p.length (ix p)/\p.length<=P/\jj p (fun x=>∃ i:Nat,x=i/\i<P/\f i=gj)/\Bz w.heap.size w w'
theorem aWh(A:Option Addr)(P c:Nat)(f:Nat->Bool)(w:Bq)(hs:Src w A P (rQ (vV P f)))(ah:P<=4096):Bk fZ 98 #[fG A P c] w (eVd P f w):=by
 have r:=fQ hs;clear hs;go_in;go_wp2;go_loopw [3,4] (fun v j wr=>∃ k q:Nat,k<=P/\j = fF fN k/\Hid ((lst f k).length=q)/\Hid (wr.ownsRow w.heap.size 3 1 v q (ix (lst f k)))/\Hid (Bz w.heap.size w wr)) (fun _ j _=>P - (intOf j).toNat)
 case atStart=>exact⟨0,0,fu,rfl,fQ (by simp[lst]),fQ (AZ _ _ _ _),fQ (Ak _ _)⟩
 case round=>
  obtain⟨k,q,hk,rfl,d,iO,g⟩:=hrel;obtain⟨l,m,hv,_⟩:=fJ iO.out;subst hv;have ai:q<=k:=(by have:=cKb f k;have:=d.out;omega);have s:=g.out.size;by_cases t:k<P
  ·have t2:(k:Int)<P:=fu;obtain⟨b,o,rfl,x,hc⟩:=cQk r.out t;have n:=(g.out.cell (p:=⟨b,o+k,fU⟩) x).trans hc;have aj:b<wr.heap.size:=fu;have a:=fQ (eQc f k);clear hc
   cases hf:f k with
   | true=>
    rw[hf]at n a;rw[gz rfl]at a;clear hf;go_wp2_with (at_builtin;refine qv _ rfl (.tmp 15) (.tmp 17) 23 rfl w.heap.size 3 (fF fN 0) 8 underlying23 qB rfl (.slice l q m) q (ix (lst f k)) rfl (lJ iO.out _) (gh ⟨wr.heap.size,0,fU⟩) 1 1 [fF fN (k:Int)] rfl (eKv _ _ _) (cJu _ _) (by unfold maxLen;omega) fu fw ?_);rintro v' w' h1 h2
    have h:=fQ (show w'.ownsRow w.heap.size 3 1 v' (q+1) (ix (lst f (k+1))) by
     rw[a.out];have e:ix (lst f k ++ [(k:Int)])=ix (lst f k) ++ [fF fN (k:Int)]:=(by simp[ix]);rw[e]
     exact h1)
    have i:=fQ (show(lst f (k+1)).length=q+1 by rw[a.out];simp[d.out]);have y:=fQ ((g.out.alloc s (fP #[fF fN (k:Int)] 3)).trans h2);clear h1 h2;go_wp2;exact⟨⟨k+1,q+1,fu,fz,i,h,y⟩,fB⟩
   | false=>
    rw[hf]at n a;rw[gy fz]at a;clear hf;have h:=fQ (show wr.ownsRow w.heap.size 3 1 (fG l q m) q (ix (lst f (k+1))) by rw[a.out];exact iO.out);have i:=fQ (show(lst f (k+1)).length=q by rw[a.out];exact d.out);clear iO d;go_wp2;exact⟨⟨k+1,q,fu,fz,i,h,g⟩,fB⟩
  ·have u:decide ((k:Int)<P)=gm:=fw;have z:k=P:=fu;subst z;go_wp2;go_ret;exact⟨_,lst f k,rfl,by rw[d.out];exact iO.out,cKb f k,eVc f k,g.out⟩
theorem eVe(v:Bx)(l:List Int)(x:Int)(w:Bq)(hs:IR w v l)(p:l.length<=9223372036854775806):
  Bk fZ 99 #[v,fF fN x] w fun e w'=>e = fR (fH (decide (x∈l)))/\w=w':=by
 obtain⟨A,c,rfl⟩:=hs.I;have g:=fQ hs;obtain⟨n,hn⟩:=fX l.length;obtain⟨F,hF⟩:∃ F:Bool,decide (x∈l)=F:=⟨_,rfl⟩;rw[hn]at g p ⊢;rw[hF];have j:=fQ hn;have m:=fQ hF;clear hs hn hF;go_in;go_wp2;go_loop [5] (fun i=>∃ k:Nat,k<=n/\i = fF fN k/\Hid (x ∉ l.take k)) (fun i=>n - (intOf i).toNat)
 case atStart=>exact⟨0,fu,rfl,fQ fz⟩
 case round=>
  obtain⟨k,hk,rfl,d⟩:=hrel;by_cases q:k<n
  ·have t2:(k:Int)<n:=fu;obtain⟨y,f⟩:∃ y,l[k]? = gh y:=⟨_,Aj (by rw[j.out];exact q)⟩;obtain⟨ab,ao,rfl,ae,af⟩:=g.cell f;have o:=fQ f;clear f;by_cases a:y=x
   ·have s:(y == x)=gj:=(by simp[a]);have b:=fQ (show F=gj by rw[<-m.out,decide_eq_true_eq,<-a];exact Ax o.out);clear a;go_wp2;go_ret;exact⟨by rw[b.out];rfl,rfl⟩
   ·have s:(y == x)=gm:=by simp[a]
    have b:=fQ (show x ∉ l.take (k+1) by
     rw[sQ o.out];rintro(h|h)
     ·exact d.out h
     ·exact a h.symm)
    clear a d;go_wp2;go_round
    case rel=>exact⟨k+1,fu,fz,b⟩
    case measure=>simp[intOf];omega
  ·have r:decide ((k:Int)<n)=gm:=by simp;omega
   have b:=fQ (show F=gm by
    rw[<-m.out,decide_eq_false_iff_not];have:=d.out
    rwa[Aw (by rw[j.out];omega)]at this)
   go_wp2;go_ret;exact⟨by rw[b.out];rfl,rfl⟩
section
open Go.Shelf
attribute [local go_sem] Oper.semAt_some
end
section
open Go.Shelf
attribute [local go_sem] Oper.semAt_some
end
section
open Go.Shelf
attribute [local go_sem] Oper.semAt_some
theorem cYl{e:ia}{r:gR}{c:gP}(hc:iq e r)(a:codeOk e r c=gj):c.args.length<=100/\c.O.length<=100:=by
 unfold codeOk at a
 cases hf:iV e r.a2 c.op c.n with
 | none=>rw[hf]at a;cases a
 | some b=>
  obtain⟨i1,o1⟩:=b;rw[hf]at a;simp only[Bool.and_eq_true,decide_eq_true_eq]at a;have:=qG hc.J hc.a2 hf;omega
end
section
open Go.Shelf
attribute [local go_sem] Oper.semAt_some
end
theorem cVq{g:Nat->Bool}(h:l[k]? = gh x):uQ g (l.take (k+1))=(uQ g (l.take k) || !g x.toNat):=by
 obtain⟨a,e⟩:=gw h;rw[Ay a,e];unfold uQ;rw[AK];simp
def oh(w:Bq)(n:Nat)(rv:Array Bx)(g:Nat->Bool)(wi:Bq):Prop:=RB 4 wi (w.heap.size+1) n g/\gO wi w.heap.size 89 rv/\Bz w.heap.size w wi
theorem oh.keep{w:Bq}{n:Nat}{rv:Array Bx}{g:Nat->Bool}{wi b:Bq}(h:oh w n rv g wi)(a:Bz wi.heap.size wi b):oh w n rv g b:=
 ⟨h.1.keep a,h.2.1.C a h.2.1.lt,h.2.2.trans (a.mono h.2.2.size)⟩
theorem oh.set{w:Bq}{n:Nat}{rv:Array Bx}{g:Nat->Bool}{wi:Bq}(h:oh w n rv g wi)(i:Nat):oh w n rv (fun j=>if j=i then gj else g j) (wi.setCell ⟨w.heap.size+1,i,fU⟩ (fH gj)):=
 ⟨h.1.set i gj,tW h.2.1 fu,h.2.2.setCell (p:=⟨w.heap.size+1,i,fU⟩) fz _⟩
def oU(r:gR)(w:Bq)(n:Nat)(rv:Array Bx)(M k:Nat)(b:Bool)(g:Nat->Bool)(wi:Bq):Prop:=
 oh w n rv g wi/\GInv r g/\oE n g<=M/\(b=gj->oE n g<M)/\(b=gm->∀ j,k<=j->j<n->g j=gm->uQ g (edges r j)=gj)
theorem oU.stay{r:gR}{M:Nat}{rv:Array Bx}{b:Bool}{g:Nat->Bool}{wi a:Bq}(h:oU r w n rv M (k+1) b g wi)(c:Bz wi.heap.size wi a)(hs:g k=gm->uQ g (edges r k)=gj):oU r w n rv M k b g a:=
 ⟨h.1.keep c,h.2.1,h.2.2.1,h.2.2.2.1,fun d j hj hn hg=>by
  by_cases e:j=k
  ·subst e;exact hs hg
  ·exact h.2.2.2.2 d j fu hn hg⟩
theorem oU.gone{r:gR}{w:Bq}{n M k:Nat}{rv:Array Bx}{b:Bool}{g:Nat->Bool}{wi a:Bq}(h:oU r w n rv M (k+1) b g wi)(c:Bz wi.heap.size wi a)(hf:jG r)(hn:k<n)(hg:g k=gm)(hs:uQ g (edges r k)=gm):
  oU r w n rv M k gj (fun j=>if j=k then gj else g j) (a.setCell ⟨w.heap.size+1,k,fU⟩ (fH gj)):=by
 have hc:=eQu (g:=g) hn hg;exact⟨(h.1.keep c).set k,h.2.1.gone hf hs,by have:=h.2.2.1;omega,fun _=>by have:=h.2.2.1;omega,fun e=>by cases e⟩
theorem cZy(r:gR)(vr:Bx)(w:Bq)(hr:jn w vr r)(hf:jG r):Bk fZ 83 #[vr] w (dZw r w):=by
 obtain⟨s,u,vs,vd,rfl,h4,h5,h6,H⟩:=hr;obtain⟨A,C,rfl,_⟩:=H.len;obtain⟨_,l7,aC⟩:=H.kj;have H7:=fQ H;have E:=fQ hf;have ar:=hf.n2;have au:=hf.n1;have HR:=fQ (show jn w (fM #[s,u,fF fN r.M,vs,fG A r.K.length C]) r from⟨s,u,vs,_,rfl,h4,h5,h6,H⟩);obtain⟨n,hn⟩:=fX r.K.length;rw[hn]at HR ar au ⊢;have Q:=fQ hn;have aD:=fQ (show Bz w.heap.size w (w.alloc (fP #[s,u,fF fN r.M,vs,fG A n C] 89))from(Ak _ _).alloc (Aq _) _);have K0:=fQ (gO.a4 w 89 #[s,u,fF fN r.M,vs,fG A n C]);have mk:=nL (P:=fZ) 24 4 (fH gm) 1 underlying24 s9 rfl n fu fu;clear h4 h5 h6 H hf hn;go_in;go_wp2
 have al:=fQ (show oh w n #[s,u,fF fN r.M,vs,fG A n C] (fun _=>gm) ((w.alloc (fP #[s,u,fF fN r.M,vs,fG A n C] 89)).alloc (fP (Az n (fH gm)) 4))from
  ⟨RB.a4 (t:=4) _ (N:=w.heap.size+1) (n:=n) gm fz,K0.alloc _,j8 _ _ _⟩)
 clear mk;go_loopg [4] (oE n (fun _=>gm)*2+1) (fun gk v wi=>∃ (b:Bool) (g:Nat->Bool),v = fH b/\Hid (oh w n #[s,u,fF fN r.M,vs,fG A n C] g wi)/\Hid (GInv r g)/\Hid (b=gm->∀ j,j<n->g j=gm->uQ g (edges r j)=gj)/\Hid (oE n g*2+(if b then 1 else 0)=gk))
 case atStart=>exact⟨gj,_,rfl,al,fQ (GInv.start r),fQ (fun e=>by cases e),fQ rfl⟩
 case round=>
  clear al;obtain⟨b,g,rfl,IM,T,a,IK⟩:=hrel
  cases b with
  | false=>
   have f:=fun i (hi:i<n)=>IM.out.1.cell hi;have U:=fQ f;have V:=fQ (T.out.done E.out (by rw[Q.out];exact a.out rfl));rw[Q.out]at V;clear f;go_wp2;go_loop [9] (fun i=>∃ k:Nat,k<=n/\i = fF fN k/\Hid (∀ j,j<k->g j=gj)) (fun i=>n - (intOf i).toNat)
   case atStart=>exact⟨0,fu,rfl,fQ (fun j h=>fu)⟩
   case round=>
    obtain⟨k,hk,rfl,W⟩:=hrel;by_cases D:k<n
    ·have t2:(k:Int)<n:=fu;have f:=U.out _ D
     cases hg:g k with
     | false=>
      rw[hg]at f;have HG:=fQ hg;clear hg;go_wp2;go_ret;exact⟨gj,rfl,⟨fun _=>V.1 ⟨k,D,HG.out⟩,fun _=>rfl⟩,IM.out.2.2⟩
     | true=>
      rw[hg]at f
      have HA:=fQ (show ∀ j,j<k+1->g j=gj from fun j hj=>by
       by_cases e:j=k
       ·rw[e,hg]
       ·exact W.out j fu)
      clear hg W;go_wp2;go_round
      case rel=>exact⟨k+1,fu,fz,HA⟩
      case measure=>simp[intOf];omega
    ·go_wp2;go_ret
     exact⟨gm,rfl,⟨fun e=>(by cases e),fun h=>by
      obtain⟨i,hi,hg⟩:=V.2 h;rw[W.out i fu]at hg
      cases hg⟩,IM.out.2.2⟩
  | true=>
   obtain⟨M,X⟩:=fX (oE n g);have HK:=fQ (show M*2+1=gk by have:=IK.out;rw[X]at this;simpa using this);have an:=fQ (show oU r w n #[s,u,fF fN r.M,vs,fG A n C] M n gm g wr from⟨IM.out,T.out,Aa X,(fun e=>by cases e),fun _ j h1 h2=>fu⟩);obtain⟨Y,Z,r2,r3,r4⟩:=gZ IM.out.2.1;have y1:=IM.out.2.1.lt;have z1:IntKind.i64.wrap ((n:Int) - 1)=(n:Int) - 1:=AJ _ fu;clear X IM T a IK Y Z r2 r3;go_wp2_with fail;clear r4 y1;go_loopw [4,5] (fun tv iv wi=>∃ (k:Nat) (x:Int) (b:Bool) (g:Nat->Bool),k<=n/\Hid (x=(k:Int) - 1)/\iv = fF fN x/\tv = fH b/\Hid (oU r w n #[s,u,fF fN r.M,vs,fG A n C] M k b g wi)) (fun _ iv _=>(intOf iv+1).toNat)
   case atStart=>exact⟨n,_,gm,g,fu,fQ rfl,rfl,rfl,an⟩
   case round=>
    clear an;obtain⟨k,x,b,g,hk,R,rfl,rfl,a⟩:=hrel;rcases AW k with rfl|ah
    ·have o:x = -1:=(by have:=R.out;omega);subst o;clear R;go_wp2;go_roundg (oE n g*2+(if b then 1 else 0))
     case measure=>
      rw[<-HK.out];have h1:=a.out.2.2.1;have h2:=a.out.2.2.2.1
      cases b with
      | true=>have:=h2 rfl;simp;omega
      | false=>simp;omega
     case rel=>exact⟨b,g,rfl,fQ a.out.1,fQ a.out.2.1,fQ (fun e j hj=>a.out.2.2.2.2 e j fu hj),fQ rfl⟩
    ·obtain⟨d,rfl⟩:∃ d,k=d+1:=⟨k - 1,fu⟩;have o:x=(d:Int):=(by have:=R.out;omega);subst o;have D:d<n:=fu;have aw:(d:Int)<n:=fu;have z2:IntKind.i64.wrap ((d:Int) - 1)=(d:Int) - 1:=AJ _ fu;obtain⟨c,hc⟩:∃ c,r.K[d]? = gh c:=⟨_,Aj (by rw[Q.out];exact D)⟩;obtain⟨gb,go,p,q,tt,rfl,ax,g0,_⟩:=H7.K hc;replace g0:=(a.out.1.2.2.cell (p:=⟨gb,_,fU⟩) ax).trans g0;obtain⟨Y,Z,r2,r3,r4⟩:=gZ a.out.1.2.1;have y1:=a.out.1.2.1.lt;have y2:gb<wr.heap.size:=(by have:=a.out.1.2.2.size;omega);have f:=a.out.1.1.cell D;have y4:=a.out.1.1.lt;have z4:=ik a.out.1.1 d;have F:=fQ hc;clear hc R ah;by_cases G:c.op=258
     ·have t2:(c.op != 258)=gm:=(by simp[G]);have I:=fQ (bZz F.out G);clear G
      cases hg:g d with
      | true=>
       rw[hg]at f;have y:=fQ (a.out.stay (Ak _ _) (fun e=>by rw[hg]at e;cases e));clear a hg;go_wp2;exact⟨⟨d,_,b,g,fu,fQ rfl,rfl,rfl,y⟩,fE⟩
      | false=>
       rw[hg]at f;have y:=fQ (a.out.gone (Ak _ _) E.out D hg (by rw[I.out];rfl));clear a hg;go_wp2;exact⟨⟨d,_,gj,_,fu,fQ rfl,rfl,rfl,y⟩,fE⟩
     ·have t2:(c.op != 258)=gj:=(by simp[G]);have I:=fQ (bZc F.out G);have ay:=fQ a.out.1.2.2;clear G;go_wp2_with fail;refine(bVk r _ d c _ (HR.C ay.out (Aq _)) F.out (E.to d c F.out).2.1).mono ?_;rintro en w1 ⟨vl,rfl,J,hb⟩;obtain⟨B,cB,rfl⟩:=J.I;obtain⟨l,K⟩:=fX (ib c d);rw[K]at I;have az:=fQ (show ∀ x∈l,0<=x/\x<(n:Int)from fun x o=>by rw[<-Q.out];exact(E.to d c F.out).1 x (by rw[K];exact o));rw[K]at J ⊢;obtain⟨m,S⟩:=fX l.length;rw[S]at J ⊢;have aA:m<=66:=(by rw[<-S,<-K];exact(E.to d c F.out).2.2);have HM:=fQ S;have HL:=fQ J;have ai:=fQ hb;have L:=a.out.1.keep hb;have U:=fQ (fun i (hi:i<n)=>L.1.cell hi);have f:=L.1.cell D;have y4:=L.1.lt;have z4:=ik L.1 d;clear J hb K S L Y Z r2 r3 r4 y1 y2 g0;go_wp2_with fail;go_loop [6,8] (fun sv j=>∃ q:Nat,q<=m/\j = fF fN q/\sv = fH (uQ g (l.take q))) (fun _ j=>m - (intOf j).toNat)
      case atStart=>exact⟨0,fu,rfl,by simp[uQ]⟩
      case round=>
       obtain⟨q,hq,rfl,rfl⟩:=hrel;by_cases aB:q<m
       ·have t4:(q:Int)<m:=fu;obtain⟨x,o⟩:∃ x,l[q]? = gh x:=⟨_,Aj (by rw[HM.out];exact aB)⟩;have aq:=az.out x (Ax o);obtain⟨z,rfl⟩:∃ z:Nat,x=z:=⟨x.toNat,fu⟩;have aE:(z:Int)<n:=aq.2;have aj:z<n:=fu;have O:=fQ (cVq (g:=g) o);rw[Int.toNat_natCast]at O;obtain⟨ab,ao,rfl,aF,aG⟩:=HL.cell o;have c5:=U.out _ aj;clear o aq
        cases hs:uQ g (l.take q)with
        | true=>
         have HT:=fQ (show uQ g (l.take (q+1))=gj by rw[O.out,hs];rfl);clear hs O;go_wp2;go_round
         case rel=>exact⟨q+1,fu,fz,by rw[HT.out]⟩
         case measure=>simp[intOf];omega
        | false=>
         obtain⟨tb,ak⟩:=fX (g z);rw[ak]at c5;have HT:=fQ (show uQ g (l.take (q+1)) = !tb by rw[O.out,hs,ak];rfl);clear hs O ak;go_wp2;go_round
         case rel=>exact⟨q+1,fu,fz,by rw[HT.out]⟩
         case measure=>simp[intOf];omega
       ·have t3:decide ((q:Int)<m)=gm:=fw;have et:l.take q=l:=Aw (by rw[HM.out];omega);rw[et];clear et
        cases hs:uQ g l with
        | true=>
         have y:=fQ (a.out.stay ai.out (fun _=>by rw[I.out];exact hs));clear a hs;go_wp2;exact⟨⟨d,_,b,g,fu,fQ rfl,rfl,rfl,y⟩,fE⟩
        | false=>
         cases hg:g d with
         | true=>
          rw[hg]at f;have y:=fQ (a.out.stay ai.out (fun e=>by rw[hg]at e;cases e));clear a hg hs;go_wp2;exact⟨⟨d,_,b,g,fu,fQ rfl,rfl,rfl,y⟩,fE⟩
         | false=>
          rw[hg]at f;have y:=fQ (a.out.gone ai.out E.out D hg (by rw[I.out];exact hs));clear a hg hs;go_wp2;exact⟨⟨d,_,gj,_,fu,fQ rfl,rfl,rfl,y⟩,fE⟩
theorem aJp(e:ia)(r:gR)(ve vr:Bx)(w:Bq)(he:iG w ve e)(hr:jn w vr r):Bk fZ 50 #[ve,vr] w (iE e r w):=by
 have HE:=fQ he;have HR:=fQ hr;obtain⟨va,vb,O,rfl,h1,h2,h3⟩:=he;obtain⟨vp,vq,vr,vs,rfl,h4,h5,P,R⟩:=hr;have H4:=fQ h4;have H5:=fQ h5;have H6:=fQ P;have H7:=fQ R;obtain⟨l,m,rfl⟩:=h4.I;obtain⟨o,s,rfl⟩:=h5.I;obtain⟨S,T,rfl⟩:=P.I;obtain⟨U,V,rfl,_⟩:=R.len;obtain⟨_,l6,aQ⟩:=P.kj;obtain⟨_,l7,aR⟩:=R.kj;have W:=fQ (j8 w (fP #[va,fF fN e.G,vb,O,fH e.L] 26) (fP #[fG l r.a2.a1.length m,fG o r.a2.out.length s,fF fN r.M,fG S r.params.length T,fG U r.K.length V] 89));have g:=fQ ((gO.a4 w 26 #[va,fF fN e.G,vb,O,fH e.L]).alloc (fP #[fG l r.a2.a1.length m,fG o r.a2.out.length s,fF fN r.M,fG S r.params.length T,fG U r.K.length V] 89));have f:=fQ (gO.X (w.alloc (fP #[va,fF fN e.G,vb,O,fH e.L] 26)) (N:=w.heap.size+1) 89 #[fG l r.a2.a1.length m,fG o r.a2.out.length s,fF fN r.M,fG S r.params.length T,fG U r.K.length V] fz);clear h1 h2 h3 h4 h5 P R;go_in;go_wp2_with fail;refine(aXf _ e _ (HE.C W.out (Aq _))).mono ?_;rintro z w1 ⟨rfl,X⟩;have a:=fQ (W.trans (X.mono W.out.size));have g:=fQ (g.C X g.lt);have f:=fQ (f.C X f.lt);clear X;obtain⟨A,B,C,D,E⟩:=gZ f.out;obtain⟨F,G,H,I,J⟩:=gZ g.out;have y0:=g.lt;have y1:=f.lt
 cases Y:iH e with
 | false=>
  have Q:=fQ Y;clear Y;go_wp2;go_ret;exact iE.no (fun d=>by have:=d.J;rw[Q.out]at this;cases this) a.out
 | true=>
  have Q0:=fQ Y;clear Y;by_cases K:r.K.length=0
  ·have aF:r.K = []:=List.eq_nil_of_length_eq_zero K;have Q:=fQ K;clear K;go_wp2;go_ret;exact iE.no (fun d=>by have:=d.n1;rw[Q.out]at this;omega) a.out
  have g2:decide ((r.K.length:Int)<1)=gm:=gE fu;have aE:decide (r.K.length<1)=gm:=gE fu;have aF:¬r.K = []:=fun e=>K (by rw[e];rfl);have ao:1<=r.K.length:=fu;by_cases q3:4096<r.K.length
  ·have g3:decide (4096<(r.K.length:Int))=gj:=fw;go_wp2;go_ret;exact iE.no (fun d=>by have:=d.n2;omega) a.out
  have g3:decide (4096<(r.K.length:Int))=gm:=fw;have aG:decide (4096<r.K.length)=gm:=fw;have Z:r.K.length<=4096:=fu;by_cases q4:r.M<0
  ·go_wp2;go_ret;exact iE.no (fun d=>by have:=d.p1;omega) a.out
  have g4:decide (r.M<0)=gm:=(by simpa using q4);by_cases q5:4096<r.M
  ·go_wp2;go_ret;exact iE.no (fun d=>by have:=d.p2;omega) a.out
  have g5:decide (4096<r.M)=gm:=(by simpa using q5);by_cases qi:8<r.a2.a1.length
  ·have gi:decide (8<(r.a2.a1.length:Int))=gj:=fw;go_wp2;go_ret;exact iE.no (fun d=>by have:=(se d.a2).1;omega) a.out
  have gi:decide (8<(r.a2.a1.length:Int))=gm:=fw;have aH:decide (8<r.a2.a1.length)=gm:=fw;by_cases qo:8<r.a2.out.length
  ·have aq:decide (8<(r.a2.out.length:Int))=gj:=fw;go_wp2;go_ret;exact iE.no (fun d=>by have:=(se d.a2).2;omega) a.out
  have aq:decide (8<(r.a2.out.length:Int))=gm:=fw;have aI:decide (8<r.a2.out.length)=gm:=fw;by_cases q6:r.params.length=r.a2.a1.length
  ·have g6:((r.params.length:Int) != (r.a2.a1.length:Int))=gm:=fw;have aJ:(r.params.length != r.a2.a1.length)=gm:=fw;have Q6:=fQ q6;clear q6;go_wp2_with fail;refine(aJo gj r.M _ r.params _ (H6.ir.C a.out (Aq _)) fu).mono ?_;rintro z w3 ⟨rfl,m3,rfl⟩;have a:=fQ (fK a.out m3);have g:=fQ (g.drewN m3);have f:=fQ (f.drewN m3);generalize w1.drewN m3=w1 at *;clear A B C D E F G H I J y0 y1;obtain⟨A,B,C,D,E⟩:=gZ f.out;obtain⟨F,G,H,I,J⟩:=gZ g.out;have y0:=g.lt;have y1:=f.lt
   cases L:mQ r.M r.params gj with
   | false=>
    have Q:=fQ L;clear L;go_wp2;go_ret
    exact iE.no (fun d=>by
     have h:=Q.out;unfold mQ at h;rw[d.pin,gD d.pw]at h
     cases h) a.out
   | true=>
    have Q7:=fQ (show within r.M r.params=gj/\r.params.Nodup by
     unfold mQ at L
     simpa using L)
    clear L;have M:=fQ (a.alloc a.out.size (fP #[fG l r.a2.a1.length m,fG o r.a2.out.length s] 62));have ar:=fQ (g.alloc (fP #[fG l r.a2.a1.length m,fG o r.a2.out.length s] 62));have au:=fQ (f.alloc (fP #[fG l r.a2.a1.length m,fG o r.a2.out.length s] 62));go_wp2_with fail;refine(aXf _ (qE r.a2) _ (dXx (gO.a4 w1 62 #[fG l r.a2.a1.length m,fG o r.a2.out.length s]) (H4.C M.out (Aq _)) (H5.C M.out (Aq _)))).mono ?_;rintro z w2 ⟨rfl,ak⟩;rw[cKc];have a:=fQ (M.trans (ak.mono M.out.size));have g:=fQ (ar.C ak ar.lt);have f:=fQ (au.C ak au.lt);clear ak;clear A B C D E F G H I J y0 y1
    cases q1:je r.a2 with
    | false=>
     have Q:=fQ q1;clear q1;go_wp2;go_ret;exact iE.no (fun d=>by have:=d.a2;rw[Q.out]at this;cases this) a.out
    | true=>
     have Q1:=fQ q1;clear q1;obtain⟨n,hn⟩:=fX r.K.length;have j:=fQ hn;have aK:=fQ (show 0<=r.M/\r.M<=4096 by omega);have hK:=fQ (show 0<n/\n<=4096 by omega);rw[hn]at f HR ⊢;rw[hn]at ao Z;clear hn g2 aE aF g3 aG K q3 q4 q5 g4 g5 qi qo gi aH aq aI g6 aJ l6 aQ l7 aR W ar au M;go_wp2;go_loopw [6] (fun i wr=>∃ k:Nat,k<=n/\i = fF fN k/\Hid (∀ c∈r.K.take k,codeOk e r c=gj)/\Hid (Bz w.heap.size w wr)/\Hid (gO wr w.heap.size 26 #[va,fF fN e.G,vb,O,fH e.L])/\Hid (gO wr (w.heap.size+1) 89 #[fG l r.a2.a1.length m,fG o r.a2.out.length s,fF fN r.M,fG S r.params.length T,fG U n V])) (fun i _=>n - (intOf i).toNat)
     case atStart=>exact⟨0,fu,rfl,fQ fz,a,g,f⟩
     case round=>
      clear a g f;obtain⟨k,hk,rfl,IC,a,g,f⟩:=hrel;obtain⟨A,B,C,D,E⟩:=gZ f.out;obtain⟨F,G,H,I,J⟩:=gZ g.out;have y0:=g.lt;have y1:=f.lt;by_cases aS:k<n
      ·have t2:(k:Int)<n:=fu;obtain⟨c,hc⟩:∃ c,r.K[k]? = gh c:=⟨_,Aj (by rw[j.out];exact aS)⟩;have HC:=fQ hc;clear hc;go_wp2_with fail;refine(dZh e r c k _ _ _ (HE.C a.out (Aq _)) (HR.C a.out (Aq _)) HC.out Q0.out Q1.out (by rw[j.out];exact Z)).mono ?_;rintro z w5 ⟨rfl,al⟩;have aL:=fQ (a.trans (al.mono a.out.size));have aT:=fQ (g.C al g.lt);have aU:=fQ (f.C al f.lt);clear al A B C D E F G H I J y0 y1
       cases q9:codeOk e r c with
       | false=>
        have Q:=fQ q9;clear q9;go_wp2;go_ret;exact iE.no (fun d=>by have:=d.K c (Ax HC.out);rw[Q.out]at this;cases this) aL.out
       | true=>
        have HA:=fQ (show ∀ c∈r.K.take (k+1),codeOk e r c=gj from fun c' aM=>by
         obtain⟨aV,e'⟩:=gw HC.out;rw[Ay aV,e',List.mem_append]at aM;rcases aM with h|h
         ·exact IC.out c' h
         ·simp at h;rw[h];exact q9)
        clear q9 IC;go_wp2;exact⟨⟨k+1,fu,fz,HA,aL,aT,aU⟩,fB⟩
      ·have t1:decide ((k:Int)<n)=gm:=by simp;omega
       have Q9:=fQ (show ∀ c∈r.K,codeOk e r c=gj by
        have:=IC.out
        rwa[Aw (by rw[j.out];omega)]at this)
       have aX:0<n:=fu;obtain⟨u,aw⟩:∃ u,r.K[0]? = gh u:=⟨_,Aj (by rw[j.out];omega)⟩;obtain⟨c1,ax⟩:∃ c1,r.K[r.K.length - 1]? = gh c1:=⟨_,Aj (by rw[j.out];omega)⟩;have an:=H7.C a.out (Aq _) (fun _ _ h=>h.C a.out (Aq _));rw[j.out]at an;obtain⟨gb,go,p,q,t,eA,ba,m0,_⟩:=an.K aw;obtain⟨bb,aq,p',q',t',ay,aY,m1,_⟩:=an.K ax;subst eA;injection ay with ay;injection ay with e1 e2;subst e1;subst e2;rw[j.out]at m1;obtain⟨kk,az⟩:∃ kk,n=kk+1:=⟨n - 1,fu⟩;have m1:=m1;rw[az]at m1;simp only[Nat.add_sub_cancel,Nat.zero_mul,Ab]at m0 m1;have bc:(kk:Int)<(n:Int):=fu;have bd:IntKind.i64.wrap ((n:Int) - 1)=(kk:Int):=(by rw[show(n:Int) - 1=(kk:Int) by omega];exact AJ _ fu);have C0:=fQ aw;have C1:=fQ ax;clear aw ax an az;have aA:=fQ (fun(h:¬(u.op=258/\(273<=c1.op/\c1.op<=277)/\c1.op≠274))=>(show ¬iq e r from fun d=>h ⟨d.first u C0.out,by have:=d.last c1 C1.out;omega,by have:=d.last c1 C1.out;omega⟩));by_cases v:u.op=258
       ·have g10:(u.op == 258)=gj:=(by simpa using v);have aB:=fQ v;clear v;go_wp2_with fail;refine gu (eQm c1.op _) ?_;by_cases x:273<=c1.op/\c1.op<=277
        ·rw[gD x];have aC:=fQ x;clear x;by_cases y:c1.op=274
         ·have g12:(c1.op != 274)=gm:=(by simp[y]);have aD:=fQ y;clear y;go_wp2;go_ret;exact iE.no (aA.out (fun h=>h.2.2 aD.out)) a.out
         ·have g12:(c1.op != 274)=gj:=(by simp[y]);have aD:=fQ y;clear y;have ag:=fQ (show c1.op=273\/c1.op=275\/c1.op=276\/c1.op=277 by have:=aC.out;have:=aD.out;omega);have a1:=fQ (bKq (by rw[j.out];exact ao) (by rw[j.out];exact Z) Q9.out (fun c hc=>by rw[C1.out]at hc;injection hc with hc;rw[<-hc];exact(r9 _).2 ag.out));go_wp2_with fail;refine(cZy r _ _ (HR.C a.out (Aq _)) a1.out).mono ?_;rintro z w7 ⟨b,rfl,aN,aO⟩;have a6:=fQ (a.trans (aO.mono a.out.size));have aP:=fQ aN;clear aO aN;go_wp2;go_ret;refine⟨!b,rfl,⟨fun hb=>?_,fun d=>?_⟩,a6.out⟩
          ·have a7:¬b=gj:=(by simpa using hb);have a8:j9 r:=Classical.byContradiction fun h=>a7 (aP.2 h);exact⟨Q0.out,Q1.out,by rw[j.out];exact ao,by rw[j.out];exact Z,aK.1,aK.2,Q6.out,Q7.1,Q7.2,Q9.out,(fun c hc=>by rw[C0.out]at hc;injection hc with hc;rw[<-hc];exact aB.out),(fun c hc=>by rw[C1.out]at hc;injection hc with hc;rw[<-hc];exact ag.out),a8⟩
          ·cases b with
           | false=>rfl
           | true=>exact gH d.rank (aP.1 rfl)
        ·rw[gE x];have aC:=fQ x;clear x;go_wp2;go_ret;exact iE.no (aA.out (fun h=>aC.out h.2.1)) a.out
       ·have g10:(u.op == 258)=gm:=(by simpa using v);have aB:=fQ v;clear v;go_wp2;go_ret;exact iE.no (aA.out (fun h=>aB.out h.1)) a.out
  ·have g6:((r.params.length:Int) != (r.a2.a1.length:Int))=gj:=fw;have Q6:=fQ q6;clear q6;go_wp2;go_ret;exact iE.no (fun d=>Q6.out d.par) a.out
structure RS (r:gR) (P:Nat) (ku:j7) (T:Nat->Nat->Bool):Prop where
 snd:∀ a b:Nat,a<P->b<P->T a b=gj->jc r a b
 req:∀ x y:Nat,x<P->y<P->ku x y->x≠y->T x y=gj/\T y x=gj
def oi(T:Nat->Nat->Bool)(a b:Nat):Nat->Nat->Bool:=if a=b then T else upd (upd T a (fun q=>if q=b then gj else T a q)) b (fun q=>if q=a then gj else T b q)
theorem bVf(T:Nat->Nat->Bool)(a:Nat):oi T a a=T:=by simp[oi]
theorem cKa{T:Nat->Nat->Bool}(h:a≠b):oi T a b=upd (upd T a (fun q=>if q=b then gj else T a q)) b (fun q=>if q=a then gj else T b q):=by simp[oi,h]
theorem ta{T:Nat->Nat->Bool}{x y:Nat}:oi T a b x y=gj↔T x y=gj\/(a≠b/\((x=a/\y=b)\/(x=b/\y=a))):=by
 by_cases h:a=b
 ·subst h;rw[bVf];simp
 ·rw[cKa h];unfold upd;by_cases d:x=b
  ·subst d;rw[gz rfl];by_cases c:y=a
   ·subst c;simp[h]
   ·rw[gy c];simp[c];intro _ h2;exact gH h2.symm h
  ·rw[gy d];by_cases ha:x=a
   ·subst ha;rw[gz rfl];by_cases c:y=b
    ·subst c;simp[h]
    ·rw[gy c];simp[c,d]
   ·rw[gy ha];simp[ha,d]
theorem RS.put{r:gR}{ku jT:j7}{T:Nat->Nat->Bool}(h:RS r P ku T)(hs:kT r a b)(hq:∀ x y,jT x y->ku x y\/(x=(a:Int)/\y=(b:Int))):RS r P jT (oi T a b):=by
 refine⟨fun x y c d e=>?_,fun x y c d f g=>?_⟩
 ·rcases ta.1 e with e|⟨hn,⟨rfl,rfl⟩|⟨rfl,rfl⟩⟩
  ·exact h.snd x y c d e
  ·exact⟨fu,fS hs⟩
  ·exact⟨fu,fT hs⟩
 ·rcases hq x y f with f|⟨i,e2⟩
  ·have:=h.req x y c d f g;exact⟨ta.2 (fS this.1),ta.2 (fS this.2)⟩
  ·have i:x=a:=fu;have e2:y=b:=fu;subst i;subst e2;exact⟨ta.2 (fT ⟨g,fS ⟨rfl,rfl⟩⟩),ta.2 (fT ⟨g,fT ⟨rfl,rfl⟩⟩)⟩
theorem RS.ng{r:gR}{ku jT:j7}{T:Nat->Nat->Bool}(h:RS r P ku T)(hq:∀ x y,jT x y->ku x y):RS r P jT T:=⟨h.snd,fun x y a b c=>h.req x y a b (hq _ _ c)⟩
theorem RS.start(r:gR)(P:Nat){ku:j7}(hn:∀ x y,¬ku x y):RS r P ku (fun _ _=>gm):=⟨fun a b _ _ h=>(by cases h),fun x y _ _ h=>gH h (hn _ _)⟩
theorem RS.done{e:ia}{r:gR}{ku:j7}{T:Nat->Nat->Bool}(h:RS r P ku T)(hc:iq e r)(hq:∀ x y,kT r x y->ku x y)(ha:a<P)(c:b<P):T a b=gj↔jc r a b:=by
 refine⟨h.snd a b ha c,fun d=>?_⟩;obtain⟨ad,hs|hs⟩:=d
 ·exact(h.req a b ha c (hq _ _ hs) fu).1
 ·exact(h.req b a c ha (hq _ _ hs) fu).2
def np(r:gR)(k:Nat)(c:gP)(j:Nat)(o:Int)(t:List Int)(n:Nat):j7:=fun x y=>od r k c j x y\/(x=o/\y∈t.take n/\(c.op=272->∀ a,c.args[0]? = gh a->y≠a))
theorem cVf{r:gR}{c:gP}{t:List Int}(x y:Int)(h:np r k c j o t 0 x y):od r k c j x y:=by
 rcases h with h|⟨_,h2,_⟩
 ·exact h
 ·simp at h2
theorem dXo{r:gR}{c:gP}{p:Int}{t:List Int}(e:t[n]? = gh p)(hp:¬(c.op=272->∀ a,c.args[0]? = gh a->p≠a))(x y:Int)(h:np r k c j o t (n+1) x y):np r k c j o t n x y:=by
 rcases h with h|⟨h1,h2,d⟩
 ·exact fS h
 ·rcases(sQ e).1 h2 with b|b
  ·exact fT ⟨h1,b,d⟩
  ·subst b;exact gH d hp
theorem bYy{r:gR}{c:gP}{p:Int}{t:List Int}(b:t[n]? = gh p)(x y:Int)(h:np r k c j o t (n+1) x y):np r k c j o t n x y\/(x=o/\y=p):=by
 rcases h with h|⟨h1,h2,d⟩
 ·exact fS (fS h)
 ·rcases(sQ b).1 h2 with a|a
  ·exact fS (fT ⟨h1,a,d⟩)
  ·exact fT ⟨h1,a⟩
theorem dXp{r:gR}{c:gP}{t:List Int}(hn:t.length<=n)(a:∀ x,x∈t↔jI r k x)(x y:Int)(h:pM r k c j o 0 x y):np r k c j o t n x y:=by
 rcases h with h|⟨h1,⟨h2,b⟩|h2⟩
 ·exact fS h
 ·exact fT ⟨h1,(pO hn).2 ((a y).2 h2),b⟩
 ·simp at h2
def pP(r:gR)(k:Nat)(a:Int)(u:List Int)(n:Nat):j7:=fun x y=>oe r k x y\/(x=a/\(y∈r.params\/y∈u.take n))
theorem cVg{r:gR}{a:Int}(hj:r.params.length<=j)(x y:Int)(h:pP r k a u 0 x y):pN r k a j x y:=by
 rcases h with h|⟨h1,h2|h2⟩
 ·exact fS h
 ·exact fT ⟨h1,(pO hj).2 h2⟩
 ·simp at h2
theorem eQa{r:gR}{a p:Int}(c:u[n]? = gh p)(x y:Int)(h:pP r k a u (n+1) x y):pP r k a u n x y\/(x=a/\y=p):=by
 rcases h with h|⟨h1,h2|h2⟩
 ·exact fS (fS h)
 ·exact fS (fT ⟨h1,fS h2⟩)
 ·rcases(sQ c).1 h2 with b|b
  ·exact fS (fT ⟨h1,fT b⟩)
  ·exact fT ⟨h1,b⟩
theorem dXq{r:gR}{a:Int}(c:r.params[k]? = gh a)(hn:u.length<=n)(d:∀ x,x∈u↔Live r 0 x)(x y:Int)(h:oe r (k+1) x y):pP r k a u n x y:=by
 rcases h with h|⟨h1,h2⟩
 ·exact fS (fS h)
 ·rcases(sQ c).1 h1 with b|b
  ·exact fS (fT ⟨b,h2⟩)
  ·rcases h2 with h2|h2
   ·exact fT ⟨b,fS h2⟩
   ·exact fT ⟨b,fT ((pO hn).2 ((d y).2 h2))⟩
def mH(f g:Nat->Bool)(k:Nat):Bool:=(Ah k).any fun p=>f p != g p
theorem cVh(f g:Nat->Bool)(k:Nat):mH f g (k+1)=(mH f g k || (f k != g k)):=by
 unfold mH;rw[Ag,AK];simp
theorem eQb{f g:Nat->Bool}(h:mH f g k=gm):∀ p,p<k->f p=g p:=by
 intro p hp;unfold mH at h;rw[List.any_eq_false]at h;have:=h p (List.mem_range.2 hp)
 simpa using this
theorem dXr{f g:Nat->Bool}(h:mH f g k=gj):∃ p,p<k/\f p≠g p:=by
 unfold mH at h;rw[List.any_eq_true]at h;obtain⟨p,hp,h2⟩:=h;exact⟨p,List.mem_range.1 hp,by simpa using h2⟩
structure td (r:gR) (n P M k:Nat) (b:Bool) (T:Nat->Nat->Bool):Prop where
 i:lq r P T
 le:cnt2 n P T<=M
 lt:b=gj->cnt2 n P T<M
 st:b=gm->∀ j c p,k<=j->r.K[j]? = gh c->p<P->Fv c j T p=gj->T j p=gj
theorem td.step{r:gR}{n P M k:Nat}{b:Bool}{T:Nat->Nat->Bool}(h:td r n P M (k+1) b T)(hf:jG r)(hn:r.K.length=n){c:gP}(hc:r.K[k]? = gh c):td r n P M k (b || mH (Fv c k T) (T k) P) (upd T k (Fv c k T)):=by
 have l:k<n:=(by rw[<-hn];exact(gw hc).1);have f:=fun p hp=>h.i.pre k c p hc hp;have hle:cnt2 n P (upd T k (Fv c k T))<=cnt2 n P T:=eVh f;refine⟨h.i.step hf hc,Nat.le_trans hle h.le,fun a=>?_,fun a=>?_⟩
 ·rcases Bool.or_eq_true_iff.1 a with a|a
  ·exact Nat.lt_of_le_of_lt hle (h.lt a)
  ·obtain⟨p,hp,hd⟩:=dXr a;exact Nat.lt_of_lt_of_le (eVi f l hp hd) h.le
 ·have m:b=gm:=(by cases b <;> simp_all);have g:=eQb (show mH (Fv c k T) (T k) P=gm by cases hd:mH (Fv c k T) (T k) P <;> simp_all)
  have same:∀ j p,p<P->upd T k (Fv c k T) j p=T j p:=by
   intro j p hp;by_cases e:j=k
   ·subst e;rw[vX];exact g p hp
   ·rw[tY e]
  intro j o p hj d hp hF;rw[eQw hf d (T':=T) (fun j _=>same j p hp)]at hF;rw[same j p hp];by_cases e:j=k
  ·subst e;rw[hc]at d;injection d with d;subst d;rw[<-g p hp];exact hF
  ·exact h.st m j o p fu d hp hF
theorem bJb:(fZ.info? 24).map (fun i=>(i.zero,i.size,i.bytes))=gh (gh (fG fU 0 0),1,24):=fx
theorem tf(A:Option Addr)(n c:Nat):∀ u ∈ [Value.slice A n c],u.oneCell'=gj:=by
 intro u a;obtain rfl:=List.mem_singleton.1 a;rfl
section
variable {w w':Bq} {base n P:Nat} {v:Bx} {T:Nat->Nat->Bool} {gs:List Nat}
theorem TM.other{gl:Nat}{f:Nat->Bool}(h:TM w base v n P T gs)(hg:RB 4 w gl P f)(hn:∀ x∈gs,x≠gl)(i:Nat)(u:Bx):TM (w.setCell ⟨gl,i,fU⟩ u) base v n P T gs:=
 ⟨iW h.own (iZ h.own hg fy),h.len,h.nd,fun j x a=>⟨(h.rows j x a).1,tW (h.rows j x a).2 (hn x (Ax a))⟩⟩
theorem TM.at2{c:Nat}(h:TM w base (fG (gh ⟨a,0,fU⟩) n c) n P T gs)(hn:0<n):base<=a/\a<w.heap.size/\(∀ i,w.frozen? ⟨a,i,fU⟩=gm)/\(∀ i g,gs[i]? = gh g->w.cell? ⟨a,i,fU⟩=gh (fG (gh ⟨g,0,fU⟩) P P))/\(∀ g∈gs,g≠a):=by
 obtain⟨aa,c',e,h1,h2,d,f,j⟩:=h.at_ hn;injection e with b e2 e3;injection b with b;injection b with b;subst b;exact⟨h1,h2,d,f,j⟩
theorem TM.lt_(h:TM w base v n P T gs):∀ x∈gs,x<w.heap.size:=fun x a=>by
 obtain⟨i,hi⟩:=List.mem_iff_getElem?.1 a;exact gO.lt (h.rows i x hi).2
end
structure oj (w:Bq) (n P:Nat) (rv:Array Bx) (v:Bx) (T:Nat->Nat->Bool) (gs:List Nat) (wi:Bq):Prop where
 t:TM wi w.heap.size v n P T gs
 r:gO wi w.heap.size 89 rv
 b:Bz w.heap.size w wi
theorem oj.keep{rv:Array Bx}{T:Nat->Nat->Bool}{wi wj:Bq}(h:oj w n P rv v T gs wi)(a:Bz wi.heap.size wi wj):oj w n P rv v T gs wj:=
 ⟨h.t.C a,h.r.C a h.r.lt,h.b.trans (a.mono h.b.size)⟩
structure lP (w:Bq) (n P:Nat) (rv:Array Bx) (v:Bx) (T:Nat->Nat->Bool) (gs:List Nat) (gl:Nat) (f:Nat->Bool) (wi:Bq):Prop where
 m:oj w n P rv v T gs wi
 l:RB 4 wi gl P f
 lo:w.heap.size<gl
 ne:∀ x∈gs,x≠gl
section
variable {w:Bq} {n P:Nat} {rv:Array Bx} {v:Bx} {T:Nat->Nat->Bool} {gs:List Nat} {gl:Nat} {f:Nat->Bool} {wi wj:Bq}
theorem lP.start(h:oj w n P rv v T gs wi)(a:Bz wi.heap.size wi wj)(b:RB 4 wj gl P f)(hg:wi.heap.size<=gl):lP w n P rv v T gs gl f wj:=
 ⟨h.keep a,b,by have:=h.r.lt;omega,fun x c=>by have:=h.t.lt_ x c;omega⟩
theorem lP.set(h:lP w n P rv v T gs gl f wi)(p:Nat)(b:Bool):lP w n P rv v T gs gl (fun q=>if q=p then b else f q) (wi.setCell ⟨gl,p,fU⟩ (fH b)):=
 ⟨⟨h.m.t.other h.l h.ne p _,tW h.m.r (by have:=h.lo;omega),h.m.b.setCell (p:=⟨gl,p,fU⟩) (by have:=h.lo;simp;omega) _⟩,h.l.set p b,h.lo,h.ne⟩
theorem lP.congr{f':Nat->Bool}(h:lP w n P rv v T gs gl f wi)(he:∀ q,q<P->f q=f' q):lP w n P rv v T gs gl f' wi:=⟨h.m,h.l.congr he,h.lo,h.ne⟩
theorem lP.drewN(h:lP w n P rv v T gs gl f wi)(k:Nat):lP w n P rv v T gs gl f (wi.drewN k):=⟨⟨h.m.t.drewN k,h.m.r.drewN k,fK h.m.b k⟩,h.l,h.lo,h.ne⟩
theorem lP.done{c:Nat}(h:lP w n P rv (fG (gh ⟨a,0,fU⟩) n c) T gs gl f wi)(hn:0<n):oj w n P rv (fG (gh ⟨a,0,fU⟩) n c) (upd T i f) (gs.set i gl) (wi.setCell ⟨a,i,fU⟩ (fG (gh ⟨gl,0,fU⟩) P P)):=by
 have h2:=h.m.t.at2 hn;obtain⟨cur,d⟩:=oD h.m.t.own (g:=a) rfl;exact⟨h.m.t.put h.l (Nat.le_of_lt h.lo) h.ne,tW h.m.r (pK h.m.r d fy),h.m.b.setCell (p:=⟨a,i,fU⟩) h2.1 _⟩
end
def fQr(r:gR)(n P:Nat)(w:Bq)(a:Ending)(w':Bq):Prop:=∃ v gs T,a = fR v/\TM w' w.heap.size v n P T gs/\(∀ i p,i<n->p<P->(T i p=gj↔Live r i p))/\Bz w.heap.size w w'
theorem bVg(e:ia)(r:gR)(vr:Bx)(n P:Nat)(w:Bq)(hr:jn w vr r)(hc:iq e r)(hn:r.K.length=n)(hP:r.M=P):Bk fZ 131 #[vr] w (fQr r n P w):=by
 have aJ:P<=4096:=(by have:=hc.p2;omega);have aY:1<=n:=(by have:=hc.n1;omega);have aZ:n<=4096:=(by have:=hc.n2;omega);obtain⟨s,A,vs,vd,rfl,h4,h5,h6,h7⟩:=hr;obtain⟨Q,G,rfl,_⟩:=h7.len;have H7:=fQ h7;have aw:=fQ hc;have HF:=fQ hc.sa;have HR:=fQ (show jn w (fM #[s,A,fF fN (P:Int),vs,fG Q n G]) r from⟨s,A,vs,_,by rw[hP,hn],h4,h5,h6,h7⟩);rw[hn,hP];have W:=fQ hn;have HP:=fQ hP;have K0:=fQ (gO.a4 w 89 #[s,A,fF fN (P:Int),vs,fG Q n G]);have mk:=nL (P:=fZ) 24 4 (fH gm) 1 underlying24 s9 rfl P fu fu;clear h4 h5 h6 h7 hc hn hP;go_in;go_wp2;go_loopw [3,4] (fun v i wi=>∃ (k:Nat) (gs:List Nat),k<=n/\i = fF fN k/\Hid (TM wi w.heap.size v k P (fun _ _=>gm) gs)/\Hid (gO wi w.heap.size 89 #[s,A,fF fN (P:Int),vs,fG Q n G])/\Hid (Bz w.heap.size w wi)) (fun _ i _=>n - (intOf i).toNat)
 case atStart=>exact⟨0,[],fu,rfl,fQ (TM.nil _ _ _ _),K0,fQ ((Ak _ _).alloc (Aq _) _)⟩
 case round=>
  clear K0;obtain⟨k,gs,hk,rfl,IT,I,X⟩:=hrel;obtain⟨Av,J,hv,_⟩:=fJ IT.out.own;subst hv;obtain⟨B,C,D,E,F⟩:=gZ I.out;have y1:=I.out.lt;have aj:=X.out.size;by_cases a7:k<n
  ·have t1:decide ((k:Int)<n)=gj:=fw;have t2:(k:Int)<n:=fu;have ah:=fQ (lJ (lJ IT.out.own (fP (Az P (fH gm)) 4)) (fP #[fG (gh ⟨wr.heap.size,0,fU⟩) P P] 24));go_wp2_with (at_builtin;refine nQ _ rfl (.tmp 18) (.tmp 22) 147 rfl w.heap.size 24 (fG fU 0 0) 1 24 underlying147 bJb rfl fu (.slice Av k J) k (jR gs P) rfl ah.out (gh ⟨wr.heap.size+1,0,fU⟩) 1 1 [fG (gh ⟨wr.heap.size,0,fU⟩) P P] rfl (gO.kE (cs:=#[fG (gh ⟨wr.heap.size,0,fU⟩) P P]) (gO.X _ _ _ fz) rfl) (tf _ _ _) (by unfold maxLen;omega) fu fw ?_);rintro v' w' h1 h2 h3 _;have ax:=fQ (((IT.out.alloc (fP (Az P (fH gm)) 4)).alloc (fP #[fG (gh ⟨wr.heap.size,0,fU⟩) P P] 24)).push (g:=wr.heap.size) (f:=fun _=>gm) (gO.alloc (RB.a4 (t:=4) wr (n:=P) gm rfl) _) aj (fun x o=>by have:=IT.out.lt_ x o;omega) h1 h2)
   have aK:=fQ (ax.congr (T':=fun _ _=>gm) (fun i p _ _=>by
    by_cases e:i=k
    ·subst e;rw[vX]
    ·rw[tY e]))
   have aL:=fQ (((I.out.alloc (fP (Az P (fH gm)) 4)).alloc (fP #[fG (gh ⟨wr.heap.size,0,fU⟩) P P] 24)).grown h2 (iZ ah.out ((I.out.alloc (fP (Az P (fH gm)) 4)).alloc (fP #[fG (gh ⟨wr.heap.size,0,fU⟩) P P] 24)) fy));have aM:=fQ (oQ ((X.out.alloc aj (fP (Az P (fH gm)) 4)).alloc fw (fP #[fG (gh ⟨wr.heap.size,0,fU⟩) P P] 24)) h2 fw (fun j hj=>(ah.lt j hj).1));clear h1 h2 h3 IT I X ah ax;go_wp2;exact⟨⟨k+1,_,fu,fz,aK,aL,aM⟩,fB⟩
  ·have t1:decide ((k:Int)<n)=gm:=fw;have ak:k=n:=fu;subst ak;clear mk;obtain⟨R,cT,hv,_⟩:=lZ IT.out.own fu;injection hv with aN a8 aO;subst aN;subst aO;have ay:=fQ (show oj w k P #[s,A,fF fN (P:Int),vs,fG Q k G] (fG (gh ⟨R,0,fU⟩) k J) (fun _ _=>gm) gs wr from⟨IT.out,I.out,X.out⟩);clear IT I X aj;go_wp2;clear B C D E F y1;go_loopg [5] (cnt2 k P (fun _ _=>gm)*2+1) (fun gk v wi=>∃ (b:Bool) (T:Nat->Nat->Bool) (gs:List Nat),v = fH b/\Hid (oj w k P #[s,A,fF fN (P:Int),vs,fG Q k G] (fG (gh ⟨R,0,fU⟩) k J) T gs wi)/\Hid (lq r P T)/\Hid (b=gm->∀ j c p,r.K[j]? = gh c->p<P->Fv c j T p=gj->T j p=gj)/\Hid (cnt2 k P T*2+(if b then 1 else 0)=gk))
   case atStart=>exact⟨gj,_,gs,rfl,ay,fQ (lq.start r P),fQ (fun e=>by cases e),fQ rfl⟩
   case round=>
    clear ay;obtain⟨b,T,gs,rfl,IM,II,H,IG⟩:=hrel
    cases b with
    | false=>
     have HD:=fQ (II.out.done aw.out HP.out (H.out rfl));rw[W.out]at HD;go_wp2;go_ret;exact⟨_,gs,T,rfl,IM.out.t,HD.out,IM.out.b⟩
    | true=>
     obtain⟨M,hM⟩:=fX (cnt2 k P T);have HK:=fQ (show M*2+1=gk by have:=IG.out;rw[hM]at this;simpa using this)
     have az:=fQ (show td r k P M k gm T from⟨II.out,Aa hM,(fun e=>by cases e),fun _ j c p h1 h2=>by
      have h3:=(gw h2).1;have h4:=W.out
      omega⟩)
     obtain⟨B,C,D,E,F⟩:=gZ IM.out.r;have y1:=IM.out.r.lt;have z1:IntKind.i64.wrap ((k:Int) - 1)=(k:Int) - 1:=AJ _ fu;clear hM II H IG B C D E;go_wp2_with fail;clear F y1;go_loopw [5,6] (fun tv iv wi=>∃ (q:Nat) (x:Int) (b:Bool) (T:Nat->Nat->Bool) (gs:List Nat),q<=k/\Hid (x=(q:Int) - 1)/\iv = fF fN x/\tv = fH b/\Hid (oj w k P #[s,A,fF fN (P:Int),vs,fG Q k G] (fG (gh ⟨R,0,fU⟩) k J) T gs wi)/\Hid (td r k P M q b T)) (fun _ iv _=>(intOf iv+1).toNat)
     case atStart=>exact⟨k,_,gm,T,gs,fu,fQ rfl,rfl,rfl,IM,az⟩
     case round=>
      clear az IM;obtain⟨q,x,b,T,gs,hq,HX,rfl,rfl,IM,H⟩:=hrel;rcases AW q with rfl|al
      ·have o:x = -1:=(by have:=HX.out;omega);subst o;clear HX;go_wp2;go_roundg (cnt2 k P T*2+(if b then 1 else 0))
       case measure=>
        rw[<-HK.out];have h1:=H.out.le;have h2:=H.out.lt
        cases b with
        | true=>have:=h2 rfl;simp;omega
        | false=>simp;omega
       case rel=>exact⟨b,T,gs,rfl,IM,fQ H.out.i,fQ (fun e j c p h1 h2=>H.out.st e j c p fu h1 h2),fQ rfl⟩
      ·as_aux_lemma=>
       obtain⟨d,rfl⟩:∃ d,q=d+1:=⟨q - 1,fu⟩;have o:x=(d:Int):=(by have:=HX.out;omega);subst o;have an:d<k:=fu;have aP:(d:Int)<k:=fu;have z2:IntKind.i64.wrap ((d:Int) - 1)=(d:Int) - 1:=AJ _ fu;obtain⟨c,hc⟩:∃ c,r.K[d]? = gh c:=⟨_,Aj (by rw[W.out];exact an)⟩;have HC:=fQ hc;obtain⟨B,C,D,E,F⟩:=gZ IM.out.r;have y1:=IM.out.r.lt;clear hc HX al;go_wp2_with fail;refine(bJd r _ _ d k P c T _ (HR.C IM.out.b (Aq _)) IM.out.t.tb HC.out W.out HP.out aJ HF.out).mono ?_;rintro en w1 ⟨gl,rfl,aA,aB,hb⟩;have a:=fQ (lP.start IM.out hb aB aA);clear aA aB hb IM B C D E F y1;obtain⟨K,go,ba,bb,bc,rfl,aC,g0,g1,Y,Z,g4,s0,s1,s2,s3⟩:=H7.K HC.out;obtain⟨pA,pc,rfl⟩:=s1.I;obtain⟨qA,qc,rfl⟩:=s2.I;have aD:=fQ s1.ir;have aE:=fQ s2.ir;obtain⟨S,aq⟩:∃ m,c.args.length=m:=⟨_,rfl⟩;obtain⟨U,ar⟩:∃ m,c.O.length=m:=⟨_,rfl⟩;have aF:=fQ (xJ (aw.K c (Ax HC.out)));obtain⟨_,_,_,_,aQ⟩:=s1.len;obtain⟨_,_,_,_,aR⟩:=s2.len;rw[aq]at aD Y aQ;rw[ar]at aE Z aR;have aG:=fQ aq;have aH:=fQ ar;have G2:=fQ Y;have G3:=fQ Z;clear aq ar g0 g1 g4 s0 s1 s2 s3 Y Z;go_wp2_with fail;go_loopw [8] (fun i wi=>∃ j:Nat,j<=U/\i = fF fN j/\Hid (lP w k P #[s,A,fF fN (P:Int),vs,fG (gh ⟨K,go,fU⟩) k G] (fG (gh ⟨R,0,fU⟩) k J) T gs gl (fun q=>bh (ib c d) T q && !decide ((q:Int)∈c.O.take j)) wi)) (fun i _=>U - (intOf i).toNat)
       case atStart=>exact⟨0,fu,rfl,fQ (a.congr fun q _=>fz)⟩
       case round=>
        clear a;obtain⟨j,hj,rfl,a⟩:=hrel;obtain⟨B,C,D,E,F⟩:=gZ a.m.r;have y1:=a.m.r.lt;have Z:=(a.m.b.cell (p:=⟨K,_,fU⟩) aC).trans G3.out;have y2:K<wr.heap.size:=(by have:=a.m.b.size;omega);by_cases aS:j<U
        ·have t4:(j:Int)<U:=fu;obtain⟨x,o⟩:∃ x,c.O[j]? = gh x:=⟨_,Aj (by rw[aH.out];exact aS)⟩;have N:=aF.2.1 x (Ax o);rw[HP.out]at N;obtain⟨z,rfl⟩:∃ z:Nat,x=z:=⟨x.toNat,fu⟩;have aT:(z:Int)<P:=N.2;obtain⟨ab,ao,rfl,aU,aV⟩:=(aE.C a.m.b (Aq _)).cell o;have z3:=ik a.l z;obtain⟨u3,c3⟩:∃ u,wr.cell? ⟨gl,z,fU⟩=gh u:=⟨_,a.l.cell fu⟩
         have HW:=fQ ((a.set z gm).congr (f':=fun q=>bh (ib c d) T q && !decide ((q:Int)∈c.O.take (j+1))) (fun q _=>by
          have af:=sQ (y:=(q:Int)) o;by_cases e:q=z
          ·subst e;rw[gz rfl,gD (af.2 (fT rfl))];simp
          ·rw[gy e]
           have:((q:Int)∈c.O.take (j+1))↔((q:Int)∈c.O.take j):=by
            rw[af];exact⟨fun h=>h.elim id (fun h=>gH fu e),fS⟩
           rw[decide_eq_decide.2 this]))
         clear a o N;go_wp2;exact⟨⟨j+1,fu,fz,HW⟩,fB⟩
        ·have L:decide ((j:Int)<U)=gm:=by simp;omega
         have ag:=fQ (a.congr (f':=fun q=>decide ((q:Int)∈c.args.take 0) || (bh (ib c d) T q && !decide ((q:Int)∈c.O))) (fun q _=>by
          rw[Aw (by rw[aH.out];omega)]
          simp))
         clear a;go_wp2_with fail;clear B C D E F y1 Z y2 L;go_loopw [9] (fun i wi=>∃ j:Nat,j<=S/\i = fF fN j/\Hid (lP w k P #[s,A,fF fN (P:Int),vs,fG (gh ⟨K,go,fU⟩) k G] (fG (gh ⟨R,0,fU⟩) k J) T gs gl (fun q=>decide ((q:Int)∈c.args.take j) || (bh (ib c d) T q && !decide ((q:Int)∈c.O))) wi)) (fun i _=>S - (intOf i).toNat)
         case atStart=>exact⟨0,fu,rfl,ag⟩
         case round=>
          clear ag;obtain⟨j,hj,rfl,a⟩:=hrel;obtain⟨B,C,D,E,F⟩:=gZ a.m.r;have y1:=a.m.r.lt;have Y:=(a.m.b.cell (p:=⟨K,_,fU⟩) aC).trans G2.out;have y2:K<wr.heap.size:=(by have:=a.m.b.size;omega);by_cases aW:j<S
          ·have t4:(j:Int)<S:=fu;obtain⟨x,o⟩:∃ x,c.args[j]? = gh x:=⟨_,Aj (by rw[aG.out];exact aW)⟩;have N:=aF.1 x (Ax o);rw[HP.out]at N;obtain⟨z,rfl⟩:∃ z:Nat,x=z:=⟨x.toNat,fu⟩;have aT:(z:Int)<P:=N.2;obtain⟨ab,ao,rfl,aU,aV⟩:=(aD.C a.m.b (Aq _)).cell o;have z3:=ik a.l z;obtain⟨u3,c3⟩:∃ u,wr.cell? ⟨gl,z,fU⟩=gh u:=⟨_,a.l.cell fu⟩
           have HW:=fQ ((a.set z gj).congr (f':=fun q=>decide ((q:Int)∈c.args.take (j+1)) || (bh (ib c d) T q && !decide ((q:Int)∈c.O))) (fun q _=>by
            have af:=sQ (y:=(q:Int)) o;by_cases e:q=z
            ·subst e;rw[gz rfl,gD (af.2 (fT rfl))];simp
            ·rw[gy e]
             have:((q:Int)∈c.args.take (j+1))↔((q:Int)∈c.args.take j):=by
              rw[af];exact⟨fun h=>h.elim id (fun h=>gH fu e),fS⟩
             rw[decide_eq_decide.2 this]))
           clear a o N;go_wp2;exact⟨⟨j+1,fu,fz,HW⟩,fB⟩
          ·have L:decide ((j:Int)<S)=gm:=by simp;omega
           have ag:=fQ (a.congr (f':=Fv c d T) (fun q _=>by
            rw[Aw (by rw[aG.out];omega)]
            rfl))
           clear a;go_wp2_with fail;clear B C D E F y1 Y y2 L;go_loopw [5,10] (fun tv i wi=>∃ j:Nat,j<=P/\i = fF fN j/\tv = fH (b || mH (Fv c d T) (T d) j)/\Hid (lP w k P #[s,A,fF fN (P:Int),vs,fG (gh ⟨K,go,fU⟩) k G] (fG (gh ⟨R,0,fU⟩) k J) T gs gl (Fv c d T) wi)) (fun _ i _=>P - (intOf i).toNat)
           case atStart=>exact⟨0,fu,rfl,by simp[mH],ag⟩
           case round=>
            clear ag;obtain⟨j,hj,rfl,rfl,a⟩:=hrel;obtain⟨B,C,D,E,F⟩:=gZ a.m.r;by_cases aI:j<P
            ·have t4:(j:Int)<P:=fu;obtain⟨gk,O⟩:∃ gk,gs[d]? = gh gk:=⟨_,Aj (by rw[a.m.t.len];exact an)⟩;have h2:=a.m.t.at2 fu;have a1:=h2.2.2.2.1 d gk O;have a3:=(a.m.t.rows d gk O).2.cell aI;have a5:=a.l.cell aI;have ai:=fQ (cVh (Fv c d T) (T d) j);obtain⟨u,hu⟩:=fX (Fv c d T j);obtain⟨t,ht⟩:=fX (T d j);obtain⟨bd,V⟩:=fX ((b || mH (Fv c d T) (T d) j));rw[hu]at a5 ai;rw[ht]at a3 ai;rw[V];have aX:=fQ V;clear O h2 hu ht V;cases u <;> cases t
             all_goals
              go_wp2_with fail;go_quiet (fail);go_wp2;exact⟨⟨j+1,fu,fz,by first|(rw[ai.out,<-aX.out];simp;done)|(rw[ai.out];simp),fQ (a.drewN _)⟩,fB⟩
            ·have L:decide ((j:Int)<P)=gm:=fw;have au:j=P:=fu;subst au;have h2:=a.m.t.at2 fu;have a3:=h2.2.2.1 d;obtain⟨gk,O⟩:∃ gk,gs[d]? = gh gk:=⟨_,Aj (by rw[a.m.t.len];exact an)⟩;have a1:=h2.2.2.2.1 d gk O;have HW:=fQ (a.done (i:=d) fu);have HS:=fQ (H.out.step HF.out W.out HC.out);obtain⟨bd,V⟩:=fX ((b || mH (Fv c d T) (T d) j));rw[V]at HS ⊢;clear a H h2 V O;go_wp2;exact⟨⟨d,_,bd,_,_,fu,fQ rfl,rfl,rfl,HW,HS⟩,fE⟩
theorem aWg{e:ia}{r:gR}{f:Nat->Bool}{Q:Int->Prop}{p:List Int}(h:jj p (fun x=>∃ i:Nat,x=i/\i<P/\f i=gj))(hf:∀ q:Nat,q<P->(f q=gj↔Q q))(a:∀ x,Q x->0<=x/\x<(P:Int)):jj p Q:=
 h.imp fun x=>⟨fun⟨i,e,hi,h⟩=>by subst e;exact(hf i hi).1 h,fun hq=>by
  have:=a x hq;obtain⟨i,rfl⟩:∃ i:Nat,x=i:=⟨x.toNat,fu⟩
  exact⟨i,rfl,fu,(hf i fu).2 hq⟩⟩
def jS(w2:Bq)(v:Bx)(k:Nat)(Q:Nat->Int->Prop)(wr:Bq):Prop:=∃ vs PP,wr.ownsRow w2.heap.size 23 1 v k vs/\j5 wr w2.heap.size vs PP/\PP.length=k/\(∀ (i:Nat) p,PP[i]? = gh p->jj p (Q i))/\Bz w2.heap.size w2 wr
theorem jS.start(w2:Bq)(Q:Nat->Int->Prop):jS w2 (fG fU 0 0) 0 Q w2:=⟨[],[],AZ _ _ _ _,⟨rfl,fun i u p h=>by simp at h⟩,rfl,fun i p h=>by simp at h,Ak _ _⟩
theorem jS.told{Q:Nat->Int->Prop}(h:jS w2 v k Q wr):Told wr w2.heap.size v k Q:=by
 obtain⟨vs,PP,h1,h2,a,b,_⟩:=h;exact⟨vs,PP,h1,h2,a,b⟩
theorem jS.C{Q:Nat->Int->Prop}(h:jS w2 v k Q wr):Bz w2.heap.size w2 wr:=by
 obtain⟨vs,PP,h1,h2,h3,h4,a⟩:=h;exact a
theorem jS.keep{b:Bq}{Q:Nat->Int->Prop}(h:jS w2 v k Q wr)(a:Bz wr.heap.size wr b):jS w2 v k Q b:=by
 obtain⟨vs,PP,h1,h2,d,e,c⟩:=h;exact⟨vs,PP,iJ h1 a (Aq _),h2.grown (r7 a) (fun _ _ _=>fz),d,e,c.trans (a.mono c.size)⟩
theorem jS.I{Q:Nat->Int->Prop}(h:jS w2 v k Q wr):∃ A c,v = fG A k c:=by
 obtain⟨vs,PP,h1,_⟩:=h;obtain⟨A,c,e,_⟩:=fJ h1;exact⟨A,c,e⟩
theorem jS.open{Q:Nat->Int->Prop}(h:jS w2 v k Q wr):∃ vs PP,wr.ownsRow w2.heap.size 23 1 v k vs/\j5 wr w2.heap.size vs PP/\PP.length=k/\(∀ (i:Nat) p,PP[i]? = gh p->jj p (Q i))/\Bz w2.heap.size w2 wr:=h
theorem jS.fYc{a:Bq}{v' u:Bx}{Q:Nat->Int->Prop}{p:List Int}{vs:List Bx}{PP:List (List Int)}(h1:wr.ownsRow w2.heap.size 23 1 v k vs)(h:j5 wr w2.heap.size vs PP/\PP.length=k/\(∀ (i:Nat) p,PP[i]? = gh p->jj p (Q i))/\Bz w2.heap.size w2 wr)
  (c:wr.ownsRow w2.heap.size 3 1 u p.length (ix p)) (hp:jj p (Q k)) (f:a.ownsRow w2.heap.size 23 1 v' (k+1) (vs ++ [u])) (hg:wr.grownBy a v.ownBlock):jS w2 v' (k+1) Q a:=by
 obtain⟨h2,l,m,d⟩:=h;have e:∀ g cs,gO wr g 3 cs->v.ownBlock≠gh g:=fun g cs b=>iZ h1 b fy
 refine⟨vs ++ [u],PP ++ [p],f,(h2.grown hg e).push (rO c hg (fun g n=>by
   obtain⟨cur,b⟩:=oD c n
   exact e g cur b)),by simp[l],fun i q hq=>?_,oQ d hg d.size (fun j hj=>(h1.lt j hj).1)⟩
 by_cases hi:i<PP.length
 ·rw[AX hi]at hq;exact m i q hq
 ·rw[AQ fu]at hq
  have o:i - PP.length=0:=by
   have:=(gw hq).1;simp at this;omega
  rw[o]at hq;simp at hq;subst hq;have:i=k:=fu;rw[this];exact hp
theorem cVi(e:ia)(r:gR)(D d:Bx)(w:Bq)(he:iG w D e)(E:jn w d r):Bk fZ 97 #[D,d] w (cQb e r r.K.length (Live r) w):=by
 have HE:=fQ he;have F:=fQ E;obtain⟨va,vb,G,rfl,h1,h2,h3⟩:=he;obtain⟨H,I,d,vs,rfl,h4,h5,h6,h7⟩:=E;clear h1 h2 h3 h4 h5 h6 h7;have g:=fQ (j8 w (fP #[va,fF fN e.G,vb,G,fH e.L] 26) (fP #[H,I,fF fN r.M,d,vs] 89));have J:=fQ (gO.X (w.alloc (fP #[va,fF fN e.G,vb,G,fH e.L] 26)) (N:=w.heap.size+1) 89 #[H,I,fF fN r.M,d,vs] fz);obtain⟨n,hn⟩:=fX r.K.length;rw[hn];have s:=fQ hn;clear hn;go_in;go_wp2_with fail;refine(aJp e r _ _ _ (HE.C g.out (Aq _)) (F.C g.out (Aq _))).mono ?_;rintro K w1 ⟨b,rfl,L,t⟩;have j:=fQ (g.trans (t.mono g.out.size));have M:=fQ L;have l:=fQ (J.C t J.lt);clear t L
 cases b with
 | false=>
  go_wp2;go_ret2;exact fS ⟨(fun h=>by have:=M.2 h;cases this),rfl,j.out⟩
 | true=>
  have a:=fQ (M.1 rfl);obtain⟨P,O⟩:∃ P:Nat,r.M=P:=⟨r.M.toNat,by have:=a.p1;omega⟩;have aA:P<=4096:=(by have:=a.p2;omega);have aG:n<=4096:=(by have:=a.n2;have:=s.out;omega);have aH:0<n:=(by have:=a.n1;have:=s.out;omega);have Q:=fQ O;obtain⟨r0,r1,r2,r3,r4⟩:=gZ l.out;have y1:=l.lt;clear O;go_wp2_with fail;refine(bVg e r _ n P _ (F.C j.out (Aq _)) a.out s.out Q.out).mono ?_;rintro K w2 ⟨vt,gs,T,rfl,y,R,z⟩;have A:=fQ (j.trans (z.mono j.out.size));have HT:=fQ y;have HL:=fQ R;obtain⟨At,ct,rfl⟩:=y.I;have S:=fQ (jS.start w2 (Live r));clear y R z r0 r1 r2 r3 r4 y1;go_wp2;go_loopw [7,8] (fun v i wr=>∃ k:Nat,k<=n/\i = fF fN k/\Hid (jS w2 v k (Live r) wr)) (fun _ i _=>n - (intOf i).toNat)
  case atStart=>exact⟨0,fu,rfl,S⟩
  case round=>
   clear S;obtain⟨k,hk,rfl,c⟩:=hrel;obtain⟨Av,cv,hv⟩:=c.out.I;subst hv;by_cases U:k<n
   ·have t2:(k:Int)<n:=fu;obtain⟨b,o,C,kC,rfl,hb,hc,hs⟩:=(HT.C c.out.C).tb.row U;have HS:=fQ hs;clear hs;go_wp2_with fail;refine(aWh _ P _ (T k) _ HS.out aA).mono ?_;rintro K w3 ⟨u,p,rfl,m,aB,V,W⟩;have aC:=fQ (show jj p (Live r k)from aWg (e:=e) (r:=r) V (fun q hq=>HL.out k q U hq) (fun x hx=>by have:=hx.range a.out;rw[Q.out]at this;exact this));have B:=fQ (c.out.keep W);have X:=fQ (iQ m c.out.C.size);obtain⟨q,hq⟩:=fX p.length;obtain⟨f,c1,e1,_⟩:=fJ m;subst e1;rw[hq]at m X aB ⊢;have HQ:=fQ hq;have aD:=fQ (lJ X.out (fP #[fG f q c1] 23));have Y:=fQ (B.keep ((Ak _ _).alloc (Aq _) (fP #[fG f q c1] 23)));have hz:=B.C.size;obtain⟨vs,PP,Z,ay⟩:=Y.open;have az:=fQ Z;have aE:=fQ ay;clear m V W hq Z ay Y B;go_wp2_with (at_builtin;refine nQ _ rfl (.tmp 21) (.tmp 27) 114 rfl w2.heap.size 23 (fG fU 0 0) 1 24 underlying114 r8 rfl fu (.slice Av k cv) k vs rfl az.out (gh ⟨w3.heap.size,0,fU⟩) 1 1 [fG f q c1] rfl (gO.kE (cs:=#[fG f q c1]) (gO.X _ _ _ rfl) rfl) (tf _ _ _) (by unfold maxLen;omega) fu fw ?_);rintro v' w' g1 g2 g3 _;have aF:=fQ (jS.fYc (u:=fG f q c1) (p:=p) az.out aE.out (by rw[HQ.out];exact aD.out) aC.out g1 g2);clear g1 g2 g3;go_wp2;exact⟨⟨k+1,fu,fz,aF⟩,fB⟩
   ·have t1:decide ((k:Int)<n)=gm:=fw;have ak:k=n:=fu;subst ak;go_wp2;go_ret2;exact fT ⟨a.out,_,rfl,c.out.told.mono A.out.size,A.trans (c.out.C.mono A.out.size)⟩
theorem bXo(e:ia)(r:gR)(L g:Bx)(w:Bq)(he:iG w L e)(M:jn w g r):Bk fZ 95 #[L,g] w (cQb e r r.K.length (jI r) w):=by
 have HE:=fQ he;have z:=fQ M;obtain⟨va,vb,O,rfl,h1,h2,h3⟩:=he;obtain⟨Q,R,g,vs,rfl,h4,h5,h6,h7⟩:=M;clear h1 h2 h3 h4 h5 h6 h7;have m:=fQ (j8 w (fP #[va,fF fN e.G,vb,O,fH e.L] 26) (fP #[Q,R,fF fN r.M,g,vs] 89));have S:=fQ (gO.X (w.alloc (fP #[va,fF fN e.G,vb,O,fH e.L] 26)) (N:=w.heap.size+1) 89 #[Q,R,fF fN r.M,g,vs] fz);obtain⟨n,hn⟩:=fX r.K.length;rw[hn];have f:=fQ hn;clear hn;go_in;go_wp2_with fail;refine(aJp e r _ _ _ (HE.C m.out (Aq _)) (z.C m.out (Aq _))).mono ?_;rintro A w1 ⟨b,rfl,U,B⟩;have o:=fQ (m.trans (B.mono m.out.size));have V:=fQ U;have s:=fQ (S.C B S.lt);clear B U
 cases b with
 | false=>
  go_wp2;go_ret2;exact fS ⟨(fun h=>by have:=V.2 h;cases this),rfl,o.out⟩
 | true=>
  have a:=fQ (V.1 rfl);obtain⟨P,W⟩:∃ P:Nat,r.M=P:=⟨r.M.toNat,by have:=a.p1;omega⟩;have X:P<=4096:=(by have:=a.p2;omega);have aO:n<=4096:=(by have:=a.n2;have:=f.out;omega);have aP:0<n:=(by have:=a.n1;have:=f.out;omega);have C:=fQ W;obtain⟨D,E,F,G,H⟩:=gZ s.out;have y1:=s.lt;clear W;go_wp2_with fail;refine(bVg e r _ n P _ (z.C o.out (Aq _)) a.out f.out C.out).mono ?_;rintro A w2 ⟨vt,gs,T,rfl,I,Y,J⟩;have j:=fQ (o.trans (J.mono o.out.size));have HT:=fQ I;have HL:=fQ Y;have t:=fQ (s.C J s.lt);obtain⟨At,ct,rfl⟩:=I.I;have Z:=fQ (jS.start w2 (jI r));clear I Y J D E F G H y1;go_wp2;go_loopw [7,8] (fun v i wr=>∃ k:Nat,k<=n/\i = fF fN k/\Hid (jS w2 v k (jI r) wr)) (fun _ i _=>n - (intOf i).toNat)
  case atStart=>exact⟨0,fu,rfl,Z⟩
  case round=>
   clear Z;obtain⟨k,hk,rfl,d⟩:=hrel;obtain⟨Av,cv,hv⟩:=d.out.I;subst hv;by_cases aF:k<n
   ·have t2:(k:Int)<n:=fu;obtain⟨c,hc⟩:∃ c,r.K[k]? = gh c:=⟨_,Aj (by rw[f.out];exact aF)⟩;have aw:=fQ hc;clear hc;obtain⟨D,E,F,G,H⟩:=gZ (t.C d.out.C t.lt);have y1:=(t.C d.out.C t.lt).lt;have aG:=fQ (j.trans (d.out.C.mono j.out.size));go_wp2_with fail;refine(bJd r _ _ k n P c T _ (z.C aG.out (Aq _)) (HT.C d.out.C).tb aw.out f.out C.out X a.sa).mono ?_;rintro A w4 ⟨gl,rfl,aH,ax,ay⟩;have az:=fQ (d.out.keep ay);have aI:=fQ ax.src;clear aH ax ay d D E F G H y1;go_wp2_with fail;refine(aWh _ P _ (bh (ib c k) T) _ aI.out X).mono ?_;rintro A w3 ⟨u,p,rfl,y,aJ,ad,aA⟩;have aK:=fQ (show jj p (jI r k)from aWg (e:=e) (r:=r) ad (fun q hq=>eVk a.out (by rw[f.out];exact HL.out) aw.out hq) (fun x hx=>by have:=hx.range a.out;rw[C.out]at this;exact this));have K:=fQ (az.keep aA);have HO:=fQ (iQ y az.C.size);obtain⟨q,hq⟩:=fX p.length;obtain⟨l,c1,e1,_⟩:=fJ y;subst e1;rw[hq]at y HO aJ ⊢;have HQ:=fQ hq;have aL:=fQ (lJ HO.out (fP #[fG l q c1] 23));have aB:=fQ (K.keep ((Ak _ _).alloc (Aq _) (fP #[fG l q c1] 23)));have hz:=K.C.size;obtain⟨vs,PP,aC,aD⟩:=aB.open;have aE:=fQ aC;have aM:=fQ aD;clear y ad aA hq aC aD aB K;go_wp2_with (at_builtin;refine nQ _ rfl (.tmp 21) (.tmp 27) 114 rfl w2.heap.size 23 (fG fU 0 0) 1 24 underlying114 r8 rfl fu (.slice Av k cv) k vs rfl aE.out (gh ⟨w3.heap.size,0,fU⟩) 1 1 [fG l q c1] rfl (gO.kE (cs:=#[fG l q c1]) (gO.X _ _ _ rfl) rfl) (tf _ _ _) (by unfold maxLen;omega) fu fw ?_);rintro v' w' g1 g2 g3 _;have aN:=fQ (jS.fYc (u:=fG l q c1) (p:=p) aE.out aM.out (by rw[HQ.out];exact aL.out) aK.out g1 g2);clear g1 g2 g3;go_wp2;exact⟨⟨k+1,fu,fz,aN⟩,fB⟩
   ·have t1:decide ((k:Int)<n)=gm:=fw;have al:k=n:=fu;subst al;go_wp2;go_ret2;exact fT ⟨a.out,_,rfl,d.out.told.mono j.out.size,j.trans (d.out.C.mono j.out.size)⟩
theorem bYz{size:Nat}{e:TypeId}{a:List Bx}(h:w.ownsRow base e size v n a)(b:iT S w w')(c:∀ g,v.ownBlock=gh g->g ∉ S):w'.ownsRow base e size v n a:=by
 refine⟨h.1,?_⟩;rcases h.2 with h2|⟨g,cap,cur,rfl,h2,d,r⟩
 ·exact fS h2
 ·exact fT ⟨g,cap,cur,rfl,h2,cQc (show gO w g e cur from d) b (c g rfl),r⟩
theorem iT.drewN(S:List Nat)(w:Bq)(n:Nat):iT S w (w.drewN n):=⟨Aq _,fun _ _ _=>rfl⟩
theorem aZb(u:Bx)(hg:g∈S):iT S w (w.setCell ⟨g,i,fU⟩ u):=iT.grown (uY w g i u) hg
theorem Told.kept{Q:Nat->Int->Prop}(h:Told w base v n Q)(a:iT S w w')(d:∀ g∈S,∃ cs,gO w g 4 cs):Told w' base v n Q:=by
 obtain⟨vs,P,h1,h2,f,j⟩:=h
 have no:∀ {e:TypeId} {base n:Nat} {v:Bx} {b:List Bx},w.ownsRow base e 1 v n b->e≠4->∀ g,v.ownBlock=gh g->g ∉ S:=by
  intro e base n v b k he g hg l;obtain⟨cs,m⟩:=d g l;exact iZ k m he hg
 exact⟨vs,P,bYz h1 a (no h1 fy),⟨h2.1,fun i u p q1 c=>bYz (h2.2 i u p q1 c) a (no (h2.2 i u p q1 c) fy)⟩,f,j⟩
theorem Told.first{c:Nat}{Q:Nat->Int->Prop}{p:List Int}(h:Told w base (fG A n c) n Q)(hn:i<n)(hp:jj p (Q i)):∃ b o B k,A=gh ⟨b,o,fU⟩/\b<w.heap.size/\w.cell? ⟨b,o+i,fU⟩=gh (fG B p.length k)/\IR w (fG B p.length k) p:=by
 obtain⟨P,a,hlen,hs⟩:=h.lists;obtain⟨q,hq⟩:∃ q,P[i]? = gh q:=⟨_,Aj fu⟩;have e:=jj.one (hs i q hq) hp;subst e;exact a.at hq
theorem Told.get{Q:Nat->Int->Prop}(h:Told w base v n Q)(hn:i<n):∃ p,jj p (Q i):=by
 obtain⟨P,hl,hlen,hs⟩:=h.lists;exact⟨_,hs i _ (Aj fu)⟩
theorem Told.I{Q:Nat->Int->Prop}(h:Told w base v n Q):∃ A c,v = fG A n c:=by
 obtain⟨vs,P,h1,_⟩:=h;obtain⟨A,c,e,_⟩:=fJ h1;exact⟨A,c,e⟩
structure KM (w1 w:Bq) (gC:Nat) (v:Bx) (n P:Nat) (T:Nat->Nat->Bool) (gs:List Nat):Prop where
 t:TM w w1.heap.size v n P T gs
 c:gO w gC 149 #[v]
 lo:w1.heap.size<=gC
 b:Bz w1.heap.size w1 w
section
variable {w1 w w':Bq} {gC n P:Nat} {v:Bx} {T:Nat->Nat->Bool} {gs:List Nat}
theorem KM.keep(h:KM w1 w gC v n P T gs)(a:Bz w.heap.size w w'):KM w1 w' gC v n P T gs:=⟨h.t.C a,h.c.C a h.c.lt,h.lo,h.b.trans (a.mono h.b.size)⟩
theorem KM.alloc(h:KM w1 w gC v n P T gs)(o:Obj):KM w1 (w.alloc o) gC v n P T gs:=h.keep ((Ak _ _).alloc (Aq _) _)
theorem KM.drewN(h:KM w1 w gC v n P T gs)(k:Nat):KM w1 (w.drewN k) gC v n P T gs:=⟨h.t.drewN k,h.c,h.lo,fK h.b k⟩
theorem KM.congr{T':Nat->Nat->Bool}(h:KM w1 w gC v n P T gs)(he:∀ i p,i<n->p<P->T i p=T' i p):KM w1 w gC v n P T' gs:=⟨h.t.congr he,h.c,h.lo,h.b⟩
theorem KM.pR(h:KM w1 w gC v n P T gs):∀ g∈gs,∃ cs,gO w g 4 cs:=fun g hg=>by
 obtain⟨i,hi⟩:=List.mem_iff_getElem?.1 hg;exact⟨_,(h.t.rows i g hi).2⟩
theorem KM.set{b:Bool}(h:KM w1 w gC v n P T gs)(hg:gs[i]? = gh g):KM w1 (w.setCell ⟨g,p,fU⟩ (fH b)) gC v n P (upd T i (fun q=>if q=p then b else T i q)) gs:=by
 have a:=h.t.rows i g hg;refine⟨h.t.setAt hg,tW h.c (fun e=>?_),h.lo,h.b.setCell (p:=⟨g,p,fU⟩) a.1 _⟩;have d:=h.c;rw[e]at d;exact gH (pK d (show gO w g 4 _ from a.2) fy) (fun h=>h rfl)
end
def RK(r:gR)(P:Nat)(ku:j7)(w1:Bq)(gC:Nat)(v:Bx)(gs:List Nat)(w:Bq):Prop:=∃ T,KM w1 w gC v P P T gs/\RS r P ku T
section
variable {r:gR} {P gC:Nat} {ku jT:j7} {w1 w w':Bq} {v:Bx} {gs:List Nat}
theorem RK.ng(h:RK r P ku w1 gC v gs w)(hq:∀ x y,jT x y->ku x y):RK r P jT w1 gC v gs w:=by
 obtain⟨T,h1,h2⟩:=h;exact⟨T,h1,h2.ng hq⟩
theorem RK.keep(h:RK r P ku w1 gC v gs w)(a:Bz w.heap.size w w'):RK r P ku w1 gC v gs w':=by
 obtain⟨T,h1,h2⟩:=h;exact⟨T,h1.keep a,h2⟩
theorem RK.drewN(h:RK r P ku w1 gC v gs w)(k:Nat):RK r P ku w1 gC v gs (w.drewN k):=by
 obtain⟨T,h1,h2⟩:=h;exact⟨T,h1.drewN k,h2⟩
theorem RK.bel(h:RK r P ku w1 gC v gs w):Bz w1.heap.size w1 w:=by
 obtain⟨T,h1,h2⟩:=h;exact h1.b
theorem RK.pR(h:RK r P ku w1 gC v gs w):∀ g∈gs,∃ cs,gO w g 4 cs:=by
 obtain⟨T,h1,h2⟩:=h;exact h1.pR
end
def dXs(w1:Bq)(gC:Nat)(v:Bx)(P:Nat)(T:Nat->Nat->Bool)(gs:List Nat)(a b:Nat)(w:Bq)(c:Ending)(w':Bq):Prop:=c = fR (fI #[])/\KM w1 w' gC v P P (oi T a b) gs/\iT gs w w'
theorem eKz(w1:Bq)(gC:Nat)(v:Bx)(P:Nat)(T:Nat->Nat->Bool)(gs:List Nat)(a b:Nat)(w:Bq)(h:KM w1 w gC v P P T gs)(ha:a<P)(o:b<P):Bk fZ 96 #[.pointer (gh ⟨gC,0,fU⟩),fF fN (a:Int),fF fN (b:Int)] w (dXs w1 gC v P T gs a b w):=by
 by_cases l:a=b
 ·subst l;have A:=fQ (show dXs w1 gC v P T gs a a w (fR (fI #[])) w from⟨rfl,by rw[bVf];exact h,iT.refl _ _⟩);clear h;go_in;go_wp2;go_end0;exact A.out
 ·have z:((a:Int) != (b:Int))=gj:=fw;obtain⟨q,c,rfl,h1,h2,B,n,C⟩:=h.t.at_ fu;obtain⟨d,f⟩:∃ g,gs[a]? = gh g:=⟨_,Aj (by rw[h.t.len];exact ha)⟩;obtain⟨j,k⟩:∃ g,gs[b]? = gh g:=⟨_,Aj (by rw[h.t.len];exact o)⟩;have D:=h.c.cell 0;simp at D;have c1:=n a d f;have c2:=n b j k;have m:=(h.t.rows a d f).2;have rb:=(h.t.rows b j k).2;have z1:=ik m b;have z2:=ik rb a;have n1:d≠j:=fun e=>l (bYu h.t.nd f (e ▸ k));have n2:j≠d:=fun e=>n1 e.symm;have ca:=m.cell o;have cb:=rb.cell ha;have t2:(a:Int)<P:=fu;have t3:(b:Int)<P:=fu;have r:=fQ (cKa (T:=T) l)
  have s:=fQ (show KM w1 ((w.setCell ⟨d,b,fU⟩ (fH gj)).setCell ⟨j,a,fU⟩ (fH gj)) gC (fG (gh ⟨q,0,fU⟩) P c) P P (oi T a b) gs by
   rw[r.out];refine((h.set (p:=b) (b:=gj) f).set (p:=a) (b:=gj) k).congr fun i p _ _=>?_;unfold upd
   by_cases e:i=b <;> by_cases e2:i=a <;> by_cases E:p=a <;> by_cases F:p=b <;> simp_all)
  have u:=fQ (show KM w1 ((w.setCell ⟨j,a,fU⟩ (fH gj)).setCell ⟨d,b,fU⟩ (fH gj)) gC (fG (gh ⟨q,0,fU⟩) P c) P P (oi T a b) gs by
   rw[r.out];refine((h.set (p:=a) (b:=gj) k).set (p:=b) (b:=gj) f).congr fun i p _ _=>?_;unfold upd
   by_cases e:i=b <;> by_cases e2:i=a <;> by_cases E:p=a <;> by_cases F:p=b <;> simp_all)
  have x:=fQ (((aZb (w:=w) (S:=gs) (g:=d) (i:=b) (fH gj) (Ax f)).trans (aZb (g:=j) (i:=a) (fH gj) (Ax k))));clear h h1 B n C f k m rb l;go_in;go_wp2_with fail;go_region
  all_goals
   go_wp2;go_end0
   first
    | exact⟨rfl,s.drewN _,x.trans (iT.drewN _ _ _)⟩
    | exact⟨rfl,u.drewN _,y.trans (iT.drewN _ _ _)⟩
    | exact⟨rfl,s.drewN 1,x.trans (iT.drewN _ _ 1)⟩
    | exact⟨rfl,u.drewN 1,y.trans (iT.drewN _ _ 1)⟩
def fQs(r:gR)(P:Nat)(ku:j7)(w1:Bq)(gC:Nat)(v:Bx)(gs:List Nat)(a b:Nat)(w:Bq)(c:Ending)(w':Bq):Prop:=
 c = fR (fI #[])/\(∀ jT:j7,(∀ x y,jT x y->ku x y\/(x=(a:Int)/\y=(b:Int)))->RK r P jT w1 gC v gs w')/\iT gs w w'
theorem tg(r:gR)(P:Nat)(ku:j7)(w1:Bq)(gC:Nat)(v:Bx)(gs:List Nat)(a b:Nat)(w:Bq)(h:RK r P ku w1 gC v gs w)(ha:a<P)(c:b<P)(hs:kT r a b):
  Bk fZ 96 #[.pointer (gh ⟨gC,0,fU⟩),fF fN (a:Int),fF fN (b:Int)] w (fQs r P ku w1 gC v gs a b w):=by
 obtain⟨T,h1,h2⟩:=h;exact(eKz w1 gC v P T gs a b w h1 ha c).mono fun en w' ⟨e,d,f⟩=>⟨e,fun jT hq=>⟨_,d,h2.put hs hq⟩,f⟩
structure AS (r:gR) (P k:Nat) (l:List Int) (n:Nat) (f:Nat->Bool):Prop where
 snd:∀ p:Nat,p<P->f p=gj->jm r p
 req:∀ (i:Nat) c (p:Nat),i<k->r.K[i]? = gh c->c.op=16->p<P->jI r i p->(p:Int) ∉ c.O->f p=gj
 now:∀ c (p:Nat),r.K[k]? = gh c->c.op=16->p<P->(p:Int)∈l.take n->(p:Int) ∉ c.O->f p=gj
theorem AS.start(r:gR)(P:Nat)(l:List Int):AS r P 0 l 0 (fun _=>gm):=⟨fun p _ h=>(by cases h),fun i c p h=>fu,fun c p _ _ _ h=>by simp at h⟩
theorem AS.a6{r:gR}{l':List Int}{f:Nat->Bool}(h:AS r P k l n f):AS r P k l' 0 f:=⟨h.snd,h.req,fun c p _ _ _ h=>by simp at h⟩
theorem AS.next{r:gR}{l':List Int}{f:Nat->Bool}(h:AS r P k l n f)(d:∀ c,r.K[k]? = gh c->c.op=16->(∀ x,x∈l↔jI r k x)/\l.length<=n):AS r P (k+1) l' 0 f:=
 ⟨h.snd,fun i c p hi hc a hp b hn=>by
  by_cases e:i=k
  ·subst e;have h2:=d c hc a;exact h.now c p hc a hp ((pO h2.2).2 ((h2.1 p).2 b)) hn
  ·exact h.req i c p fu hc a hp b hn,fun c p _ _ _ h=>by simp at h⟩
theorem AS.skip{r:gR}{f:Nat->Bool}{c:gP}{z:Int}(h:AS r P k l n f)(hc:r.K[k]? = gh c)(b:l[n]? = gh z)(d:z∈c.O):AS r P k l (n+1) f:=
 ⟨h.snd,h.req,fun c' p a e hp g hn=>by
  rw[hc]at a;injection a with a;subst a;rcases(sQ b).1 g with h1|h1
  ·exact h.now c p hc e hp h1 hn
  ·rw[h1]at hn;exact gH d hn⟩
theorem AS.put{r:gR}{f:Nat->Bool}{c:gP}{z:Nat}(h:AS r P k l n f)(hc:r.K[k]? = gh c)(d:c.op=16)(g:l[n]? = gh (z:Int))(j:(z:Int) ∉ c.O)(m:jI r k z):AS r P k l (n+1) (fun q=>if q=z then gj else f q):=
 ⟨fun p hp hf=>by
  by_cases e:p=z
  ·subst e;exact⟨k,c,hc,d,m,j⟩
  ·rw[gy e]at hf;exact h.snd p hp hf,fun i a p hi b o hp s hn=>by
   have:=h.req i a p hi b o hp s hn
   rw[this];simp,fun a p b t hp u hn=>by
  rcases(sQ g).1 u with h1|h1
  ·have:=h.now a p b t hp h1 hn;rw[this];simp
  ·have:p=z:=by omega
   simp[this]⟩
theorem AS.done{e:ia}{r:gR}{f:Nat->Bool}(h:AS r P r.K.length l n f)(hp:p<P):f p=gj↔jm r p:=
 ⟨h.snd p hp,fun⟨i,c,hc,a,b,hn⟩=>h.req i c p (gw hc).1 hc a hp b hn⟩
theorem jm.range{e:ia}{r:gR}(hc:iq e r){x:Int}(h:jm r x):0<=x/\x<r.M:=by
 obtain⟨i,c,h1,h2,a,h4⟩:=h;exact a.range hc
structure om (w w1:Bq) (gl P:Nat) (f:Nat->Bool) (wi:Bq):Prop where
 l:RB 4 wi gl P f
 lo:w1.heap.size<=gl
 b:Bz w1.heap.size w1 wi
theorem om.set{w w1 wi:Bq}{gl P:Nat}{f:Nat->Bool}(h:om w w1 gl P f wi)(p:Nat):om w w1 gl P (fun q=>if q=p then gj else f q) (wi.setCell ⟨gl,p,fU⟩ (fH gj)):=
 ⟨h.l.set p gj,h.lo,h.b.setCell (p:=⟨gl,p,fU⟩) h.lo _⟩
theorem om.drewN{w w1 wi:Bq}{gl P:Nat}{f:Nat->Bool}(h:om w w1 gl P f wi)(k:Nat):om w w1 gl P f (wi.drewN k):=⟨h.l,h.lo,fK h.b k⟩
def eVa(e:ia)(r:gR)(w:Bq)(a:Ending)(w':Bq):Prop:=
 (¬iq e r/\a = fR (fI #[fG fU 0 0,fF fN 6])/\Bz w.heap.size w w') \/
 (iq e r/\∃ v p,a = fR (fI #[v,fF fN 0])/\w'.ownsRow w.heap.size 3 1 v p.length (ix p)/\p.length<=4096/\jj p (jm r)/\Bz w.heap.size w w')
theorem eKi{b:Bool}(hs:IR w v l)(a:l.length<=9223372036854775806)(c:decide (x∈l)=b):
  Bk fZ 99 #[v,fF fN x] w fun e w'=>e = fR (fH b)/\w'=w:=by
 subst c;exact(eVe v l x w hs a).mono fun _ _ h=>⟨h.1,h.2.symm⟩
theorem cZk(e:ia)(r:gR)(ve y:Bx)(w:Bq)(he:iG w ve e)(hr:jn w y r):Bk fZ 65 #[ve,y] w (eVa e r w):=by
 have HE:=fQ he;obtain⟨va,vb,vd,rfl,h1,h2,h3⟩:=he;obtain⟨L,M,y,vs,rfl,h4,h5,h6,O⟩:=hr;obtain⟨Y,Z,rfl,_⟩:=O.len;have H7:=fQ O;have ay:=fQ (show jn w (fM #[L,M,fF fN r.M,y,fG Y r.K.length Z]) r from⟨L,M,y,_,rfl,h4,h5,h6,O⟩);obtain⟨n,hn⟩:=fX r.K.length;rw[hn]at ay ⊢;have Q:=fQ hn;clear h1 h2 h3 h4 h5 h6 O hn;have D:=fQ (j8 w (fP #[va,fF fN e.G,vb,vd,fH e.L] 26) (fP #[L,M,fF fN r.M,y,fG Y n Z] 89));have az:=fQ (gO.X (w.alloc (fP #[va,fF fN e.G,vb,vd,fH e.L] 26)) (N:=w.heap.size+1) 89 #[L,M,fF fN r.M,y,fG Y n Z] fz);go_in;go_wp2_with fail;refine(bXo e r _ _ _ (HE.C D.out (Aq _)) (ay.C D.out (Aq _))).mono ?_;rintro en w1 (⟨aA,rfl,A⟩|⟨hc,v,rfl,R,A⟩)
 ·have E:=fQ (D.trans (A.mono D.out.size));have aH:=fQ aA;clear aA A;go_wp2;go_ret2;exact fS ⟨aH.out,rfl,E.out⟩
 ·have E:=fQ (D.trans (A.mono D.out.size));have H:=fQ hc;have I:=az.C A az.lt;obtain⟨P,hP⟩:∃ P:Nat,r.M=P:=⟨r.M.toNat,by have:=hc.p1;omega⟩;rw[hP]at I;have aI:P<=4096:=(by have:=hc.p2;omega);have aU:n<=4096:=(by have:=hc.n2;have:=Q.out;omega);have HP:=fQ hP;rw[Q.out]at R;have HT:=fQ R;obtain⟨Av,cv,rfl⟩:=R.I;have F:=fQ I;obtain⟨S,T,U,V,W⟩:=gZ I;have y1:=I.lt;have mk:=nL (P:=fZ) 24 4 (fH gm) 1 underlying24 s9 rfl P fu fu;clear A hc R hP I S T V W;go_wp2;have aB:=fQ (show om w w1 w1.heap.size P (fun _=>gm) (w1.alloc (fP (Az P (fH gm)) 4))from⟨RB.a4 (t:=4) w1 (n:=P) gm rfl,Aq _,(Ak _ _).alloc (Aq _) _⟩);clear mk U y1;go_loopw [9] (fun i wi=>∃ (k:Nat) (f:Nat->Bool),k<=n/\i = fF fN k/\Hid (om w w1 w1.heap.size P f wi)/\Hid (AS r P k [] 0 f)) (fun i _=>n - (intOf i).toNat)
  case atStart=>exact⟨0,_,fu,rfl,aB,fQ (AS.start r P _)⟩
  case round=>
   clear aB;obtain⟨k,f,hk,rfl,IM,a⟩:=hrel;obtain⟨S,T,U,V,W⟩:=gZ (F.C IM.out.b F.lt);have y1:=(F.C IM.out.b F.lt).lt;by_cases ai:k<n
   ·have t2:(k:Int)<n:=fu;obtain⟨c,hc⟩:∃ c,r.K[k]? = gh c:=⟨_,Aj (by rw[Q.out];exact ai)⟩;have aj:=fQ hc;obtain⟨gb,go,aV,aW,aX,rfl,aC,g0,g1,g2,X,g4,s0,s1,s2,s3⟩:=H7.K hc;obtain⟨qA,qc,rfl⟩:=s2.I;have ak:=fQ s2.ir;obtain⟨mo,al⟩:∃ m,c.O.length=m:=⟨_,rfl⟩;obtain⟨_,_,_,_,aJ⟩:=s2.len;rw[al]at ak X aJ;have aD:=fQ al;have G0:=fQ g0;have G3:=fQ X;obtain⟨p,hp⟩:=HT.out.get ai;have an:=fQ hp;have aK:=hp.small H.out (fun x s=>s.range H.out);obtain⟨m,hm⟩:=fX p.length;rw[hm]at aK;have HM:=fQ hm;have aE:=fQ (a.out.a6 (l':=p));clear hc al g0 g1 g2 X g4 s0 s1 s2 s3 hp hm a;go_wp2_with fail;clear S T U V W y1;go_loopw [10] (fun i wi=>∃ (j:Nat) (f:Nat->Bool),j<=m/\i = fF fN j/\Hid (om w w1 w1.heap.size P f wi)/\Hid (AS r P k p j f)) (fun i _=>m - (intOf i).toNat)
    case atStart=>exact⟨0,f,fu,rfl,IM,aE⟩
    case round=>
     clear aE IM;obtain⟨j,f,hj,rfl,IM,a⟩:=hrel;have aq:=F.C IM.out.b F.lt;obtain⟨S,T,U,V,W⟩:=gZ aq;have y1:=aq.lt;have d:=fQ (E.trans (IM.out.b.mono E.out.size));have g0:=(d.cell (p:=⟨gb,_,fU⟩) aC).trans G0.out;have X:=(d.cell (p:=⟨gb,_,fU⟩) aC).trans G3.out;obtain⟨b,o,B,kB,rfl,A,aL,ar⟩:=(HT.C IM.out.b).first ai an.out;rw[HM.out]at aL ar;have aM:=fQ ar;clear ar aq;by_cases aN:j<m
     ·have t4:(j:Int)<m:=fu;obtain⟨x,s⟩:∃ x,p[j]? = gh x:=⟨_,Aj (by rw[HM.out];exact aN)⟩;have au:=(an.2 x).1 (Ax s);have aw:=au.range H.out;rw[HP.out]at aw;obtain⟨z,rfl⟩:∃ z:Nat,x=z:=⟨x.toNat,fu⟩;have aY:(z:Int)<P:=aw.2;obtain⟨ab,ao,rfl,aZ,a1⟩:=aM.cell s;have z3:=ik IM.out.l z;obtain⟨u3,c3⟩:∃ u,wr.cell? ⟨w1.heap.size,z,fU⟩=gh u:=⟨_,IM.out.l.cell fu⟩;have HX:=fQ s;have aO:=fQ au;clear s au aw;by_cases G:c.op=16
      ·have t5:(c.op == 16)=gj:=(by simp[G]);have aP:=fQ G;clear G;by_cases g:(z:Int)∈c.O
       ·have C:=fQ (a.out.skip aj.out HX.out g);have J:=fQ (gD g);clear g a;go_wp2_with fail;go_quiet ((go_at_call 99;exact Calls.quiet_of_same (eKi ((ak.C d.out (Aq _)).drewN _) (by rw[aD.out];omega) J.out)));go_wp2;exact⟨⟨j+1,f,fu,fz,fQ (IM.out.drewN _),C⟩,fB⟩
       ·have C:=fQ (a.out.put aj.out aP.out HX.out g aO.out);have J:=fQ (gE g);clear g a;go_wp2_with fail;go_quiet ((go_at_call 99;exact Calls.quiet_of_same (eKi ((ak.C d.out (Aq _)).drewN _) (by rw[aD.out];omega) J.out)));go_wp2;exact⟨⟨j+1,_,fu,fz,fQ ((IM.out.drewN _).set z),C⟩,fB⟩
      ·have t5:(c.op == 16)=gm:=(by simp[G]);have C:=fQ (a.out.next (l':=[]) (fun c' K aF=>by rw[aj.out]at K;injection K with K;subst K;exact gH aF G));clear G a;go_wp2;exact⟨⟨k+1,f,fu,fz,IM,C⟩,fB⟩
     ·have C:=fQ (a.out.next (l':=[]) (fun c' K aF=>⟨an.2,by rw[HM.out];omega⟩));clear a;go_wp2;exact⟨⟨k+1,f,fu,fz,IM,C⟩,fB⟩
   ·have t1:decide ((k:Int)<n)=gm:=fw;have ax:k=n:=fu;subst ax;have aQ:=fQ IM.out.l.src;have d:=fQ (E.trans (IM.out.b.mono E.out.size));go_wp2_with fail;refine(aWh _ P _ f _ aQ.out aI).mono ?_;rintro en w3 ⟨u,q,rfl,g,aR,ah,aG⟩;have J:=fQ (iQ g d.out.size);have HQ:=fQ (show q.length<=4096 by omega)
    have aS:=fQ (show jj q (jm r)from aWg (e:=e) (r:=r) ah (fun z hz=>by
     have h:=a.out;rw[<-Q.out]at h
     exact h.done (e:=e) hz) (fun x s=>by have:=s.range H.out;rw[HP.out]at this;exact this))
    have aT:=fQ (d.trans (aG.mono d.out.size));clear g aR ah aG;go_wp2;go_ret2;exact fT ⟨H.out,u,q,rfl,J.out,HQ.out,aS.out,aT.out⟩
theorem aXe{r:Option Nat}(h:w.drew.grownBy w' r):w.grownBy w' r:=⟨h.os,h.tape,h.output,h.size,h.block⟩
theorem KM.push{w1 w w':Bq}{gC k P d cap:Nat}{v:Bx}{gs:List Nat}(h:KM w1 w gC v k P (fun _ _=>gm) gs)
  (m:w'.ownsRow w1.heap.size 24 1 (fG (gh ⟨d,0,fU⟩) (k+1) cap) (k+1) (jR gs P ++ [fG (gh ⟨w.heap.size,0,fU⟩) P P]))
  (hg:((w.alloc (fP (Az P (fH gm)) 4)).alloc (fP #[fG (gh ⟨w.heap.size,0,fU⟩) P P] 24)).grownBy w' v.ownBlock) :
  KM w1 (w'.setCell ⟨gC,0,fU⟩ (fG (gh ⟨d,0,fU⟩) (k+1) cap)) gC (fG (gh ⟨d,0,fU⟩) (k+1) cap) (k+1) P (fun _ _=>gm) (gs ++ [w.heap.size]):=by
 have h2:=(h.alloc (fP (Az P (fH gm)) 4)).alloc (fP #[fG (gh ⟨w.heap.size,0,fU⟩) P P] 24);have o:=h2.t.push (g:=w.heap.size) (f:=fun _=>gm) (gO.alloc (RB.a4 (t:=4) w (n:=P) gm rfl) _) h.b.size (fun x q=>by have:=h.t.lt_ x q;omega) m hg;have hc:=h2.c.grown hg (iZ h2.t.own h2.c fy)
 have a:=o.congr (T':=fun _ _=>gm) (fun i p _ _=>by
  by_cases e:i=k
  ·subst e;rw[vX]
  ·rw[tY e])
 refine⟨⟨iW a.own (iZ a.own hc fy),a.len,a.nd,fun i g l=>⟨(a.rows i g l).1,tW (a.rows i g l).2 (pK (show gO w' g 4 _ from(a.rows i g l).2) hc fy)⟩⟩,?_,h.lo,?_⟩
 ·have:=fY hc 0 (fG (gh ⟨d,0,fU⟩) (k+1) cap)
  simpa using this
 ·exact(oQ h2.b hg h2.b.size (fun j hj=>(h2.t.own.lt j hj).1)).setCell (p:=⟨gC,0,fU⟩) h.lo _
theorem KM.drew'{w1:Bq}{gC:Nat}{T:Nat->Nat->Bool}(h:KM w1 w gC v n P T gs):KM w1 w.drew gC v n P T gs:=⟨h.t.drew,h.c,h.lo,⟨h.b.os,h.b.tape,h.b.output,h.b.size,h.b.block⟩⟩
theorem RK.drew'{r:gR}{P gC:Nat}{ku:j7}{w1 w:Bq}{v:Bx}{gs:List Nat}(h:RK r P ku w1 gC v gs w):RK r P ku w1 gC v gs w.drew:=by
 obtain⟨T,h1,h2⟩:=h;exact⟨T,h1.drew',h2⟩
theorem RK.drewN'{r:gR}{gC:Nat}{ku:j7}{w1:Bq}(h:RK r P ku w1 gC v gs w)(n:Nat):RK r P ku w1 gC v gs (w.drewN n):=by
 induction n with
 | zero=>exact h
 | succ n a=>
  have:=a.drew';exact this
theorem Told.drew'{Q:Nat->Int->Prop}(h:Told w base v n Q):Told w.drew base v n Q:=by
 obtain⟨vs,P,h1,h2,a,b⟩:=h;exact⟨vs,P,h1,⟨h2.1,h2.2⟩,a,b⟩
theorem dXt{e:TypeId}{size:Nat}{a:List Bx}(h:w.ownsRow base e size v n a):w.drew.ownsRow base e size v n a:=h
theorem bZe{cs:Array Bx}(h:gO w g t cs)(a:iT S w w')(b:∀ g∈S,∃ cs,gO w g 4 cs)(c:t≠4):gO w' g t cs:=
 cQc h a (fun d=>by
  obtain⟨ad,e⟩:=b g d
  exact pK h e c rfl)
theorem cVj(e:ia)(r:gR)(ve vr:Bx)(w:Bq)(he:iG w ve e)(hr:jn w vr r):Bk fZ 64 #[ve,vr] w (cQb e r r.M.toNat (fun i=>jc r (i:Int)) w):=by
  have HE:=fQ he;obtain⟨va,vb,vd,rfl,h1,h2,h3⟩:=he;obtain⟨vp,vq,vr,vs,rfl,h4,h5,h6,h7⟩:=hr;obtain⟨Ac,cc,rfl,_⟩:=h7.len;obtain⟨Ar,cr,rfl⟩:=h6.I;have H7:=fQ h7;have a6:=fQ h6.ir;obtain⟨_,_,_,_,b7⟩:=h6.len;have aT:=fQ (show jn w (fM #[vp,vq,fF fN r.M,fG Ar r.params.length cr,fG Ac r.K.length cc]) r from⟨vp,vq,_,_,rfl,h4,h5,h6,h7⟩);obtain⟨n,hn⟩:=fX r.K.length;obtain⟨G,aU⟩:=fX r.params.length;rw[hn,aU]at aT ⊢;rw[aU]at a6 b7;have HN:=fQ hn;have aV:=fQ aU;clear h1 h2 h3 h4 h5 h6 h7 hn aU;have ay:=fQ (j8 w (fP #[va,fF fN e.G,vb,vd,fH e.L] 26) (fP #[vp,vq,fF fN r.M,fG Ar G cr,fG Ac n cc] 89));have a7:=fQ (gO.X (w.alloc (fP #[va,fF fN e.G,vb,vd,fH e.L] 26)) (N:=w.heap.size+1) 89 #[vp,vq,fF fN r.M,fG Ar G cr,fG Ac n cc] fz);have a8:=fQ (gO.alloc (gO.a4 w 26 #[va,fF fN e.G,vb,vd,fH e.L]) (fP #[vp,vq,fF fN r.M,fG Ar G cr,fG Ac n cc] 89));go_in;go_wp2_with fail;refine(bXo e r _ _ _ (HE.C ay.out (Aq _)) (aT.C ay.out (Aq _))).mono ?_;rintro en w1 (⟨aW,rfl,J⟩|⟨hc,v,rfl,hT,J⟩)
  · have E:=fQ (ay.trans (J.mono ay.out.size))
    have b8:=fQ aW;clear aW J;go_wp2;go_ret2;exact fS ⟨b8.out,rfl,E.out⟩
  · have E:=fQ (ay.trans (J.mono ay.out.size))
    have M:=fQ hc;have k1:=a7.C J a7.lt;have bG:=a8.C J a8.lt;obtain⟨P,hP⟩:∃ P:Nat,r.M=P:=⟨r.M.toNat,by have:=hc.p1;omega⟩;have bH:r.M.toNat=P:=fu;have b9:=fQ bH;rw[hP]at k1 aT;have ca:P<=4096:=(by have:=hc.p2;omega);have cR:n<=4096:=(by have:=hc.n2;have:=HN.out;omega);have bI:0<n:=(by have:=hc.n1;have:=HN.out;omega);have HP:=fQ hP;rw[HN.out]at hT;have HT:=fQ hT;obtain⟨Av,cv,rfl⟩:=hT.I;have U:=fQ k1;have bJ:=fQ bG;obtain⟨gC,aK⟩:=fX w1.heap.size
    have bL:=fQ (show KM w1 (w1.alloc (fP #[fG fU 0 0] 149)) gC (fG fU 0 0) 0 P (fun _ _=>gm) []from
      ⟨TM.nil _ _ _ _,gO.X _ _ _ aK,Aa aK,(Ak _ _).alloc (Aq _) _⟩)
    have mk:=nL (P:=fZ) 24 4 (fH gm) 1 underlying24 s9 rfl P fu fu;clear J hc hT hP bH k1 bG a7 a8 ay;go_wp2
    (try rw[aK])
    clear aK;go_loopw [9] (fun i wr=>∃ (k:Nat) (v:Bx) (gs:List Nat),k<=P/\i = fF fN k/\Hid (KM w1 wr gC v k P (fun _ _=>gm) gs)) (fun i _=>P - (intOf i).toNat)
    case atStart=>exact⟨0,_,[],fu,rfl,bL⟩
    case round=>
      as_aux_lemma=>
      clear bL;obtain⟨k,v,gs,hk,rfl,IM⟩:=hrel;obtain⟨ar,au,hv⟩:=IM.out.t.I;subst hv;have g:=U.C IM.out.b U.lt;obtain⟨O,Q,V,R,S⟩:=gZ g;have y1:=g.lt;have cd:=IM.out.b.size;by_cases cf:k<P
      · have t1:decide ((k:Int)<P)=gj:=by simp;omega
        have t2:(k:Int)<P:=fu;have c0:=IM.out.c.cell 0;simp at c0;have c2:=IM.out.c.lt;obtain⟨i0,ch,cj,cm,ba⟩:=info_parts bJb;have bb:=fQ (lJ (lJ IM.out.t.own (fP (Az P (fH gm)) 4)) (fP #[fG (gh ⟨wr.heap.size,0,fU⟩) P P] 24));have aL:=fQ ((IM.out.c.alloc (fP (Az P (fH gm)) 4)).alloc (fP #[fG (gh ⟨wr.heap.size,0,fU⟩) P P] 24));have aX:=fQ (iZ bb.out aL.out fy);clear g O Q R S;go_wp2_with fail
        go_region_law
          ((refine step_append_lies _ (by rfl) _ _ _ (by rfl) w1.heap.size 24 i0 _ 1 24 underlying147 ch cj cm ba rfl fu _ k (jR gs P) (by rfl) (dXt bb.out)
              ⟨wr.heap.size+1,0,fU⟩ 1 1 [fG (gh ⟨wr.heap.size,0,fU⟩) P P] (by rfl) (by rfl) (World.news_of_block (cs:=#[fG (gh ⟨wr.heap.size,0,fU⟩) P P]) (t:=24) (fr:=(0,0)) (gO.X _ _ _ fz)) (tf _ _ _)
              fu (by unfold maxLen;omega) fu fw (wr.heap.size+2) fz ?_;intro gg cap w3 aw hgrow cn bc;have k0:=(aL.grown (aXe hgrow) aX.out).cell 0;have k2:=ik (aL.grown (aXe hgrow) aX.out) 0;have k3:=(aL.grown (aXe hgrow) aX.out).lt))
        all_goals
          have cp:=fQ (IM.out.push aw (aXe hgrow));clear aw hgrow cn bc k0 k2 k3 IM bb aL aX;go_wp2;exact⟨⟨k+1,_,_,fu,fz,cp⟩,fB⟩
      · have t1:decide ((k:Int)<P)=gm:=by simp;omega
        have bd:k=P:=fu;subst bd;have bM:=fQ (show RK r k (oS r 0) w1 gC (fG ar k au) gs wr from⟨_,IM.out,RS.start r k (fun x y ⟨i,_,h,_⟩=>fu)⟩);clear IM g cd mk;go_wp2;clear O Q V R S y1 t1 hk cf;go_loopw [10] (fun i wr=>∃ q:Nat,q<=n/\i = fF fN q/\Hid (RK r k (oS r q) w1 gC (fG ar k au) gs wr)) (fun i _=>n - (intOf i).toNat)
        case atStart=>exact⟨0,fu,rfl,bM⟩
        case round=>
          as_aux_lemma=>
          clear bM;obtain⟨q,hq,rfl,d⟩:=hrel;have g:=U.C d.out.bel U.lt;obtain⟨O,Q,V,R,S⟩:=gZ g;have y1:=g.lt;by_cases be:q<n
          · as_aux_lemma=>
            have t2:(q:Int)<n:=fu;obtain⟨c,hc⟩:∃ c,r.K[q]? = gh c:=⟨_,Aj (by rw[HN.out];exact be)⟩;have aM:=fQ hc;have Z:=fQ (E.trans (d.out.bel.mono E.out.size));obtain⟨gb,go,cU,cV,cW,rfl,aN,g0,g1,g2,g3,g4,s0,s1,s2,s3⟩:=H7.K hc;replace g0:=(Z.cell (p:=⟨gb,_,fU⟩) aN).trans g0;replace g1:=(Z.cell (p:=⟨gb,_,fU⟩) aN).trans g1;replace g2:=(Z.cell (p:=⟨gb,_,fU⟩) aN).trans g2;replace g3:=(Z.cell (p:=⟨gb,_,fU⟩) aN).trans g3;replace g4:=(Z.cell (p:=⟨gb,_,fU⟩) aN).trans g4;have y2:gb<wr.heap.size:=(by have:=Z.out.size;omega);obtain⟨pA,pc,rfl⟩:=s1.I;obtain⟨qA,qc,rfl⟩:=s2.I;obtain⟨tA,tc,rfl⟩:=s3.I;have bN:=fQ s1.ir;have bf:=fQ s2.ir;obtain⟨_,_,_,_,cq⟩:=s1.len;obtain⟨_,_,_,_,ct⟩:=s2.len;obtain⟨ma,bg⟩:∃ m,c.args.length=m:=⟨_,rfl⟩;obtain⟨D,bj⟩:∃ m,c.O.length=m:=⟨_,rfl⟩;rw[bg]at bN g2 cq;rw[bj]at bf g3 ct;have bO:=fQ bg;have aY:=fQ bj;have aZ:=fQ (xJ (M.K c (Ax hc)));obtain⟨p,hp⟩:=HT.out.get be;have bk:=fQ hp;have cw:=hp.small M.out (fun x f=>f.range M.out);obtain⟨m,hm⟩:=fX p.length;rw[hm]at cw;have HM:=fQ hm;obtain⟨gk,bm⟩:=fX wr.heap.size;have aO:=fQ ((d.out.ng (jT:=od r q c 0) (fun x y h=>cVt x y h)).keep ((Ak wr.heap.size wr).alloc (Aq _) (fP #[fF fN c.op,fF fO (c.n:Int),fG pA ma pc,fG qA D qc,fG tA c.to.length tc] 86)));have bP:=fQ (gO.X wr (N:=gk) 86 #[fF fN c.op,fF fO (c.n:Int),fG pA ma pc,fG qA D qc,fG tA c.to.length tc] bm);clear hc s0 s1 s2 s3 bg bj hp hm g d;go_wp2_with fail
            (try rw[bm])
            clear bm g0 g1 g2 g3 g4 O Q V R S y1 y2;go_loopw [12] (fun i wr=>∃ j:Nat,j<=D/\i = fF fN j/\Hid (RK r k (od r q c j) w1 gC (fG ar k au) gs wr)/\Hid (gO wr gk 86 #[fF fN c.op,fF fO (c.n:Int),fG pA ma pc,fG qA D qc,fG tA c.to.length tc])) (fun i _=>D - (intOf i).toNat)
            case atStart=>exact⟨0,fu,rfl,aO,bP⟩
            case round=>
              as_aux_lemma=>
              clear aO bP;obtain⟨j,hj,rfl,d,s⟩:=hrel;obtain⟨d0,d1,d2,d3,d4⟩:=gZ s.out;have y3:=s.out.lt;by_cases cx:j<D
              · have t3:decide ((j:Int)<D)=gj:=by simp;omega
                have t4:(j:Int)<D:=fu;obtain⟨o,ho⟩:∃ o,c.O[j]? = gh o:=⟨_,Aj (by rw[aY.out];exact cx)⟩;have bQ:=aZ.2.1 o (Ax ho);rw[HP.out]at bQ;obtain⟨H,rfl⟩:∃ z:Nat,o=z:=⟨o.toNat,fu⟩;have bn:H<k:=fu;have HO:=fQ ho;have az:=fQ (d.out.ng (jT:=np r q c j (H:Int) p 0) (fun x y h=>cVf x y h));clear ho bQ d;go_wp2_with fail;clear d0 d1 d2 d3 d4 y3;go_loopw [13] (fun i wr=>∃ z:Nat,z<=m/\i = fF fN z/\Hid (RK r k (np r q c j (H:Int) p z) w1 gC (fG ar k au) gs wr)/\Hid (gO wr gk 86 #[fF fN c.op,fF fO (c.n:Int),fG pA ma pc,fG qA D qc,fG tA c.to.length tc])) (fun i _=>m - (intOf i).toNat)
                case atStart=>exact⟨0,fu,rfl,az,s⟩
                case round=>
                  as_aux_lemma=>
                  clear az s;obtain⟨z,hz,rfl,d,s⟩:=hrel;obtain⟨d0,d1,d2,d3,d4⟩:=gZ s.out;have y3:=s.out.lt;have F:=fQ (E.trans (d.out.bel.mono E.out.size));obtain⟨b,o,B,kB,rfl,J,al,aA⟩:=(HT.C d.out.bel).first be bk.out;rw[HM.out]at al aA;have bo:=fQ aA;clear aA;by_cases cy:z<m
                  · have t5:decide ((z:Int)<m)=gj:=by simp;omega
                    have t6:(z:Int)<m:=fu;obtain⟨x,f⟩:∃ x,p[z]? = gh x:=⟨_,Aj (by rw[HM.out];exact cy)⟩;have bp:=(bk.2 x).1 (Ax f);have ak:=bp.range M.out;rw[HP.out]at ak;obtain⟨A,rfl⟩:∃ z:Nat,x=z:=⟨x.toNat,fu⟩;have ax:A<k:=fu;obtain⟨ab,ao,rfl,cX,aB⟩:=bo.cell f;obtain⟨ob,oo,rfl,bq,aC⟩:=(bf.C F.out (Aq _)).cell HO.out;have HX:=fQ f;have bT:=fQ bp;clear f bp ak;by_cases aD:c.op=272
                    · have t7:(c.op != 272)=gm:=by simp[aD]
                      have bU:=dZb (M.K c (Ax aM.out)) aD;rw[bO.out]at bU;obtain⟨a0,br⟩:∃ a,c.args[0]? = gh a:=⟨_,Aj (by rw[bO.out];omega)⟩;obtain⟨eb,eo,rfl,cY,cz⟩:=(bN.C F.out (Aq _)).cell br;rw[Ab]at cz;have cZ:0<ma:=fu;have bV:=fQ br;have cA:=fQ aD;clear br aD bU;by_cases aJ:(A:Int)=a0
                      · have t9:((A:Int) != a0)=gm:=by simp[aJ]
                        have aE:=fQ (d.out.ng (jT:=np r q c j (H:Int) p (z+1)) (fun x y h=>dXo HX.out (fun hh=>hh cA.out a0 bV.out aJ) x y h));clear aJ d;go_wp2_with fail;go_quiet (fail);go_wp2;exact⟨⟨z+1,fu,fz,fQ (aE.drewN _),fQ (s.out.drewN _)⟩,fB⟩
                      · have t9:((A:Int) != a0)=gj:=by simp[aJ]
                        have W:=fQ (show kT r (H:Int) (A:Int)from fS ⟨q,c,aM.out,Ax HO.out,fS ⟨bT.out,fun _ a ha=>by rw[bV.out]at ha;injection ha with ha;rw[<-ha];exact aJ⟩⟩);clear aJ;go_wp2_with fail;go_quiet (fail);have q3:(wr.drewN nq).cell? _=_:=d3;have qo:(wr.drewN nq).cell? _=_:=aC;have ql:(wr.drewN nq).cell? _=_:=al;have qx:(wr.drewN nq).cell? _=_:=aB;have qy:gk<(wr.drewN nq).heap.size:=y3;have aF:=fQ (d.out.drewN' nq);have aG:=fQ (s.out.drewN nq);generalize wr.drewN nq=wq at q3 qo ql qx qy aF aG ⊢;clear d0 d1 d2 d3 d4 aC al aB y3 d s F;go_wp2_with fail;have l:=fQ (show RK r k _ w1 gC _ gs (wq.drew)from aF.drew');have X:=fQ (show gO (wq.drew) gk 86 _ from aG.drew);go_still_tail 12,fx;change wpList _ _ _ _ _ (wq.drew);generalize wq.drew=wd at l X ⊢;clear aF aG;go_wp2_with fail;refine(tg r k _ w1 gC _ gs H A _ l.out bn ax W.out).mono ?_;rintro en w6 ⟨rfl,K,L⟩;have an:=fQ (K (np r q c j (H:Int) p (z+1)) (fun x y h=>bYy HX.out x y h));have aP:=fQ (bZe X.out L l.pR fy);clear K L l X;go_wp2;exact⟨⟨z+1,fu,fz,an,aP⟩,fB⟩
                    · have t7:(c.op != 272)=gj:=by simp[aD]
                      have W:=fQ (show kT r (H:Int) (A:Int)from fS ⟨q,c,aM.out,Ax HO.out,fS ⟨bT.out,fun h=>gH h aD⟩⟩);clear aD;go_wp2_with fail;go_quiet (fail);have q3:(wr.drewN nq).cell? _=_:=d3;have qo:(wr.drewN nq).cell? _=_:=aC;have ql:(wr.drewN nq).cell? _=_:=al;have qx:(wr.drewN nq).cell? _=_:=aB;have qy:gk<(wr.drewN nq).heap.size:=y3;have aF:=fQ (d.out.drewN' nq);have aG:=fQ (s.out.drewN nq);generalize wr.drewN nq=wq at q3 qo ql qx qy aF aG ⊢;clear d0 d1 d2 d3 d4 aC al aB y3 d s F;go_wp2_with fail;have l:=fQ (show RK r k _ w1 gC _ gs (wq.drew)from aF.drew');have X:=fQ (show gO (wq.drew) gk 86 _ from aG.drew);go_still_tail 12,fx;change wpList _ _ _ _ _ (wq.drew);generalize wq.drew=wd at l X ⊢;clear aF aG;go_wp2_with fail;refine(tg r k _ w1 gC _ gs H A _ l.out bn ax W.out).mono ?_;rintro en w6 ⟨rfl,K,L⟩;have an:=fQ (K (np r q c j (H:Int) p (z+1)) (fun x y h=>bYy HX.out x y h));have aP:=fQ (bZe X.out L l.pR fy);clear K L l X;go_wp2;exact⟨⟨z+1,fu,fz,an,aP⟩,fB⟩
                  · have t5:decide ((z:Int)<m)=gm:=by simp;omega
                    have aE:=fQ (d.out.ng (jT:=pM r q c j (H:Int) 0) (fun x y h=>dXp (by rw[HM.out];omega) bk.2 x y h));clear d;go_wp2_with fail;clear d0 d1 d2 d3 d4 y3 al J F;go_loopw [14] (fun i wr=>∃ z:Nat,z<=D/\i = fF fN z/\Hid (RK r k (pM r q c j (H:Int) z) w1 gC (fG ar k au) gs wr)/\Hid (gO wr gk 86 #[fF fN c.op,fF fO (c.n:Int),fG pA ma pc,fG qA D qc,fG tA c.to.length tc])) (fun i _=>D - (intOf i).toNat)
                    case atStart=>exact⟨0,fu,rfl,aE,s⟩
                    case round=>
                      as_aux_lemma=>
                      clear aE s;obtain⟨I,ba,rfl,d,s⟩:=hrel;obtain⟨d0,d1,d2,d3,d4⟩:=gZ s.out;have F:=fQ (E.trans (d.out.bel.mono E.out.size));by_cases bs:I<D
                      · have t7:decide ((I:Int)<D)=gj:=by simp;omega
                        have t8:(I:Int)<D:=fu;obtain⟨x,f⟩:∃ x,c.O[I]? = gh x:=⟨_,Aj (by rw[aY.out];exact bs)⟩;have ak:=aZ.2.1 x (Ax f);rw[HP.out]at ak;obtain⟨A,rfl⟩:∃ z:Nat,x=z:=⟨x.toNat,fu⟩;have ax:A<k:=fu;have hh:=bf.C F.out (Aq _);obtain⟨ob,oo,rfl,bq,aC⟩:=hh.cell HO.out;obtain⟨ob',cB,aH,bt,aB⟩:=hh.cell f;injection aH with aH;injection aH with e1 e2;subst e1;subst e2;have HX:=fQ f;have W:=fQ (show kT r (H:Int) (A:Int)from fS ⟨q,c,aM.out,Ax HO.out,fT (Ax f)⟩);clear f ak hh;go_wp2_with fail;have l:=fQ (show RK r k _ w1 gC _ gs (wr.drew)from d.out.drew');have X:=fQ (show gO (wr.drew) gk 86 _ from s.out.drew);go_still_tail 10,fx;change wpList _ _ _ _ _ (wr.drew);generalize wr.drew=wd at l X ⊢;clear d s;go_wp2_with fail;refine(tg r k _ w1 gC _ gs H A _ l.out bn ax W.out).mono ?_;rintro en w6 ⟨rfl,K,L⟩;have an:=fQ (K (pM r q c j (H:Int) (I+1)) (fun x y h=>eQe HX.out x y h));have aP:=fQ (bZe X.out L l.pR fy);clear K L l X;go_wp2;exact⟨⟨I+1,fu,fz,an,aP⟩,fB⟩
                      · have t7:decide ((I:Int)<D)=gm:=by simp;omega
                        have a1:=fQ (d.out.ng (jT:=od r q c (j+1)) (fun x y h=>dZa HO.out (by rw[aY.out];omega) x y h));clear d;go_wp2;exact⟨⟨j+1,fu,fz,a1,s⟩,fB⟩
              · have t3:decide ((j:Int)<D)=gm:=by simp;omega
                have az:=fQ (d.out.ng (jT:=oS r (q+1)) (fun x y h=>dXz aM.out (by rw[aY.out];omega) x y h));clear d;go_wp2;exact⟨⟨q+1,fu,fz,az⟩,fB⟩
          · as_aux_lemma=>
            have t1:decide ((q:Int)<n)=gm:=fw;have bu:q=n:=fu;subst bu;have Z:=fQ (E.trans (d.out.bel.mono E.out.size));have bw:=bJ.C d.out.bel bJ.lt;obtain⟨e0,e1,e2,e3,e4⟩:=gZ bw;have y2:=bw.lt;have aO:=fQ (d.out.ng (jT:=oe r 0) (fun x y h=>by rw[<-HN.out];exact cVu x y h));clear bw g d;go_wp2_with fail;refine(cVi e r _ _ _ (HE.C Z.out (Aq _)) (aT.C Z.out (Aq _))).mono ?_;rintro en w4 (⟨aW,_,_⟩|⟨_,v4,rfl,aQ,bW⟩)
            · exact gH M.out aW
            obtain⟨wb,cC⟩:=fX wr.heap.size;rw[HN.out,cC]at aQ;obtain⟨A4,c4,rfl⟩:=aQ.I;have bX:=fQ aQ;have az:=fQ (aO.keep bW);obtain⟨u,hu⟩:=aQ.get bI;have HU:=fQ hu;have cD:=hu.small M.out (fun x f=>f.range M.out);obtain⟨mu,bz⟩:∃ m,u.length=m:=⟨_,rfl⟩;rw[bz]at cD;have bA:=fQ bz;have bB:=fQ (fun x (f:x∈r.params)=>vK M.pin f);rw[HP.out]at bB;clear aQ bW hu bz e0 e1 e2 e3 e4 O Q V R S y1 y2 aO Z;go_wp2;go_loopw [17] (fun i wr=>∃ j:Nat,j<=G/\i = fF fN j/\Hid (RK r k (oe r j) w1 gC (fG ar k au) gs wr)/\Hid (Told wr wb (fG A4 q c4) q (Live r))) (fun i _=>G - (intOf i).toNat)
            case atStart=>exact⟨0,fu,rfl,az,bX⟩
            case round=>
              as_aux_lemma=>
              clear az bX;obtain⟨j,hj,rfl,d,IT⟩:=hrel;have g:=U.C d.out.bel U.lt;obtain⟨O,Q,V,R,S⟩:=gZ g;have y1:=g.lt;clear g;by_cases cE:j<G
              · have t3:decide ((j:Int)<G)=gj:=by simp;omega
                have t4:(j:Int)<G:=fu;obtain⟨a,ha⟩:∃ a,r.params[j]? = gh a:=⟨_,Aj (by rw[aV.out];exact cE)⟩;have cF:=bB.out a (Ax ha);obtain⟨Y,rfl⟩:∃ z:Nat,a=z:=⟨a.toNat,fu⟩;have bY:Y<k:=fu;have HA:=fQ ha;have aE:=fQ (d.out.ng (jT:=pN r j (Y:Int) 0) (fun x y h=>cVv x y h));clear ha cF d;go_wp2_with fail;clear O Q V R S y1;go_loopw [18] (fun i wr=>∃ z:Nat,z<=G/\i = fF fN z/\Hid (RK r k (pN r j (Y:Int) z) w1 gC (fG ar k au) gs wr)/\Hid (Told wr wb (fG A4 q c4) q (Live r))) (fun i _=>G - (intOf i).toNat)
                case atStart=>exact⟨0,fu,rfl,aE,IT⟩
                case round=>
                  as_aux_lemma=>
                  clear aE IT;obtain⟨z,hz,rfl,d,IT⟩:=hrel;have g:=U.C d.out.bel U.lt;obtain⟨O,Q,V,R,S⟩:=gZ g;have y1:=g.lt;have F:=fQ (E.trans (d.out.bel.mono E.out.size));clear g;by_cases cG:z<G
                  · have t5:decide ((z:Int)<G)=gj:=by simp;omega
                    have t6:(z:Int)<G:=fu;obtain⟨x,f⟩:∃ x,r.params[z]? = gh x:=⟨_,Aj (by rw[aV.out];exact cG)⟩;have ak:=bB.out x (Ax f);obtain⟨A,rfl⟩:∃ z:Nat,x=z:=⟨x.toNat,fu⟩;have ax:A<k:=fu;have hh:=a6.C F.out (Aq _);obtain⟨ob,oo,rfl,bq,aC⟩:=hh.cell HA.out;obtain⟨ob',cB,aH,bt,aB⟩:=hh.cell f;injection aH with aH;injection aH with e1 e2;subst e1;subst e2;have HX:=fQ f;have W:=fQ (show kT r (Y:Int) (A:Int)from fT ⟨Ax HA.out,fS (Ax f)⟩);clear f ak hh;go_wp2_with fail;have l:=fQ (show RK r k _ w1 gC _ gs (wr.drew)from d.out.drew');have aI:=fQ (show Told (wr.drew) wb _ q (Live r)from IT.out.drew');go_still_tail 10,fx;change wpList _ _ _ _ _ (wr.drew);generalize wr.drew=wd at l aI ⊢;clear d IT;go_wp2_with fail;refine(tg r k _ w1 gC _ gs Y A _ l.out bY ax W.out).mono ?_;rintro en w6 ⟨rfl,K,L⟩;have an:=fQ (K (pN r j (Y:Int) (z+1)) (fun x y h=>eQf HX.out x y h));have bC:=fQ (aI.kept L l.pR);clear K L l aI;go_wp2;exact⟨⟨z+1,fu,fz,an,bC⟩,fB⟩
                  · have t5:decide ((z:Int)<G)=gm:=by simp;omega
                    have a1:=fQ (d.out.ng (jT:=pP r j (Y:Int) u 0) (fun x y h=>cVg (by rw[aV.out];omega) x y h));clear d;go_wp2_with fail;clear O Q V R S y1 F;go_loopw [19] (fun i wr=>∃ z:Nat,z<=mu/\i = fF fN z/\Hid (RK r k (pP r j (Y:Int) u z) w1 gC (fG ar k au) gs wr)/\Hid (Told wr wb (fG A4 q c4) q (Live r))) (fun i _=>mu - (intOf i).toNat)
                    case atStart=>exact⟨0,fu,rfl,a1,IT⟩
                    case round=>
                      as_aux_lemma=>
                      clear a1 IT;obtain⟨I,ba,rfl,d,IT⟩:=hrel;have g:=U.C d.out.bel U.lt;obtain⟨O,Q,V,R,S⟩:=gZ g;have F:=fQ (E.trans (d.out.bel.mono E.out.size));obtain⟨b,o,B,kB,rfl,J,al,aA⟩:=IT.out.first bI HU.out;rw[bA.out]at al aA;rw[Ab]at al;have bo:=fQ aA;clear aA g;by_cases cH:I<mu
                      · have t7:decide ((I:Int)<mu)=gj:=by simp;omega
                        have t8:(I:Int)<mu:=fu;obtain⟨x,f⟩:∃ x,u[I]? = gh x:=⟨_,Aj (by rw[bA.out];exact cH)⟩;have bD:=(HU.2 x).1 (Ax f);have ak:=bD.range M.out;rw[HP.out]at ak;obtain⟨A,rfl⟩:∃ z:Nat,x=z:=⟨x.toNat,fu⟩;have ax:A<k:=fu;obtain⟨ob,oo,rfl,bq,aC⟩:=(a6.C F.out (Aq _)).cell HA.out;obtain⟨xb,xo,rfl,c3,aB⟩:=bo.cell f;have HX:=fQ f;have W:=fQ (show kT r (Y:Int) (A:Int)from fT ⟨Ax HA.out,fT bD⟩);clear f ak bD;go_wp2_with fail;have l:=fQ (show RK r k _ w1 gC _ gs (wr.drew)from d.out.drew');have aI:=fQ (show Told (wr.drew) wb _ q (Live r)from IT.out.drew');go_still_tail 11,fx;change wpList _ _ _ _ _ (wr.drew);generalize wr.drew=wd at l aI ⊢;clear d IT;go_wp2_with fail;refine(tg r k _ w1 gC _ gs Y A _ l.out bY ax W.out).mono ?_;rintro en w6 ⟨rfl,K,L⟩;have an:=fQ (K (pP r j (Y:Int) u (I+1)) (fun x y h=>eQa HX.out x y h));have bC:=fQ (aI.kept L l.pR);clear K L l aI;go_wp2;exact⟨⟨I+1,fu,fz,an,bC⟩,fB⟩
                      · have t7:decide ((I:Int)<mu)=gm:=by simp;omega
                        have cI:=fQ (d.out.ng (jT:=oe r (j+1)) (fun x y h=>dXq HA.out (by rw[bA.out];omega) HU.2 x y h));clear d;go_wp2;exact⟨⟨j+1,fu,fz,cI,IT⟩,fB⟩
              · as_aux_lemma=>
                obtain⟨T,aq,bZ⟩:=d.out;have HD:=fQ (fun a b (ha:a<k) (J:b<k)=>bZ.done M.out (fun x y h=>eQg (by rw[aV.out];omega) x y h) ha J);have cJ:=fQ aq;have b0:=fQ (jS.start wr (fun i=>jc r (i:Int)));have F:=fQ (E.trans (d.out.bel.mono E.out.size));clear aq bZ d IT;go_wp2;clear O Q V R S y1;obtain⟨w5,rfl⟩:∃ w5:Bq,w5=wr:=⟨_,rfl⟩;go_loopw [20,21] (fun v i wr=>∃ z:Nat,z<=k/\i = fF fN z/\Hid (jS w5 v z (fun i=>jc r (i:Int)) wr)) (fun _ i _=>k - (intOf i).toNat)
                case atStart=>exact⟨0,fu,rfl,b0⟩
                case round=>
                  as_aux_lemma=>
                  clear b0;obtain⟨z,hz,rfl,IS⟩:=hrel;obtain⟨cK,cL,hv⟩:=IS.out.I;subst hv;have aq:=cJ.keep IS.out.C;have c0:=aq.c.cell 0;simp at c0;have y4:=aq.c.lt;have g:=U.C aq.b U.lt;obtain⟨O,Q,V,R,S⟩:=gZ g;have y1:=g.lt;clear g;by_cases b1:z<k
                  · have t5:decide ((z:Int)<k)=gj:=by simp;omega
                    have t6:(z:Int)<k:=fu;obtain⟨b,o,C,kC,rfl,J,hc,hs⟩:=aq.t.tb.row b1;have W:=fQ hs;clear hs aq;go_wp2_with fail;refine(aWh _ k _ (T z) _ W.out ca).mono ?_;rintro en w3 ⟨u5,p,rfl,ho,aZ,aR,b2⟩;have cM:=fQ (show jj p (jc r (z:Int))from aWg (e:=e) (r:=r) aR (fun q5 aS=>HD.out z q5 b1 aS) (fun x f=>by have:=f.range M.out;rw[HP.out]at this;exact this));have bE:=fQ (IS.out.keep b2);have HO:=fQ (iQ ho IS.out.C.size);obtain⟨q5,aS⟩:∃ q,p.length=q:=⟨_,rfl⟩;obtain⟨A1,c1,e1,_⟩:=fJ ho;subst e1;rw[aS]at ho HO aZ ⊢;have HQ:=fQ aS;have cN:=fQ (lJ HO.out (fP #[fG A1 q5 c1] 23));have b3:=fQ (bE.keep ((Ak _ _).alloc (Aq _) (fP #[fG A1 q5 c1] 23)));have c5:=bE.C.size;obtain⟨cO,PP,b4,b5⟩:=b3.open;have b6:=fQ b4;have cP:=fQ b5;clear ho aR b2 aS b4 b5 b3 bE c0 y4 O Q V R S y1 hc J;go_wp2_with (at_builtin;refine nQ _ rfl (.tmp 178) (.tmp 185) 114 rfl w5.heap.size 23 (fG fU 0 0) 1 24 underlying114 r8 rfl fu (.slice cK z cL) z cO rfl b6.out (gh ⟨w3.heap.size,0,fU⟩) 1 1 [fG A1 q5 c1] rfl (gO.kE (cs:=#[fG A1 q5 c1]) (gO.X _ _ _ rfl) rfl) (tf _ _ _) (by unfold maxLen;omega) fu fw ?_);rintro v' w' g1 g2 g3 _;have cQ:=fQ (jS.fYc (u:=fG A1 q5 c1) (p:=p) b6.out cP.out (by rw[HQ.out];exact cN.out) cM.out g1 g2);clear g1 g2 g3;go_wp2;exact⟨⟨z+1,fu,fz,cQ⟩,fB⟩
                  · have t5:decide ((z:Int)<k)=gm:=by simp;omega
                    have bF:z=k:=fu;subst bF;clear aq;go_wp2;go_ret2;exact fT ⟨M.out,_,rfl,by rw[b9.out];exact IS.out.told.mono F.out.size,F.trans (IS.out.C.mono F.out.size)⟩
end Go.Proofs.YtabibkpfgmolkaaGreatDoor

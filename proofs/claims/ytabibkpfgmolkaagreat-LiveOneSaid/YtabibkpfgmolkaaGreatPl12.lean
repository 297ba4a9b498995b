/- Lemmas for the claim, part 12. Conditions: none. -/
import Derived.Test.YtabibkpfgmolkaaGreatPl05
import Derived.Deep.DeepCutAuto
set_option maxRecDepth 100000
set_option maxHeartbeats 16000000
set_option linter.unusedVariables false
set_option linter.unusedSimpArgs false
open Go.Lib renaming hid→fQ
open Go.Proofs.Tryz renaming prog→fZ
open Go.Proofs.Tryz
open Go.RowKit
open List renaming getElem?_eq_getElem→Aj,mem_of_getElem?→Ax,replicate→Ak,getElem?_append_right→Aw,getElem?_toArray→Ay,getElem?_replicate→AX,take_succ_eq_append_getElem→AZ,getElem?_map→AK,take_of_length_le→AW,eq_of_mem_replicate→Aa,length_replicate→Ab,length_take→Ae,map_append→Af,length_set→Ah
open Nat renaming le_refl→Az,lt_of_lt_of_le→AQ,sub_self→AV,le_trans→Ad
open Array renaming replicate→AJ
open Go.World renaming grownBy_alloc→AY
open Go renaming World→Bj,Value→Bq
open Go.RowKit renaming Below→Bx
namespace Go.Proofs.YtabibkpfgmolkaaGreat
variable {k j a b g P N gK gC:Nat}{w w' w1:Bj}{o p x y:Int}{v:Bq}{u t l:List Int}{S bC:List Nat}
def swp(D:List Int)(i j:Nat):List Int:=(D.set i (D.getD j 0)).set j (D.getD i 0)
def swR(a b:Nat):Nat->Nat->List Int->List Int
 | 0,_,D=>D
 | r+1,k,D=>swR a b r (k+1) (swp D (a+k) (b+k))
def cWy(m:Nat):Nat->Nat->Nat->List Int->List Int
 | 0,_,_,D=>D
 | f+1,i,j,D=>if i=j then swR (m - i) m i 0 D else if j<i then cWy m f (i - j) j (swR (m - i) m j 0 D)else cWy m f i (j - i) (swR (m - i) (m+j - i) i 0 D)
def eQl(a m b:Nat)(D:List Int):List Int:=cWy m (m - a+(b - m)) (m - a) (b - m) D
def dKh(K:Int->Int->Int)(a:Nat):Nat->List Int->List Int
 | 0,D=>D
 | q+1,D=>if a<q+1/\K (D.getD (q+1) 0) (D.getD q 0)<0 then dKh K a q (swp D (q+1) q)else D
def dKi(K:Int->Int->Int)(a:Nat):Nat->Nat->List Int->List Int
 | 0,_,D=>D
 | r+1,k,D=>dKi K a r (k+1) (dKh K a k D)
def cWz(K:Int->Int->Int)(a b:Nat)(D:List Int):List Int:=dKi K a (b - (a+1)) (a+1) D
def bsF(t:Nat->Bool):Nat->Nat->Nat->Nat
 | 0,i,_=>i
 | f+1,i,j=>if i<j then(if t ((i+j) / 2)=true then bsF t f ((i+j) / 2+1) j else bsF t f i ((i+j) / 2))else i
def bsV(t:Nat->Bool)(i j:Nat):Nat:=bsF t (j - i) i j
def bWz(K:Int->Int->Int)(D:List Int)(i j:Nat):Bool:=decide (K (D.getD i 0) (D.getD j 0)<0)
def upS:Nat->Nat->List Int->List Int
 | 0,_,D=>D
 | r+1,k,D=>upS r (k+1) (swp D k (k+1))
def dnS(i:Nat):Nat->List Int->List Int
 | 0,D=>D
 | k+1,D=>if i<k+1 then dnS i k (swp D (k+1) k)else D
def eQm(K:Int->Int->Int)(a m b:Nat)(D:List Int):Nat:=
 if(a+b) / 2<m then bsV (fun c=>!bWz K D ((a+b) / 2+m - 1 - c) c) ((a+b) / 2+m - b) ((a+b) / 2)else bsV (fun c=>!bWz K D ((a+b) / 2+m - 1 - c) c) a m
def bYa(K:Int->Int->Int):Nat->Nat->Nat->Nat->List Int->List Int
 | 0,_,_,_,D=>D
 | f+1,a,m,b,D=>
  if m - a=1 then upS (bsV (fun h=>bWz K D h a) m b - 1 - a) a D
  else if b - m=1 then dnS (bsV (fun h=>!bWz K D m h) a m) m D
  else
   let s:=eQm K a m b D
   let e:=(a+b) / 2+m - s
   let c:=if s<m/\m<e then eQl s m e D else D
   let d:=if a<s/\s<(a+b) / 2 then bYa K f a s ((a+b) / 2) c else c
   if(a+b) / 2<e/\e<b then bYa K f ((a+b) / 2) e b d else d
def stB(K:Int->Int->Int)(P:Nat):Nat->Nat->List Int->List Int
 | 0,a,D=>cWz K a P D
 | f+1,a,D=>if a+20<=P then stB K P f (a+20) (cWz K a (a+20) D)else cWz K a P D
def mgP(K:Int->Int->Int)(P s:Nat):Nat->Nat->List Int->List Int
 | 0,_,D=>D
 | f+1,a,D=>if a+2*s<=P then mgP K P s f (a+2*s) (bYa K (a+2*s - a) a (a+s) (a+2*s) D)else if a+s<P then bYa K (P - a) a (a+s) P D else D
def mgA(K:Int->Int->Int)(P:Nat):Nat->Nat->List Int->List Int
 | 0,_,D=>D
 | f+1,s,D=>if s<P then mgA K P f (2*s) (mgP K P s P 0 D)else D
def eXh(K:Int->Int->Int)(P:Nat)(D:List Int):List Int:=mgA K P P 20 (stB K P P 0 D)
theorem bJt:(fZ.info? 73).map (fun i=>(i.zero,i.size,i.bytes))=some (some (.map none),1,8):=by kernel_rfl
theorem bXl:(fZ.info? 4).map (fun i=>(i.zero,i.size,i.bytes))=some (some (.bool false),1,1):=by kernel_rfl
theorem cYm(w:Bj)(a b c:Obj):Bx w.heap.size w (((w.alloc a).alloc b).alloc c):=al3 w a b c
theorem aWp(e:EnvD)(r:RowD)(ve vr:Bq)(w:Bj)(he:EnvV w ve e)(hr:RowV w vr r):Calls fZ 23 #[ve,vr] w (cYb e r w):=by
 have HE:=fQ he;have HR:=fQ hr;obtain⟨va,vb,vd,rfl,h1,h2,D⟩:=he;obtain⟨As,cs,rfl,_⟩:=h1.len;obtain⟨Ag,cg,rfl⟩:=h2.shape;obtain⟨Am,cm,rfl,_⟩:=D;obtain⟨vp,vq,vr,vs,rfl,h4,h5,h6,h7⟩:=hr;obtain⟨I,J,rfl⟩:=h4.shape;obtain⟨K,M,rfl⟩:=h5.shape;obtain⟨O,Q,rfl⟩:=h6.shape;obtain⟨Ac,cc,rfl,_⟩:=h7.len;obtain⟨_,l7,dI⟩:=h7.eXi;have H7:=fQ h7;have aA:=fQ (al2 w (.cells #[.slice As e.sigs.length cs,.int .i64 e.imports,.slice Ag e.globals.length cg,.slice Am e.muts.length cm,.bool e.mem] 26) (.cells #[.slice I r.sig.inn.length J,.slice K r.sig.out.length M,.int .i64 r.places,.slice O r.params.length Q,.slice Ac r.code.length cc] 43));have bd:=fQ (Blk.newAt (w.alloc (.cells #[.slice As e.sigs.length cs,.int .i64 e.imports,.slice Ag e.globals.length cg,.slice Am e.muts.length cm,.bool e.mem] 26)) (N:=w.heap.size+1) 43 #[.slice I r.sig.inn.length J,.slice K r.sig.out.length M,.int .i64 r.places,.slice O r.params.length Q,.slice Ac r.code.length cc] (by simp));clear h1 h2 h4 h5 h6 h7;go_in;go_wp2_with fail;refine(cJc e r _ _ _ (HE.out.below aA.out (Az _)) (HR.out.below aA.out (Az _))).mono ?_;rintro en w1 ⟨b,rfl,b8,ai⟩;have be:=fQ b8;have aB:=fQ (aA.out.trans (ai.mono aA.out.size));have aC:=fQ (bd.out.below ai bd.out.lt);clear ai b8
 cases b with
 | false=>
  go_wp2;go_ret2;exact .inl ⟨(fun h=>by have:=be.out.2 h;cases this),rfl,aB.out⟩
 | true=>
  have C:=fQ (be.out.1 rfl);obtain⟨n,hn⟩:=fX r.code.length;obtain⟨rv,c4⟩:∃ rv:Array Bq,rv=#[.slice I r.sig.inn.length J,.slice K r.sig.out.length M,.int .i64 r.places,.slice O r.params.length Q,.slice Ac r.code.length cc]:=⟨_,rfl⟩;obtain⟨r0,r1,r2,r3,r4⟩:=gJ aC.out;have y1:=aC.out.lt;rw[hn]at r4;have dJ:n<=4096:=(by have:=C.out.n2;omega);have o:=fQ hn;have bf:=aQo (P:=fZ) 71 73 (.map none) 8 underlying71 bJt rfl n (by omega) (by omega);clear hn c4 r0 r1 r2 r3;go_wp2_with fail;go_cut [7] (fun f wx=>∃ gA gB:Nat,f = .pointer (some ⟨w1.heap.size+1+1,0,none⟩)/\Hid (Blk wx (w1.heap.size+1+1) 77 #[.slice (some ⟨gA,0,none⟩) n n,.slice (some ⟨gB,0,none⟩) n n])/\Hid (Blk wx gA 73 (setsV [] n))/\Hid (Blk wx gB 73 (setsV [] n))/\Hid (gA≠gB)/\Hid (w1.heap.size<=gA)/\Hid (w1.heap.size<=gB)/\Hid (Bx w1.heap.size w1 wx))
  case first=>
   have e:setsV [] n=AJ n (.map none):=(by simp[setsV,mapsV]);have aQ:=fQ e;clear e;go_region
   ·go_wp2_with fail;go_meet;refine⟨w1.heap.size,w1.heap.size+1,rfl,fQ ?_,fQ ?_,fQ ?_,fQ (by omega),fQ (by omega),fQ (by omega),fQ (cYm _ _ _ _).drew⟩
    ·refine Blk.drew (Blk.newAt _ _ _ ?_);simp
    ·rw[aQ.out];exact Blk.drew (Blk.alloc (Blk.alloc (Blk.new _ _ _) _) _)
    ·rw[aQ.out];refine Blk.drew (Blk.alloc (Blk.newAt _ _ _ ?_) _);simp
   ·go_wp2_with fail;go_meet;refine⟨w1.heap.size+1,w1.heap.size,rfl,fQ ?_,fQ ?_,fQ ?_,fQ (by omega),fQ (by omega),fQ (by omega),fQ (cYm _ _ _ _).drew⟩
    ·refine Blk.drew (Blk.newAt _ _ _ ?_);simp
    ·rw[aQ.out];refine Blk.drew (Blk.alloc (Blk.newAt _ _ _ ?_) _);simp
    ·rw[aQ.out];exact Blk.drew (Blk.alloc (Blk.alloc (Blk.new _ _ _) _) _)
  case rest=>
   clear bf;obtain⟨wd,rfl⟩:∃ wd:Bj,wd=wc:=⟨_,rfl⟩;obtain⟨gA,gB,rfl,KF,KA,KB,b9,ca,aD,aR⟩:=hcut;have aS:=aR.out.size;have bg:=aQo (P:=fZ) 44 23 (.slice none 0 0) 24 underlying44 aXw rfl n (by omega) (by omega);have bh:=aQo (P:=fZ) 23 3 (.int .i64 0) 8 underlying23 uZ rfl n (by omega) (by omega);have bl:=aQo (P:=fZ) 24 4 (.bool false) 1 underlying24 bXl rfl n (by omega) (by omega);clear r4;have cd:=fQ (aC.out.below aR.out aC.out.lt);obtain⟨gF,bm⟩:=fX (w1.heap.size+1+1);rw[bm]at KF ⊢;have cf:=fQ bm;clear bm;have bn:Bx w.heap.size w wd:=aB.out.trans (aR.out.mono aB.out.size);have S0:=fQ bn;clear bn;go_wp2
   have ch:InRel r n w.heap.size (w.heap.size+1) gF gA gB wd.heap.size (wd.heap.size+1+1) (wd.heap.size+1) #[.slice I r.sig.inn.length J,.slice K r.sig.out.length M,.int .i64 r.places,.slice O r.params.length Q,.slice Ac r.code.length cc] w 0 [] 0 (((wd.alloc (.cells (AJ n (.slice none 0 0)) 23)).alloc (.cells (AJ n (.int .i64 0)) 3)).alloc (.cells (AJ n (.bool false)) 4)):=by
    have q1:=S0.out.size;have q2:=aB.out.size;have q3:=ca.out;have q4:=aD.out;have q5:=cf.out;refine⟨[],[],Ak n (.slice none 0 0),Ak n [],rfl,rfl,{ r:=((cd.out.alloc _).alloc _).alloc _,f:=((KF.out.alloc _).alloc _).alloc _,a:=((KA.out.alloc _).alloc _).alloc _,b:=((KB.out.alloc _).alloc _).alloc _,la:=rfl,lb:=rfl,ma:=fun i b s h=>by simp at h,mb:=fun i b s h=>by simp at h,nd:=by simp,fr:=?_,rf:=⟨by simp,fun i u p h1 h2=>?_⟩,w:=?_,lR:=by omega,lF:=by omega,lA:=by omega,lB:=by omega,lr:=by omega,lW:=by omega,lm:=fun b h=>by simp at h,hab:=b9.out },⟨fun i j a b g dK h1 h2 D=>?_,fun a ha g hg=>?_⟩,?_,FromK.start o.out,S0.out.trans ((cYm _ _ _ _).mono q1)⟩
    ·have e:(Ak n (Value.slice none 0 0)).toArray=AJ n (.slice none 0 0):=(by simp);rw[e];exact((Blk.new _ _ _).alloc _).alloc _
    ·obtain⟨_,V⟩:=List.getElem?_eq_some_iff.1 h1;obtain⟨_,e2⟩:=List.getElem?_eq_some_iff.1 h2;simp at V e2;subst V;subst e2;exact World.ownsRow_nil _ _ _ _
    ·have e:(boolsV (Ak 0 true++Ak (n - 0) false)).toArray=AJ n (.bool false):=(by simp[boolsV]);rw[e];refine Blk.newAt _ _ _ ?_;simp
    ·obtain⟨_,V⟩:=List.getElem?_eq_some_iff.1 h1;simp at V;subst V;cases D
    ·have:=Aa ha;subst this;cases hg
    ·have e:i64s (rng 0++Ak (n - 0) 0)=(AJ n (Value.int .i64 0)).toList:=(by simp[i64s,rng]);rw[e];refine Blk.own (Blk.alloc (Blk.newAt _ _ _ ?_) _) (by omega) (by simp) (by unfold maxLen;omega);simp
   have c5:=fQ ch;clear ch bg bh bl;go_loopw [42] (fun i wr=>∃ k:Nat,k<=n/\i = .int .i64 k/\Hid (InRel r n w.heap.size (w.heap.size+1) gF gA gB wd.heap.size (wd.heap.size+1+1) (wd.heap.size+1) #[.slice I r.sig.inn.length J,.slice K r.sig.out.length M,.int .i64 r.places,.slice O r.params.length Q,.slice Ac r.code.length cc] w k [] k wr)) (fun i _=>n - (intOf i).toNat)
   case atStart=>exact⟨0,by omega,rfl,c5⟩
   case round=>as_aux_lemma=>
    obtain⟨k,hk,rfl,y⟩:=hrel;by_cases aE:k<n
    ·have bo:decide ((k:Int)<n)=true:=(by simp;omega);have c6:(k:Int)<n:=(by omega);go_wp2_with fail;go_cut [] (fun wx=>Hid (InRel r n w.heap.size (w.heap.size+1) gF gA gB wd.heap.size (wd.heap.size+1+1) (wd.heap.size+1) #[.slice I r.sig.inn.length J,.slice K r.sig.out.length M,.int .i64 r.places,.slice O r.params.length Q,.slice Ac r.code.length cc] w k [] (k+1) wx))
     case first=>
      obtain⟨bA,bB,vF,F,m1,m2,d,R,G,m6,m7⟩:=y.out;have f0:=d.f.cell 0;have f1:=d.f.cell 1;have W:=d.a.cell k;have f3:=d.b.cell k;simp at f0 f1;have z2:=frz d.a k;have z3:=frz d.b k
      have e2:(setsV bA n)[k]? = some (.map none):=by
       unfold setsV;rw[Ay,Aw (by rw[tY,m1];exact Az _),tY,m1,AV,AX,if_pos (by omega)]
      have e3:(setsV bB n)[k]? = some (.map none):=by
       unfold setsV;rw[Ay,Aw (by rw[tY,m2];exact Az _),tY,m2,AV,AX,if_pos (by omega)]
      rw[e2]at W;rw[e3]at f3;have y1:=d.f.lt;have y2:=d.a.lt;have y3:=d.b.lt;have n1:gF≠gA:=blk_ne d.f d.a (by decide);have n2:gF≠gB:=blk_ne d.f d.b (by decide);have n3:gA≠gB:=d.hab;have n4:gB≠gA:=fun e=>n3 e.symm
      have dL:∀ w,(Instr.makeMap 73 none).run fZ w = .ok (.map (some w.heap.size)) (w.alloc (.map #[] 0)):=fun w=>by simp[Instr.makeMap]
      clear e2 e3 m1 m2 d R G m6 m7;clear HE HR H7 aA bd be aB aC C KF KA KB b9 ca aD aR S0 cd cf;generalize Value.agg #[.slice As e.sigs.length cs,.int .i64 e.imports,.slice Ag e.globals.length cg,.slice Am e.muts.length cm,.bool e.mem]=vE at *;generalize Value.agg #[.slice I r.sig.inn.length J,.slice K r.sig.out.length M,.int .i64 r.places,.slice O r.params.length Q,.slice Ac r.code.length cc]=vR at *;go_region
      all_goals
       go_wp2_with fail;go_meet
       first
        | exact fQ (InRel.made y.out aE (.inl ⟨rfl,rfl⟩)).drew
        | exact fQ (InRel.made y.out aE (.inr ⟨rfl,rfl⟩)).drew
        | trace_state
     case rest=>
      have bp:=hcut;clear hcut y;obtain⟨X,rfl⟩:∃ X:Bj,X=wc:=⟨_,rfl⟩;obtain⟨c,hc⟩:∃ c,r.code[k]? = some c:=⟨_,Aj (by rw[o.out];exact aE)⟩;have ah:=fQ hc;have c7:=(show ∃ bA bB vF F,_ from bp.out);obtain⟨bA,bB,vF,F,_,_,d,_,_,_,m7⟩:=c7;obtain⟨r0,r1,r2,r3,r4⟩:=gJ d.r;have y1:=d.r.lt;have M7:=fQ m7;clear d m7 hc;go_wp2_with fail
      refine(bJv r _ k c _ (HR.out.below M7.out (Az _)) ah.out (by
       have h2:=yV (C.out.code c (Ax ah.out));have:nX c.op<=65:=(by unfold nX;split;omega;split <;> omega)
       omega) C.out.n2).mono ?_
      rintro en w2 ⟨vn,rfl,br,cj⟩;have J2:=fQ (bp.out.two br cj);obtain⟨c8,c9,rfl,_⟩:=gZ br;obtain⟨m,hm⟩:=fX ((oZ c k).length);rw[hm]at J2 ⊢
      have bs:m<=66:=by
       rw[<-hm];have h2:=yV (C.out.code c (Ax ah.out));have:nX c.op<=65:=(by unfold nX;split;omega;split <;> omega);unfold oZ
       split <;> simp <;> omega
      have U:=fQ hm;clear br cj r0 r1 r2 r3 r4 y1 hm;go_wp2_with fail;go_loopw [63] (fun i wr=>∃ j:Nat,j<=m/\i = .int .i64 j/\Hid (InRel2 r n w.heap.size (w.heap.size+1) gF gA gB wd.heap.size (wd.heap.size+1+1) (wd.heap.size+1) #[.slice I r.sig.inn.length J,.slice K r.sig.out.length M,.int .i64 r.places,.slice O r.params.length Q,.slice Ac r.code.length cc] w k ((oZ c k).take j) (.slice c8 m c9) (oZ c k) wr)) (fun i _=>m - (intOf i).toNat)
      case atStart=>exact⟨0,by omega,rfl,J2⟩
      case round=>
       clear J2 bp M7;obtain⟨j,hj,rfl,J3⟩:=hrel;by_cases aj:j<m
       ·have ak:decide ((j:Int)<m)=true:=(by simp;omega);have ab:(j:Int)<m:=(by omega);obtain⟨x,E⟩:∃ x,(oZ c k)[j]? = some x:=⟨_,Aj (by rw[U.out];exact aj)⟩;have au:=(aXz (C.out.code c (Ax ah.out)) k x).1 (Ax E);have aF:=(C.out.eXy.to k c ah.out).1 x au;obtain⟨q,rfl⟩:∃ q:Nat,x=q:=⟨x.toNat,by omega⟩;have av:q<n:=(by rw[o.out]at aF;omega);have aG:(q:Int)<n:=(by omega);obtain⟨bA,bB,vF,F,Y,k2,S,k4,k5,k6,k7,k8,k9⟩:=J3.out;rw[U.out]at k9;have s0:=Src.eXq k9;obtain⟨nb,no,rfl,aw⟩:=s0.addr (by omega);have c0:=s0.at_ aj;rw[aZj (by rw[U.out];exact aj),(List.getElem?_eq_some_iff.1 E).2]at c0;have ck:q<F.length:=(by rw[k6.l,o.out];exact av);obtain⟨l,hl⟩:∃ l,F[q]? = some l:=⟨_,Aj ck⟩;obtain⟨u,hu⟩:∃ u,vF[q]? = some u:=⟨_,Aj (by rw[S.rf.1];exact ck)⟩;have aT:=S.rf.2 q u l hu hl;have da:=(k6.s q l hl).2
        have db:((oZ c k).take j).length<=66:=by
         rw[Ae,U.out];have:=Nat.min_le_left j m;omega
        have dd:l.length<=300000:=(by omega);obtain⟨Au,cu,rfl,_⟩:=gZ aT;have c1:=S.fr.cell q;have V:vF.toArray[q]? = some (.slice Au l.length cu):=(by simpa using hu);rw[V]at c1;obtain⟨p,hp⟩:=fX l.length;have HU:=fQ hu;have bt:=fQ hl;have HP:=fQ hp;rw[hp]at c1 dd aT;have y1:=S.fr.lt;have zz:=frz S.fr q;have K3:=fQ S;have K4:=fQ k4;have K5:=fQ k5;have K6:=fQ k6;have K7:=fQ k7;have K8:=fQ k8;have K9:=fQ k9;have K1:=fQ Y;have K2:=fQ k2;have bu:=fQ aT;have bw:=fQ E;have ct:=S.eXk;clear Y k2 S k4 k5 k6 k7 k8 k9 hu hl hp V s0 aT E au aF da db;go_wp2_with (at_builtin;refine kV _ rfl (.tmp 72) (.tmp 74) 23 rfl w.heap.size 3 (.int .i64 0) 1 8 underlying23 uZ rfl (by omega) (.slice Au p cu) p (i64s l) rfl (jY bu.out _) (some ⟨wr.heap.size,0,none⟩) 1 1 [.int .i64 (k:Int)] rfl (bQd _ _ _) (aZg _ _) (by unfold maxLen;omega) (by omega) (by simp;omega) ?_);rintro v2 w2 h1 h2 D _;have ep:=HP.out;subst ep;obtain⟨A2,de,rfl,_⟩:=gZ h1;have aH:=K3.out.grown ((Below.refl _ _).alloc (Az _) (.cells #[.int .i64 (k:Int)] 3));have el:i64s l ++ [.int .i64 (k:Int)]=i64s (l ++ [(k:Int)]):=(by simp[i64s]);rw[el]at h1;obtain⟨L1,L2,L3⟩:=aH.eZk K4.out (jY K5.out _) HU.out bt.out h2 h1 (by simpa using D);obtain⟨_,L4,L5⟩:=aH.eZk K8.out (jY K9.out _) HU.out bt.out h2 h1 (by simpa using D);have cw:=jV (K7.out.alloc ct (.cells #[.int .i64 (k:Int)] 3)) h2 (by simp;omega) (fun g hg=>(bu.out.lt g hg).1);have aU:=aH.fr.grown h2 (own_ne (jY bu.out _) aH.fr (by decide));have d0:=aU.cell q;have V:vF.toArray[q]? = some (.slice Au l.length cu):=(by simpa using HU.out);rw[V]at d0;have d1:=frz aU q;have d2:=aU.lt;have P1:=fQ L1;have P2:=fQ L2;have P3:=fQ L3;have P4:=fQ L4;have P5:=fQ L5;have P6:=fQ (cw.setCell (p:=⟨wd.heap.size,q,none⟩) K3.out.lr (.slice A2 (l.length+1) de));clear L1 L2 L3 L4 L5 aH aU V h1 h2 D cw el;go_wp2
        have et:(oZ c k).take j ++ [(q:Int)]=(oZ c k).take (j+1):=by
         obtain⟨aI,e⟩:=List.getElem?_eq_some_iff.1 bw.out;rw[AZ aI,e]
        have cx:=K6.out.push (by rw[o.out];exact aE) bt.out;rw[et]at cx;exact⟨⟨j+1,by omega,by simp,fQ ⟨bA,bB,_,_,K1.out,K2.out,P1.out,P2.out,P3.out,cx,P6.out,P4.out,by rw[U.out];exact P5.out⟩⟩,by simp[intOf];omega⟩
       ·have ak:decide ((j:Int)<m)=false:=(by simp;omega);have ab:j=m:=(by omega);subst ab;have J4:=fQ J3.out.one;have aV:w.heap.size<=wd.heap.size+1:=(by have:=S0.out.size;omega)
        have J5:=fQ (J4.out.mark ah.out (fun x E=>by
         rw[AW (by rw[U.out];exact Az _)]
         exact(aXz (C.out.code c (Ax ah.out)) k x).2 E) (by
         have h2:=yV (C.out.code c (Ax ah.out));have:nX c.op<=65:=(by unfold nX;split;omega;split <;> omega);rw[Ae]
         have D:(oZ c k).length<=66:=by
          unfold oZ
          split <;> simp <;> omega
         omega) aE aV)
        obtain⟨bA,bB,vF,F,Y,k2,S,k4,k5,k6,k7⟩:=J4.out;have a0:=k5.cellAt k (by omega)
        obtain⟨ea,cy⟩:∃ ea:Int,(i64s (rng k++Ak (n - k) 0))[k]? = some (.int .i64 ea):=⟨0,by
         simp only[i64s,AK];rw[Aw (by rw[aZk];exact Az _),aZk,AV,AX,if_pos (by omega)]
         rfl⟩
        rw[cy]at a0;have a1:=k5.frozenAt k;have a2:=(k5.lt (wd.heap.size+1) rfl).2;have b0:=S.w.cell k
        have eb:(boolsV (Ak k true++Ak (n - k) false)).toArray[k]? = some (.bool false):=by
         simp only[boolsV,Ay,AK];rw[Aw (by simp),Ab,AV,AX,if_pos (by omega)];rfl
        rw[eb]at b0;have b1:=frz S.w k;have b2:=S.w.lt;clear Y k2 S k4 k5 k6 k7 cy eb J3;go_wp2;exact⟨⟨k+1,by omega,by simp,J5⟩,by simp[intOf];omega⟩
    ·have bo:decide ((k:Int)<n)=false:=(by simp;omega);have df:k=n:=(by omega);subst df;obtain⟨bA,bB,vF,F,cz,cA,cB,cC⟩:=y.out.main o.out;have bx:=fQ cz;have cD:=fQ cA;have aW:=fQ cB;have cE:=fQ cC;clear cz cA cB cC y;go_wp2;go_loopg [9] (muL k r.places.toNat (Ak k []) (rng k)) (fun g v wi=>∃ (T:List Int) (A B:Sets) (wt:List Bool),Hid (MainRel r k w.heap.size (w.heap.size+1) gF gA gB wd.heap.size (wd.heap.size+1+1) #[.slice I r.sig.inn.length J,.slice K r.sig.out.length M,.int .i64 r.places,.slice O r.params.length Q,.slice Ac r.code.length cc] w bA bB vF F v T A B wt [] wi)/\Hid (muL k r.places.toNat A T=g))
     case atStart=>exact⟨_,_,_,_,cE,fQ rfl⟩
     case round=>
      clear cE;obtain⟨T,A,B,wt,y,IG⟩:=hrel;obtain⟨X,rfl⟩:∃ X:Bj,X=wr:=⟨_,rfl⟩;rcases List.eq_nil_or_concat T with rfl | ⟨T',x,rfl⟩
      ·obtain⟨Av,cv,hv,_⟩:=gZ y.out.2.2.1;subst hv;have HS:=fQ (aWw C.out.eXy y.out.2.2.2.1.s (fun i hi=>y.out.2.2.2.1.st i hi (by simp) (by simp)));go_wp2;go_ret2;obtain⟨m1,_,_,R,G⟩:=y.out;have la:A.length=k:=(by rw[R.s.lA,o.out]);refine .inr ⟨C.out,gF,gA,gB,bA,bB,A,B,rfl,{ f:=?_,a:=?_,b:=?_,la:=m1.la,lb:=m1.lb,ma:=m1.ma,mb:=m1.mb,s:=R.s,eA:=HS.out.1,eB:=HS.out.2,lF:=m1.lF,lA:=m1.lA,lB:=m1.lB },G⟩
       ·rw[o.out];exact m1.f
       ·rw[<-aZw bx.out];exact m1.a
       ·rw[<-aZw cD.out];exact m1.b
      ·rw[List.concat_eq_append]at y IG;obtain⟨i,rfl,bz⟩:=y.out.2.2.2.1.tr x (by simp);have ax:i<k:=(by rw[<-o.out];exact bz);have dg:(i:Int)<k:=(by omega);obtain⟨c,hc⟩:∃ c,r.code[i]? = some c:=⟨_,Aj bz⟩;have ag:=fQ hc;obtain⟨t,ht⟩:=fX T'.length;have cF:(T' ++ [(i:Int)]).length=t+1:=(by simp[ht])
       have dM:t+1<=k:=by
        have:=aWg y.out.2.2.2.1;rw[cF,o.out]at this;exact this
       have dh:=fQ ht;obtain⟨m1,m2,d,R,G⟩:=y.out;rw[cF]at d;obtain⟨gT,cT,rfl,di,dN,dO⟩:=nQ d (by omega);have c0:=d.cellAt t (by omega)
       have e0:(i64s (T' ++ [(i:Int)]))[t]? = some (.int .i64 i):=by
        unfold i64s;rw[Af,Aw (by simp[ht]),List.length_map,ht,AV];rfl
       rw[e0]at c0;have b0:=m1.w.cell i;have cG:wt[i]? = some true:=(R.tw i).2 (by simp)
       have eb:(boolsV wt).toArray[i]? = some (.bool true):=by
        simp only[boolsV,Ay,AK,cG];rfl
       rw[eb]at b0;have b1:=frz m1.w i;have b2:=m1.w.lt;obtain⟨q0,q1,q2,q3,q4⟩:=gJ m1.r;rw[o.out]at q4;have yr:=m1.r.lt;have ct:=G.size;obtain⟨gb,go,p,q,tt,rfl,ad,g0,Z,g2,g3,g4,s0,s1,s2,s3⟩:=H7.out.code hc;replace g0:=(G.cell (p:=⟨gb,_,none⟩) ad).trans g0;replace Z:=(G.cell (p:=⟨gb,_,none⟩) ad).trans Z;replace g2:=(G.cell (p:=⟨gb,_,none⟩) ad).trans g2;replace g3:=(G.cell (p:=⟨gb,_,none⟩) ad).trans g3;replace g4:=(G.cell (p:=⟨gb,_,none⟩) ad).trans g4;have bn:=S0.out.size;have dP:gb≠wd.heap.size+1+1:=(by omega);obtain⟨pA,pc,rfl⟩:=s1.shape;obtain⟨qA,qc,rfl⟩:=s2.shape;obtain⟨tA,tc,rfl⟩:=s3.shape;have dj:=fQ s1.ir;have dk:=fQ s2.ir;obtain⟨_,_,_,_,cH⟩:=s1.len;obtain⟨_,_,_,_,cI⟩:=s2.len;have bD:=fQ cH;have bE:=fQ cI;clear cH cI;have dm:gT≠wd.heap.size+1+1:=fun e=>(own_ne d m1.w (by decide)) (by rw[e];rfl);have z1:IntKind.i64.wrap (((t+1:Nat):Int) - 1)=(t:Int):=(by rw[show((t+1:Nat):Int) - 1=t by omega];exact IntWalk.i64_in _ (by omega));clear hc ht m1 m2 d R G s0 s1 s2 s3 cG eb e0 bz;go_wp2_with fail;have aJ:=fQ (y.out.pop dh.out (i:=i) (cc:=#[.int .i64 c.op,.int .u64 (c.n:Int),.slice pA c.args.length pc,.slice qA c.outs.length qc,.slice tA c.to.length tc]));have al:=fQ (show Bx w.heap.size w ((X.setCell ⟨wd.heap.size+1+1,i,none⟩ (.bool false)).alloc (.cells #[.int .i64 c.op,.int .u64 (c.n:Int),.slice pA c.args.length pc,.slice qA c.outs.length qc,.slice tA c.to.length tc] 52))from aJ.out.2.2.2.2.2);generalize ((X.setCell ⟨wd.heap.size+1+1,i,none⟩ (.bool false)).alloc (.cells #[.int .i64 c.op,.int .u64 (c.n:Int),.slice pA c.args.length pc,.slice qA c.outs.length qc,.slice tA c.to.length tc] 52))=W1 at aJ al ⊢;clear c0 b0 b1 b2 q0 q1 q2 q3 q4 g0 Z g2 g3 g4 yr di;obtain⟨m1,m2,d,R,G,m6⟩:=aJ.out;have an:=y.out.2.2.2.1.s;obtain⟨sA,bF⟩:∃ sA,A[i]? = some sA:=⟨_,Aj (by rw[an.lA,o.out];exact ax)⟩;obtain⟨tB,cJ⟩:∃ tB,B[i]? = some tB:=⟨_,Aj (by rw[an.lB,o.out];exact ax)⟩;obtain⟨bi,aX⟩:∃ bi,bA[i]? = some bi:=⟨_,Aj (by rw[bx.out];exact ax)⟩;obtain⟨bj,cK⟩:∃ bj,bB[i]? = some bj:=⟨_,Aj (by rw[cD.out];exact ax)⟩;have bG:=fQ bF;have dn:=fQ cJ;have aY:=fQ aX;have ay:=fQ cK;have aK:=fQ (m1.ma i bi sA aX bF);have f0:=m1.f.cell 0;have W:=m1.a.cell i;simp at f0;rw[aZv aX]at W;have f3:=R.cell 2;simp at f3;have y2:=m1.f.lt;have y3:=R.lt;have y4:=m1.a.lt;clear m1 m2 d R G m6 an bF cJ aX cK;go_cut [16] (fun f wx=>f = .bool (decide (sA.length<(nV sA c.args).length))/\Hid (WkRel k w.heap.size (w.heap.size+1) gF gA gB wd.heap.size (wd.heap.size+1+1) #[.slice I r.sig.inn.length J,.slice K r.sig.out.length M,.int .i64 r.places,.slice O r.params.length Q,.slice (some ⟨gb,go,none⟩) r.code.length cc] w bA bB vF F (.slice (some ⟨gT,0,none⟩) t cT) T' X.heap.size #[.int .i64 c.op,.int .u64 (c.n:Int),.slice pA c.args.length pc,.slice qA c.outs.length qc,.slice tA c.to.length tc] (A.set i (nV sA c.args)) B (wt.set i false) wx))
       case first=>as_aux_lemma=>
        have dp:=(y.out.2.2.2.1.s.small C.out).1 sA (Ax bG.out);have dq:=C.out.p2;have dr:=fQ (show c.args.length<=1152921504606846976 by have:=bD.out;omega);have ds:=fQ (show sA.length<=1000000 by omega);clear dp dq;go_region_with ((go_at_call 25;refine(bQq bi sA c.args _ _ aK.out.drew (dj.out.below al.out (Az _)).drew dr.out ds.out).mono ?_;rintro e dQ ⟨rfl,h1,h2,D⟩;have HQ:=fQ (aJ.out.drew.eXx aY.out bG.out h2 h1);clear h1 h2 D))
        all_goals
         go_wp2;go_meet;exact⟨rfl,HQ⟩
       case rest=>
        clear f0 W f3 y2 y3 y4;obtain⟨wp,rfl⟩:∃ wp:Bj,wp=wc:=⟨_,rfl⟩;obtain⟨rfl,aZ⟩:=hcut;obtain⟨b0,cL⟩:=fX (decide (sA.length<(nV sA c.args).length));have bH:=Work.start y.out.2.2.2.1.s ag.out bG.out dn.out;rw[cL]at bH ⊢;have cM:=fQ bH;clear bH cL aJ aK al;obtain⟨m1,m2,d,R,G,m6⟩:=aZ.out;obtain⟨q0,q1,q2,q3,q4⟩:=gJ m1.r;have y2:=m1.r.lt;have cN:=C.out.code c (Ax ag.out)
        have cO:=fQ (show c.to.length<=65 by
         obtain⟨_,h2,_⟩:=yV cN;have:nX c.op<=65:=(by unfold nX;split;omega;split <;> omega)
         omega)
        have cP:=fQ (HR.out.below m6 (Az _));clear m1 m2 d R G m6 cN;go_wp2_with fail;refine(bJv r _ i c _ cP.out ag.out cO.out C.out.n2).mono ?_;rintro en w5 ⟨vn,rfl,aL,aw⟩;obtain⟨An,cn,rfl,_⟩:=gZ aL;have cQ:=fQ (aZ.out.grown aw);have bI:=fQ (lZ aL aZ.out.2.2.2.2.2.size);obtain⟨m,hm⟩:=fX ((oZ c i).length);rw[hm]at bI ⊢;have U:=fQ hm
        have bs:m<=66:=by
         rw[<-hm];have:=cO.out;unfold oZ
         split <;> simp <;> omega
        clear aL aw hm cP q0 q1 q2 q3 q4 y2;have cR:WlRel r k w.heap.size (w.heap.size+1) gF gA gB wd.heap.size (wd.heap.size+1+1) #[.slice I r.sig.inn.length J,.slice K r.sig.out.length M,.int .i64 r.places,.slice O r.params.length Q,.slice (some ⟨gb,go,none⟩) r.code.length cc] w bA bB vF F (.slice (some ⟨gT,0,none⟩) t cT) T' X.heap.size #[.int .i64 c.op,.int .u64 (c.n:Int),.slice pA c.args.length pc,.slice qA c.outs.length qc,.slice tA c.to.length tc] (wt.set i false) A B i c sA (.slice An m cn) (oZ c i) [] b0 w5:=⟨_,_,_,_,cQ.out,cM.out,by rw[U.out];exact bI.out⟩;have cS:=fQ cR;clear cR cQ cM bI aZ;go_wp2_with fail;go_loopw [16,122] (fun tv iv wr=>∃ (j:Nat) (b:Bool),j<=m/\iv = .int .i64 j/\tv = .bool b/\Hid (WlRel r k w.heap.size (w.heap.size+1) gF gA gB wd.heap.size (wd.heap.size+1+1) #[.slice I r.sig.inn.length J,.slice K r.sig.out.length M,.int .i64 r.places,.slice O r.params.length Q,.slice (some ⟨gb,go,none⟩) r.code.length cc] w bA bB vF F (.slice (some ⟨gT,0,none⟩) t cT) T' X.heap.size #[.int .i64 c.op,.int .u64 (c.n:Int),.slice pA c.args.length pc,.slice qA c.outs.length qc,.slice tA c.to.length tc] (wt.set i false) A B i c sA (.slice An m cn) (oZ c i) ((oZ c i).take j) b wr)) (fun _ iv _=>m - (intOf iv).toNat)
        case atStart=>exact⟨0,b0,by omega,rfl,rfl,cS⟩
        case round=>
         clear cS;obtain⟨j,b,hj,rfl,rfl,IW⟩:=hrel;obtain⟨wa,rfl⟩:∃ wa:Bj,wa=wr:=⟨_,rfl⟩;by_cases aj:j<m
         ·have ak:decide ((j:Int)<m)=true:=(by simp;omega);have ab:(j:Int)<m:=(by omega);obtain⟨A1,B1,s1,t1,p1,p2,p3⟩:=IW.out;have P3:=fQ p3;rw[U.out]at p3;obtain⟨x,E⟩:∃ x,(oZ c i)[j]? = some x:=⟨_,Aj (by rw[U.out];exact aj)⟩;have au:=(aXz (C.out.code c (Ax ag.out)) i x).1 (Ax E);have aF:=(C.out.eXy.to i c ag.out).1 x au;obtain⟨q,rfl⟩:∃ q:Nat,x=q:=⟨x.toNat,by omega⟩;have av:q<k:=(by rw[o.out]at aF;omega);have aG:(q:Int)<k:=(by omega);have s0:=Src.eXq p3;obtain⟨nb,no,rfl,aw⟩:=s0.addr (by omega);have c0:=s0.at_ aj;rw[aZj (by rw[U.out];exact aj),(List.getElem?_eq_some_iff.1 E).2]at c0;obtain⟨bk,a6⟩:∃ bk,bA[q]? = some bk:=⟨_,Aj (by rw[bx.out];exact av)⟩;obtain⟨u,hu⟩:∃ u,A1[q]? = some u:=⟨_,Aj (by rw[p2.snd.lA,o.out];exact av)⟩;have f0:=p1.1.f.cell 0;have W:=p1.1.a.cell q;simp at f0;rw[aZv a6]at W;have y2:=p1.1.f.lt;have y4:=p1.1.a.lt;have cU:=fQ (p1.1.ma q bk u a6 hu);have P1:=fQ p1;have P2:=fQ p2;have HU:=fQ hu;have bJ:=fQ a6;have bw:=fQ E;have bL:=fQ au;clear p1 p2 p3 hu a6 E au aF s0;go_wp2_with (at_range;refine aZs _ rfl _ 73 rfl 3 4 underlying73 bk (setKV u) rfl cU.out ?_);rintro w1 hI hg hz;have HI:=fQ (WiRel.start P1.out P2.out P3.out HU.out hg hI);clear hI hg hz cU c0 f0 W y2 y4 P1 P2 P3 HU aw;go_wp2_with fail;go_loopw [16] (fun tv wr=>∃ (b:Bool) (A1 B1:Sets) (s1 t1:List Int) (L:KV),tv = .bool b/\Hid (WiRel r k w.heap.size (w.heap.size+1) gF gA gB wd.heap.size (wd.heap.size+1+1) #[.slice I r.sig.inn.length J,.slice K r.sig.out.length M,.int .i64 r.places,.slice O r.params.length Q,.slice (some ⟨gb,go,none⟩) r.code.length cc] w bA bB vF F (.slice (some ⟨gT,0,none⟩) t cT) T' X.heap.size #[.int .i64 c.op,.int .u64 (c.n:Int),.slice pA c.args.length pc,.slice qA c.outs.length qc,.slice tA c.to.length tc] (wt.set i false) A B i c sA (.slice (some ⟨nb,no,none⟩) m cn) (oZ c i) ((oZ c i).take j) q u bk wa.heap.size A1 B1 s1 t1 L b wr)) (fun _ wr=>wr.rangeLeft bk wa.heap.size)
          case atStart=>exact⟨b,A1,B1,s1,t1,_,rfl,HI⟩
          case round=>as_aux_lemma=>
           clear HI;obtain⟨b1,A2,B2,s2,t2,L,rfl,IV⟩:=hrel;obtain⟨wi,rfl⟩:∃ wi:Bj,wi=wr:=⟨_,rfl⟩;have bM:=fQ IV.out.2.2.2.2.1.left;have dR:=fQ IV.out.2.2.2.2.1.lt;go_wp2_with (at_next;refine aVe _ rfl _ rfl bk wa.heap.size (setKV u) L rfl IV.out.2.2.2.2.1 ?_ ?_)
           ·rintro rfl;have bN:=IV.out.done
            have et:(oZ c i).take j ++ [(q:Int)]=(oZ c i).take (j+1):=by
             obtain⟨aI,e⟩:=List.getElem?_eq_some_iff.1 bw.out;rw[AZ aI,e]
            rw[et]at bN;have dt:=fQ bN;clear bN et;go_wp2;exact⟨⟨j+1,b1,by omega,by simp,rfl,dt⟩,by simp[intOf];omega⟩
           ·rintro L1 p x L2 w2 rfl bO bP du dv;have bQ:=fQ bO;have bT:=fQ bP;obtain⟨Z,g2,dw⟩:=IV.out.turn bO bP;have G1:=fQ Z;have f0:=Z.1.f.cell 1;have W:=Z.1.b.cell i;simp at f0;rw[aZv ay.out]at W;have y2:=Z.1.f.lt;have y4:=Z.1.b.lt;have cV:=fQ IV.out.2.1.b;have dx:=fQ IV.out.2.1.a;have dy:=fQ (Z.1.mb i bj t2 ay.out cV.out);clear bO bP du Z g2 dw;go_wp2_with (at_mapUpdate;refine cXb _ rfl _ _ _ 73 rfl 3 4 underlying73 underlying3 bj (setKV t2) p (.bool true) rfl rfl rfl dy.out ?_);rintro w3 h1 h2 D;rw[bXd]at h1;have H1:=fQ h1;have H2:=fQ h2;have K3:=fQ (G1.out.eXu ay.out cV.out h2 h1);obtain⟨Y,_,_,k4,_,k6⟩:=K3.out;have K6:=fQ k6;have f3:=k4.cell 3;simp at f3;have y3:=k4.lt;have f0:=Y.f.cell 0;have W:=Y.a.cell i;simp at f0;rw[aZv aY.out]at W;have y2:=Y.f.lt;have y4:=Y.a.lt;have aK:=fQ (Y.ma i bi s2 aY.out dx.out);have dz:=bE.out;clear Y k4 k6 h1 h2 D dv;go_wp2_with fail;refine(vY _ c.outs p _ (dk.out.below K6.out (Az _)) (by omega)).mono ?_;rintro en w4 ⟨rfl,rfl⟩;clear dz;by_cases ho:p∈c.outs
            ·rw[decide_eq_true ho];have aM:=fQ (IV.out.skip bQ.out bT.out bJ.out ay.out H1.out H2.out ag.out bL.out (fun aL=>absurd ho aL));clear ho;have ae:=fQ aM.out.2.2.2.2.1.left;go_wp2;refine⟨⟨b1,A2,_,s2,_,L1++L2,rfl,aM⟩,?_⟩;rw[ae.out,bM.out];simp
            ·rw[decide_eq_false ho];have HO:=fQ ho;clear ho;have aN:=(aK.out.lookup (P:=fZ) underlying73 underlying3 (bXe _) p).1;rw[bXc]at aN;by_cases hs:p∈s2
             ·rw[if_pos hs]at aN;have aM:=fQ (IV.out.skip bQ.out bT.out bJ.out ay.out H1.out H2.out ag.out bL.out (fun _=>hs));clear hs;simp only[Option.getD_some]at aN;have ae:=fQ aM.out.2.2.2.2.1.left;go_wp2;refine⟨⟨b1,A2,_,s2,_,L1++L2,rfl,aM⟩,?_⟩;rw[ae.out,bM.out];simp
             ·rw[if_neg hs]at aN;simp only[Option.getD_none]at aN;have cW:aXg (setKV s2) p=none:=(by rw[bXc,if_neg hs]);obtain⟨dS,stamp,dT,cX,ao,dA⟩:=aK.out.entry (P:=fZ) (z:=.bool false) underlying73 underlying3 bXe p cW;obtain⟨dB,dU,bU,az,dC⟩:=cX.store (P:=fZ) 73 (.bool true);have e6:setKV s2 ++ [(p,Value.bool true)]=setKV (s2 ++ [p]):=(by simp[setKV]);rw[e6]at bU;have aq:w3.grownBy dB (some bi):=⟨az.os.trans ao.os,az.tape.trans ao.tape,az.output.trans ao.output,Ad ao.size az.size,fun jj cY cZ=>(az.block jj (AQ cY ao.size) cZ).trans (ao.block jj cY cZ)⟩;have c2:=fQ (IV.out.put bQ.out bT.out bJ.out ay.out H1.out H2.out ag.out bL.out HO.out hs aY.out bU aq);clear hs cW cX ao dA bU az dC e6 aq;have ae:=fQ c2.out.2.2.2.2.1.left;go_wp2;refine⟨⟨true,_,_,_,_,L1++L2,rfl,c2⟩,?_⟩;rw[ae.out,bM.out];simp
         ·have ak:decide ((j:Int)<m)=false:=(by simp;omega);have ab:j=m:=(by omega);subst ab;obtain⟨l,hl⟩:∃ l,F[i]? = some l:=⟨_,Aj (by rw[aW.out.1,o.out];exact ax)⟩;have HL:=fQ hl;clear hl
          obtain⟨A',B',af,ai,aS,a7⟩:=IW.out.main (p:=r.places.toNat) y.out.2.2.2.1 ag.out (fun k' aI=>by
           rw[AW (by rw[U.out];exact Az _)]
           exact(aXz (C.out.code c (Ax ag.out)) i k').2 aI) aW.out HL.out (fun A B hs=>(hs.small C.out).1) o.out
          have a8:=fQ af;have bV:=fQ a7;clear bV
          cases b with
          | false=>as_aux_lemma=>
           have bW:=fQ (aS rfl);have aO:=fQ a8.out.none;clear af ai aS a7 a8;go_wp2;go_roundg (muL k r.places.toNat A' T')
           case measure=>rw[<-IG.out];exact cYd bW.out
           case rel=>exact⟨_,_,_,_,aO,fQ rfl⟩
          | true=>as_aux_lemma=>
           have bW:=fQ (ai rfl);have bV:=fQ a7;have aO:=fQ a8.out.all;clear af ai aS a7 a8;obtain⟨nl,ba⟩:=fX l.length;have a1:=aO.out.1;obtain⟨vi,bb⟩:∃ vi,vF[i]? = some vi:=⟨_,Aj (by rw[a1.rf.1,aW.out.1,o.out];exact ax)⟩;have ar:=a1.rf.2 i vi l bb HL.out;have dD:=dZe ar;rw[ba]at dD;obtain⟨Ai,ci,rfl,_⟩:=gZ ar;have f0:=a1.fr.cell i;have e0:vF.toArray[i]? = some (.slice Ai nl ci):=(by rw[<-ba];simpa using bb);rw[e0]at f0;have y2:=a1.fr.lt;have dE:=fQ bb;have bc:=fQ ba;clear a1 e0 bb ar ba;go_wp2_with fail;go_loopw [9,181] (fun tv iv wr=>∃ (z:Nat) (T:List Int) (wt:List Bool),z<=nl/\iv = .int .i64 z/\Hid (MainRel r k w.heap.size (w.heap.size+1) gF gA gB wd.heap.size (wd.heap.size+1+1) #[.slice I r.sig.inn.length J,.slice K r.sig.out.length M,.int .i64 r.places,.slice O r.params.length Q,.slice (some ⟨gb,go,none⟩) r.code.length cc] w bA bB vF F tv T A' B' wt (l.drop z) wr)) (fun _ iv _=>nl - (intOf iv).toNat)
           case atStart=>exact⟨0,_,_,by omega,rfl,aO⟩
           case round=>
            clear aO;obtain⟨z,T,bX,hz,rfl,IZ⟩:=hrel;obtain⟨wz,rfl⟩:∃ wz:Bj,wz=wr:=⟨_,rfl⟩;by_cases bY:z<nl
            ·have bZ:decide ((z:Int)<nl)=true:=(by simp;omega);have dF:(z:Int)<nl:=(by omega);obtain⟨x,E⟩:∃ x,l[z]? = some x:=⟨_,Aj (by rw[bc.out];exact bY)⟩;obtain⟨q,rfl,aV⟩:=aW.out.2.1 i l HL.out x (Ax E);have av:q<k:=(by rw[o.out]at aV;exact aV);have aG:(q:Int)<k:=(by omega)
             have ed:l.drop z=(q:Int) :: l.drop (z+1):=by
              obtain⟨dG,e⟩:=List.getElem?_eq_some_iff.1 E;rw[List.drop_eq_getElem_cons dG,e]
             have H:=IZ.out;rw[ed]at H;have JZ:=fQ H;have ar:=H.1.rf.2 i _ l dE.out HL.out;rw[bc.out]at ar;have s0:=Src.eXq ar;obtain⟨nb,no,rfl,aw⟩:=s0.addr (by omega);have c0:=s0.at_ bY;rw[aZj (by rw[bc.out];exact bY),(List.getElem?_eq_some_iff.1 E).2]at c0;have aP:q<bX.length:=(by rw[H.2.2.2.1.lw,o.out];exact av);obtain⟨bq,b3⟩:∃ bq,bX[q]? = some bq:=⟨_,Aj aP⟩;have b0:=H.1.w.cell q
             have eb:(boolsV bX).toArray[q]? = some (.bool bq):=by
              simp only[boolsV,Ay,AK,b3];rfl
             rw[eb]at b0;have y3:=H.1.w.lt;have b4:=fQ b3;obtain⟨tz,b5⟩:=fX T.length
             have dH:tz<=4096:=by
              have:=aWg H.2.2.2.1;rw[o.out]at this;omega
             have b6:=H.2.2.1;rw[b5]at b6;have c3:=fQ b6;have b7:=fQ b5;have dV:=H.1.eXk;clear E ed H ar s0 b3 eb b6 b5 aP
             cases bq with
             | true=>
              have HW:=fQ (JZ.out.waits b4.out);clear IZ;go_wp2;exact⟨⟨z+1,_,_,by omega,by simp,HW⟩,by simp[intOf];omega⟩
             | false=>
              obtain⟨Av,cv,rfl,_⟩:=gZ c3.out;clear IZ;go_wp2_with (at_builtin;refine kV _ rfl (.tmp 192) (.tmp 194) 23 rfl w.heap.size 3 (.int .i64 0) 1 8 underlying23 uZ rfl (by omega) (.slice Av tz cv) tz (i64s T) rfl (jY c3.out _) (some ⟨wz.heap.size,0,none⟩) 1 1 [.int .i64 (q:Int)] rfl (bQd _ _ _) (aZg _ _) (by unfold maxLen;omega) (by omega) (by simp;omega) ?_);rintro v2 w2 h1 h2 D _;have el:i64s T ++ [.int .i64 (q:Int)]=i64s (T ++ [(q:Int)]):=(by simp[i64s]);rw[el,<-b7.out]at h1;rw[<-b7.out]at h2 D;have JA:=JZ.out.alloc (.cells #[.int .i64 (q:Int)] 3);rw[<-b7.out]at JA;have HP:=fQ (JA.push b4.out h1 h2 (by simpa using D));have aq:=JA.1.w.grown h2 (own_ne JA.2.2.1 JA.1.w (by decide));have d1:=frz aq q;have d2:=aq.lt
              have d0:w2.cell? ⟨wd.heap.size+1+1,q,none⟩=some (.bool false):=by
               rw[aq.cell q];simp only[boolsV,Ay,AK,b4.out];rfl
              clear h1 h2 D el JA aq;go_wp2;exact⟨⟨z+1,_,_,by omega,by simp,HP⟩,by simp[intOf];omega⟩
            ·have bZ:decide ((z:Int)<nl)=false:=(by simp;omega);have dW:z=nl:=(by omega);have H:=IZ.out;have ed:l.drop z = []:=List.drop_eq_nil_of_le (by rw[bc.out];omega);rw[ed]at H;have JZ:=fQ H;have hT:=aWg H.2.2.2.1;rw[o.out]at hT;have HT:=fQ hT;clear H ed IZ hT;go_wp2;go_roundg (muL k r.places.toNat A' T)
             case measure=>rw[<-IG.out];exact cYc bW.out bV.out HT.out
             case rel=>exact⟨_,_,_,_,JZ,fQ rfl⟩
def Told(w:Bj)(base:Nat)(v:Bq)(n:Nat)(Q:Nat->Int->Prop):Prop:=∃ vs P,w.ownsRow base 23 1 v n vs/\RowsOf w base vs P/\P.length=n/\∀ (i:Nat) p,P[i]? = some p->IsSet p (Q i)
def bJk(e:EnvD)(r:RowD)(n:Nat)(Q:Nat->Int->Prop)(w:Bj)(a:Ending)(w':Bj):Prop:=
 (¬CheckP e r/\a = .returned (.tuple #[.slice none 0 0,.int .i64 6])/\Bx w.heap.size w w') \/
 (CheckP e r/\∃ v,a = .returned (.tuple #[v,.int .i64 0])/\Told w' w.heap.size v n Q/\Bx w.heap.size w w')
theorem Looked.row{r:RowD}{base gF gA gB:Nat}{bA bB:List Nat}{A B:Sets}(h:Looked r w base gF gA gB bA bB A B){e:EnvD}(hc:CheckP e r):(∀ s∈A,s.Nodup/\s.length<=1000000)/\(∀ s∈B,s.Nodup/\s.length<=1000000)/\A.length=r.code.length/\B.length=r.code.length/\r.code.length<=1000000:=by
 have hs:=h.s.small hc;have hp:=hc.p2;have hn:=hc.n2;exact⟨fun s q=>⟨h.s.nA s q,by have:=hs.1 s q;omega⟩,fun s q=>⟨h.s.nB s q,by have:=hs.2 s q;omega⟩,h.s.lA,h.s.lB,by omega⟩
theorem bQf{A:Sets}{a:Ending}(h:bJs A w a w'){Q:Nat->Int->Prop}(b:∀ (i:Nat) s x,A[i]? = some s->(x∈s↔Q i x)):∃ v,a = .returned v/\Told w' w.heap.size v A.length Q/\Bx w.heap.size w w':=by
 obtain⟨v,vs,P,h1,h2,c,d,e,f⟩:=h;refine⟨v,h1,⟨vs,P,h2,c,d,fun i p hp=>?_⟩,f⟩;have hi:=(List.getElem?_eq_some_iff.1 hp).1;have hs:=Aj (show i<A.length by omega);have q:=e i _ p hs hp;exact⟨q.1,fun x=>(q.2 x).trans (b i _ x hs)⟩
theorem Told.mono{n:Nat}{Q:Nat->Int->Prop}(h:Told w a v n Q)(hb:b<=a):Told w b v n Q:=by
 obtain⟨vs,P,h1,h2,c,d⟩:=h;exact⟨vs,P,lZ h1 hb,⟨h2.1,fun i u p q1 e=>lZ (h2.2 i u p q1 e) hb⟩,c,d⟩
theorem Told.below{n:Nat}{Q:Nat->Int->Prop}(h:Told w a v n Q)(hb:Bx w.heap.size w w'):Told w' a v n Q:=by
 obtain⟨vs,P,h1,h2,b,c⟩:=h;exact⟨vs,P,oY h1 hb (Az _),⟨h2.1,fun i u p q1 d=>oY (h2.2 i u p q1 d) hb (Az _)⟩,b,c⟩
theorem bXg(e:EnvD)(r:RowD)(k g:Bq)(w:Bj)(he:EnvV w k e)(l:RowV w g r):Calls fZ 8 #[k,g] w (bJk e r r.code.length (Live r) w):=by
 have s:=fQ he;have t:=fQ l;obtain⟨u,vb,x,rfl,h1,h2,y⟩:=he;obtain⟨z,C,g,vs,rfl,D,E,F,G⟩:=l;clear h1 h2 y D E F G;have c:=fQ (al2 w (.cells #[u,.int .i64 e.imports,vb,x,.bool e.mem] 26) (.cells #[z,C,.int .i64 r.places,g,vs] 43));go_in;go_wp2_with fail;refine(aWp e r _ _ _ (s.out.below c.out (Az _)) (t.out.below c.out (Az _))).mono ?_;rintro H w1 (⟨m,rfl,hb⟩ | ⟨hc,gF,gA,gB,bA,bB,A,B,rfl,b,hb⟩)
 ·have d:=fQ (c.out.trans (hb.mono c.out.size));have I:=fQ m;clear m hb;go_wp2;go_ret2;exact .inl ⟨I.out,rfl,d.out⟩
 ·have d:=fQ (c.out.trans (hb.mono c.out.size));have J:=fQ hc;have K:=fQ b;have f0:=b.f.cell 0;simp at f0;have y0:=b.f.lt;obtain⟨n,_,h,_,o⟩:=b.row hc;have i:=aKe gA bA A w1 b.a b.la b.ma n (by rw[h];exact o);rw[h]at i;have p:=fQ i;have L:=fQ h;clear hc b i n h o hb;go_wp2_with fail;refine p.out.mono ?_;rintro H w2 hp;obtain⟨v,rfl,j,q⟩:=bQf hp K.out.eA;rw[L.out]at j;have M:=fQ (j.mono d.out.size);have N:=fQ (d.out.trans (q.mono d.out.size));clear hp j q p f0 y0;go_wp2;go_ret2;exact .inr ⟨J.out,v,rfl,M.out,N.out⟩
theorem bYn(e:EnvD)(r:RowD)(k g:Bq)(w:Bj)(he:EnvV w k e)(l:RowV w g r):Calls fZ 21 #[k,g] w (bJk e r r.code.length (LiveB r) w):=by
 have s:=fQ he;have t:=fQ l;obtain⟨u,vb,x,rfl,h1,h2,y⟩:=he;obtain⟨z,C,g,vs,rfl,D,E,F,G⟩:=l;clear h1 h2 y D E F G;have c:=fQ (al2 w (.cells #[u,.int .i64 e.imports,vb,x,.bool e.mem] 26) (.cells #[z,C,.int .i64 r.places,g,vs] 43));go_in;go_wp2_with fail;refine(aWp e r _ _ _ (s.out.below c.out (Az _)) (t.out.below c.out (Az _))).mono ?_;rintro H w1 (⟨m,rfl,hb⟩ | ⟨hc,gF,gA,gB,bA,bB,A,B,rfl,a,hb⟩)
 ·have d:=fQ (c.out.trans (hb.mono c.out.size));have I:=fQ m;clear m hb;go_wp2;go_ret2;exact .inl ⟨I.out,rfl,d.out⟩
 ·have d:=fQ (c.out.trans (hb.mono c.out.size));have J:=fQ hc;have K:=fQ a;have f0:=a.f.cell 1;simp at f0;have y0:=a.f.lt;obtain⟨_,n,_,h,o⟩:=a.row hc;have i:=aKe gB bB B w1 a.b a.lb a.mb n (by rw[h];exact o);rw[h]at i;have p:=fQ i;have L:=fQ h;clear hc a i n h o hb;go_wp2_with fail;refine p.out.mono ?_;rintro H w2 hp;obtain⟨v,rfl,j,q⟩:=bQf hp K.out.eB;rw[L.out]at j;have M:=fQ (j.mono d.out.size);have N:=fQ (d.out.trans (q.mono d.out.size));clear hp j q p f0 y0;go_wp2;go_ret2;exact .inr ⟨J.out,v,rfl,M.out,N.out⟩
def AcrossP(r:RowD)(x:Int):Prop:=∃ i c,r.code[i]? = some c/\c.op=16/\LiveB r i x/\x ∉ c.outs
theorem Looked.below{r:RowD}{w w':Bj}{base gF gA gB:Nat}{bA bB:List Nat}{A B:Sets}(h:Looked r w base gF gA gB bA bB A B){N:Nat}(hb:Bx N w w')(c:w.heap.size<=N):Looked r w' base gF gA gB bA bB A B:=
 { h with f:=h.f.below hb (AQ h.f.lt c),a:=h.a.below hb (AQ h.a.lt c),b:=h.b.below hb (AQ h.b.lt c),ma:=fun i b s q1 d=>(h.ma i b s q1 d).below hb (AQ (h.ma i b s q1 d).lt c),mb:=fun i b s q1 d=>(h.mb i b s q1 d).below hb (AQ (h.mb i b s q1 d).lt c) }
section
variable {r:RowD} {N bS k bj rI gC:Nat} {w1 w w':Bj} {c:CodeD} {t s:List Int} {cc:Array Bq} {L:KV}
end
def Beh(r:RowD)(i:Nat)(c:CodeD)(p:Int):Prop:=(LiveB r i p/\(c.op=272->∀ a,c.args[0]? = some a->p≠a))\/p∈c.outs
def bZv(r:RowD)(o p:Int):Prop:=∃ i c,r.code[i]? = some c/\o∈c.outs/\Beh r i c p
def bYr(r:RowD)(a b:Int):Prop:=a∈r.params/\(b∈r.params\/Live r 0 b)
def Clashes(r:RowD)(a b:Int):Prop:=a≠b/\((bZv r a b\/bYr r a b)\/(bZv r b a\/bYr r b a))
abbrev Rel2:=Int->Int->Prop
structure MetC (C:Sets) (M:Rel2):Prop where
 nd:∀ s∈C,s.Nodup
 eq:∀ (a:Nat) s,C[a]? = some s->∀ x,x∈s↔((a:Int)≠x/\(M a x\/M x a))
 rg:∀ a b,M a b->(0<=a/\a<C.length)/\0<=b/\b<C.length
def aZf(C:Sets)(a:Nat)(x:Int):Sets:=match C[a]? with
 | some s=>C.set a (ins s x)
 | none=>C
def aXy(C:Sets)(a b:Nat):Sets:=if a=b then C else aZf (aZf C a b) b a
theorem aWl(C:Sets)(a:Nat)(x:Int):(aZf C a x).length=C.length:=by
 unfold aZf
 split <;> simp
theorem bJn{C:Sets}{s:List Int}(h:C[a]? = some s)(x:Int):aZf C a x=C.set a (ins s x):=by simp[aZf,h]
theorem bXh(C:Sets)(a b:Nat):(aXy C a b).length=C.length:=by
 unfold aXy
 split
 ·rfl
 ·rw[aWl,aWl]
theorem aVg{C:Sets}(h:(aZf C a x)[j]? = some u):∃ s,C[j]? = some s/\((j=a/\u=ins s x)\/(j≠a/\u=s)):=by
 unfold aZf at h
 cases hs:C[a]? with
 | none=>
  rw[hs]at h;refine⟨u,h,.inr ⟨fun e=>?_,rfl⟩⟩;subst e;rw[hs]at h;cases h
 | some s=>
  rw[hs]at h;rcases qZ h with⟨e,e2,_⟩ | ⟨e,e2⟩
  ·subst e;exact⟨s,hs,.inl ⟨rfl,e2⟩⟩
  ·exact⟨u,e2,.inr ⟨fun b=>e b.symm,rfl⟩⟩
theorem MetC.meet{C:Sets}{M:Rel2}(h:MetC C M)(ha:a<C.length)(hb:b<C.length):MetC (aXy C a b) (fun x y=>M x y\/(x=(a:Int)/\y=(b:Int))) where
 nd s hs:=by
  obtain⟨j,d⟩:=List.mem_iff_getElem?.1 hs;unfold aXy at d
  split at d
  ·exact h.nd s (Ax d)
  ·obtain⟨s1,h1,h2⟩:=aVg d;obtain⟨s2,f,c⟩:=aVg h1;have n2:=h.nd s2 (Ax f)
   have n1:s1.Nodup:=by
    rcases c with⟨_,c⟩ | ⟨_,c⟩ <;> rw[c]
    ·exact aXu n2
    ·exact n2
   rcases h2 with⟨_,h2⟩ | ⟨_,h2⟩ <;> rw[h2]
   ·exact aXu n1
   ·exact n1
 eq j s d x:=by
  unfold aXy at d
  split at d
  ·rename_i e;subst e;rw[h.eq j s d x];constructor
   ·rintro⟨h1,h2 | h2⟩
    ·exact⟨h1,.inl (.inl h2)⟩
    ·exact⟨h1,.inr (.inl h2)⟩
   ·rintro⟨h1,(h2 | ⟨h2,f⟩) | (h2 | ⟨h2,f⟩)⟩
    ·exact⟨h1,.inl h2⟩
    ·omega
    ·exact⟨h1,.inr h2⟩
    ·omega
  ·rename_i ad;obtain⟨s1,h1,h2⟩:=aVg d;obtain⟨s2,f,c⟩:=aVg h1;have he:=h.eq j s2 f x
   have i:x∈s1↔(x∈s2\/(j=a/\x=(b:Int))):=by
    rcases c with⟨g,c⟩ | ⟨g,c⟩ <;> rw[c]
    ·rw[vQ];simp[g]
    ·simp[g]
   have k:x∈s↔(x∈s1\/(j=b/\x=(a:Int))):=by
    rcases h2 with⟨g,c⟩ | ⟨g,c⟩ <;> rw[c]
    ·rw[vQ];simp[g]
    ·simp[g]
   rw[k,i,he];constructor
   ·rintro((⟨h1,h2 | h2⟩ | ⟨h1,h2⟩) | ⟨h1,h2⟩)
    ·exact⟨h1,.inl (.inl h2)⟩
    ·exact⟨h1,.inr (.inl h2)⟩
    ·exact⟨by omega,.inl (.inr ⟨by omega,h2⟩)⟩
    ·exact⟨by omega,.inr (.inr ⟨h2,by omega⟩)⟩
   ·rintro⟨h1,(h2 | ⟨h2,f⟩) | (h2 | ⟨h2,f⟩)⟩
    ·exact .inl (.inl ⟨h1,.inl h2⟩)
    ·exact .inl (.inr ⟨by omega,f⟩)
    ·exact .inl (.inl ⟨h1,.inr h2⟩)
    ·exact .inr ⟨by omega,h2⟩
 rg x y l:=by
  rw[bXh];rcases l with h1 | ⟨h1,h2⟩
  ·exact h.rg x y h1
  ·omega
theorem MetC.start(P:Nat):MetC (Ak P []) (fun _ _=>False) where
 nd s hs:=by have:=Aa hs;rw[this];simp
 eq j s a x:=by
  obtain⟨_,e⟩:=List.getElem?_eq_some_iff.1 a;simp at e;subst e;simp
 rg _ _ h:=h.elim
theorem MetC.small{C:Sets}{M:Rel2}(h:MetC C M):∀ s∈C,s.length<=C.length:=fun s hs=>by
 obtain⟨j,a⟩:=List.mem_iff_getElem?.1 hs
 exact sZ (h.nd s hs) (fun x b=>by
  rcases((h.eq j s a x).1 b).2 with h1 | h1
  ·exact(h.rg _ _ h1).2
  ·exact(h.rg _ _ h1).1)
def KeptBut(S:List Nat)(w w':Bj):Prop:=w.heap.size<=w'.heap.size/\∀ k,k<w.heap.size->k ∉ S->w'.heap[k]? = w.heap[k]?
theorem KeptBut.refl(S:List Nat)(w:Bj):KeptBut S w w:=⟨Az _,fun _ _ _=>rfl⟩
theorem KeptBut.trans{S:List Nat}{a b c:Bj}(h:KeptBut S a b)(k:KeptBut S b c):KeptBut S a c:=⟨Ad h.1 k.1,fun j d hn=>(k.2 j (AQ d h.1) hn).trans (h.2 j d hn)⟩
theorem KeptBut.grown(h:w.grownBy w' (some b))(hb:b∈S):KeptBut S w w':=⟨h.size,fun k a hn=>h.block k a (fun e=>by injection e with e;subst e;exact hn hb)⟩
theorem KeptBut.alloc(S:List Nat)(w:Bj)(o:Obj):KeptBut S w (w.alloc o):=⟨by simp,fun k a _=>(AY w o none).block k a (by simp)⟩
theorem dZf{r:Nat}{m L:KV}(h:IT w b r m L)(a:KeptBut S w w')(hb:b ∉ S)(c:r ∉ S):IT w' b r m L:=by
 have d:=h.im.lt;have e:=h.lt;obtain⟨f,clock,seen,h1,h2,g,i,j,k⟩:=h;exact⟨f,clock,seen,(a.2 b d hb).trans h1,h2,g,i,(a.2 r e c).trans j,k⟩
theorem cYf{t:TypeId}{cs:Array Bq}(h:Blk w g t cs)(a:KeptBut S w w')(hg:g ∉ S):Blk w' g t cs:=(a.2 g h.lt hg).trans h
structure CkM (w1 w:Bj) (N gK gC:Nat) (bC:List Nat) (C:Sets):Prop where
 k:Blk w gK 71 #[.slice (some ⟨gC,0,none⟩) C.length C.length]
 c:Blk w gC 73 (mapsV bC).toArray
 lc:bC.length=C.length
 mc:∀ (i:Nat) b s,bC[i]? = some b->C[i]? = some s->IM w b (setKV s)
 nd:bC.Nodup
 lK:N<=gK
 lC:N<=gC
 lb:∀ b∈bC,N<=b
 bel:Bx N w1 w
 hz:N<=w1.heap.size
section
variable {w1 w w':Bj} {N gK gC:Nat} {bC:List Nat} {C:Sets}
theorem CkM.eZx(h:CkM w1 w N gK gC bC C){t:TypeId}{cs:Array Bq}(k:Blk w g t cs):g ∉ bC:=fun a=>by
 obtain⟨i,hi⟩:=List.mem_iff_getElem?.1 a;have b:=(List.getElem?_eq_some_iff.1 hi).1;exact(h.mc i g _ hi (Aj (by rw[<-h.lc];exact b))).eXp k rfl
theorem CkM.eZo(h:CkM w1 w N gK gC bC C){r:Nat}{m L:KV}(k:IT w b r m L):r ∉ bC:=fun a=>by
 obtain⟨i,hi⟩:=List.mem_iff_getElem?.1 a;have c:=(List.getElem?_eq_some_iff.1 hi).1;exact aXi k (h.mc i r _ hi (Aj (by rw[<-h.lc];exact c))) rfl
theorem CkM.hsz(h:CkM w1 w N gK gC bC C):N<=w.heap.size:=Ad h.hz h.bel.size
theorem CkM.grown{r:Option Nat}(h:CkM w1 w N gK gC bC C)(hg:w.grownBy w' r)(a:∀ g,r=some g->N<=g/\g≠gK/\g≠gC/\g ∉ bC):CkM w1 w' N gK gC bC C:=
 { h with k:=h.k.grown hg (fun e=>(a _ e).2.1 rfl),c:=h.c.grown hg (fun e=>(a _ e).2.2.1 rfl),mc:=fun i b s q1 d=>(h.mc i b s q1 d).grown hg (fun e=>(a _ e).2.2.2 (Ax q1)),bel:=jV h.bel hg h.hsz (fun g e=>(a g e).1) }
theorem CkM.alloc(h:CkM w1 w N gK gC bC C)(o:Obj):CkM w1 (w.alloc o) N gK gC bC C:=h.grown (AY w o none) (fun g e=>by cases e)
theorem CkM.put(h:CkM w1 w N gK gC bC C){s:List Int}(hb:bC[a]? = some b)(hs:C[a]? = some s)(hg:w.grownBy w' (some b))(f:IM w' b (setKV (ins s x))):CkM w1 w' N gK gC bC (aZf C a x):=by
 rw[bJn hs];have hi:=h.mc a b s hb hs;refine { k:=?_,c:=h.c.grown hg (fun e=>by injection e with e;exact hi.eXp h.c e),lc:=by rw[Ah];exact h.lc,mc:=fun j c u q1 i=>?_,nd:=h.nd,lK:=h.lK,lC:=h.lC,lb:=h.lb,bel:=jV h.bel hg h.hsz (fun g e=>by injection e with e;rw[<-e];exact h.lb b (Ax hb)),hz:=h.hz }
 ·rw[Ah];exact h.k.grown hg (fun e=>by injection e with e;exact hi.eXp h.k e)
 ·rcases qZ i with⟨e,e2,_⟩ | ⟨e,e2⟩
  ·subst e;subst e2;rw[hb]at q1;injection q1 with q1;subst q1;exact f
  ·exact(h.mc j c u q1 e2).grown hg (fun d=>by injection d with d;subst d;exact e (aZy h.nd hb q1))
end
def dKo(w1:Bj)(N gK gC:Nat)(bC:List Nat)(C:Sets)(a b:Nat)(w:Bj)(c:Ending)(w':Bj):Prop:=c = .returned (.tuple #[])/\CkM w1 w' N gK gC bC (aXy C a b)/\KeptBut bC w w'
theorem cYg(w1:Bj)(N gK gC:Nat)(bC:List Nat)(C:Sets)(a b:Nat)(w:Bj)(h:CkM w1 w N gK gC bC C)(ha:a<C.length)(hb:b<C.length)(hs:∀ s∈C,s.length<=C.length)(hn:C.length<=100000):
  Calls fZ 24 #[.int .i64 (a:Int),.int .i64 (b:Int),.pointer (some ⟨gK,0,none⟩)] w (dKo w1 N gK gC bC C a b w):=by
 have H:=fQ h;have HS:=fQ hs;by_cases hab:a=b
 ·subst hab;have hq:((a:Int) != (a:Int))=false:=(by simp);clear h hs;go_in;go_wp2;go_end0;refine⟨rfl,?_,KeptBut.refl _ _⟩;unfold aXy;rw[if_pos rfl];exact H.out
 ·have hq:((a:Int) != (b:Int))=true:=(by simp;omega);have u:=fQ hab;obtain⟨l,e⟩:∃ s,C[a]? = some s:=⟨_,Aj ha⟩;obtain⟨m,f⟩:∃ s,bC[a]? = some s:=⟨_,Aj (by rw[h.lc];exact ha)⟩;obtain⟨g,o⟩:∃ s,C[b]? = some s:=⟨_,Aj hb⟩;obtain⟨p,v⟩:∃ s,bC[b]? = some s:=⟨_,Aj (by rw[h.lc];exact hb)⟩;have f0:=h.k.cell 0;simp at f0;have q:=h.c.cell a;have e0:(mapsV bC).toArray[a]? = some (.map (some m)):=(by simp[mapsV,f]);rw[e0]at q;obtain⟨n,i⟩:=fX C.length;rw[i]at f0 ha hb hn;have ax:(a:Int)<(n:Int):=(by omega);have ay:(b:Int)<(n:Int):=(by omega);have y1:=h.k.lt;have y2:=h.c.lt;have x:=fQ e;have y:=fQ f;have B:=fQ o;have j:=fQ v;have D:=fQ i;have z:=fQ (h.mc a m l f e);have E:=hs l (Ax e);have F:=hs g (Ax o);rw[i]at E F;clear h hs hab e f o v i e0;go_in;go_wp2_with fail;refine(bQq m l [(b:Int)] _ _ (z.out.alloc _) (IR.one (Blk.new _ _ _)) (by simp) (by omega)).mono ?_;rintro G I ⟨rfl,h1,h2,r⟩;have A:=fQ ((H.out.alloc (.cells #[.int .i64 (b:Int)] 3)).put y.out x.out h2 h1);have J:=fQ ((KeptBut.alloc bC w (.cells #[.int .i64 (b:Int)] 3)).trans (KeptBut.grown h2 (Ax y.out)));have d:=A.out;have f0:=d.k.cell 0;simp at f0;rw[aWl,D.out]at f0;have q:=d.c.cell b;have e0:(mapsV bC).toArray[b]? = some (.map (some p)):=(by simp[mapsV,j.out]);rw[e0]at q;have y1:=d.k.lt;have y2:=d.c.lt
  have t:(aZf C a b)[b]? = some g:=by
   rw[bJn x.out,List.getElem?_set_ne u.out];exact B.out
  have K:=fQ t;have L:=fQ (d.mc b p g j.out t);clear h1 h2 r d e0 t z;go_wp2_with fail;refine(bQq p g [(a:Int)] _ _ (L.out.alloc _) (IR.one (Blk.new _ _ _)) (by simp) (by omega)).mono ?_;rintro G w4 ⟨rfl,h1,h2,r⟩;have M:=fQ ((A.out.alloc (.cells #[.int .i64 (a:Int)] 3)).put j.out K.out h2 h1);have O:=fQ (J.out.trans ((KeptBut.alloc bC I (.cells #[.int .i64 (a:Int)] 3)).trans (KeptBut.grown h2 (Ax j.out))));clear h1 h2 r;go_wp2;go_end0;refine⟨rfl,?_,O.out⟩;unfold aXy;rw[if_neg u.out];exact M.out
def CS(S c:Rel2)(P:Nat)(w1:Bj)(N gK gC:Nat)(bC:List Nat)(w:Bj):Prop:=∃ C M,CkM w1 w N gK gC bC C/\MetC C M/\C.length=P/\(∀ a b,M a b->S a b)/\∀ a b,c a b->M a b
theorem CS.eXo{S c d:Rel2}(h:CS S c P w1 N gK gC bC w)(e:∀ a b,d a b->c a b):CS S d P w1 N gK gC bC w:=by
 obtain⟨C,M,h1,h2,f,g,i⟩:=h;exact⟨C,M,h1,h2,f,g,fun a b hab=>i a b (e a b hab)⟩
theorem CS.grown{S d:Rel2}{P:Nat}{w1 w w':Bj}{N gK gC:Nat}{bC:List Nat}{r:Option Nat}(h:CS S d P w1 N gK gC bC w)(hg:w.grownBy w' r)(f:∀ g,r=some g->N<=g/\∃ b m L,IT w b g m L):CS S d P w1 N gK gC bC w':=by
 obtain⟨C,M,h1,h2,i,j,l⟩:=h;refine⟨C,M,h1.grown hg (fun g e=>?_),h2,i,j,l⟩;obtain⟨q1,b,m,L,a⟩:=f g e;exact⟨q1,yK a h1.k,yK a h1.c,h1.eZo a⟩
theorem CS.alloc{S a:Rel2}{P:Nat}{w1 w:Bj}{N gK gC:Nat}{bC:List Nat}(h:CS S a P w1 N gK gC bC w)(o:Obj):CS S a P w1 N gK gC bC (w.alloc o):=h.grown (AY w o none) (fun g e=>by cases e)
theorem CS.bel{S a:Rel2}{P:Nat}{w1 w:Bj}{N gK gC:Nat}{bC:List Nat}(h:CS S a P w1 N gK gC bC w):Bx N w1 w/\N<=w.heap.size:=by
 obtain⟨C,M,h1,_⟩:=h;exact⟨h1.bel,h1.hsz⟩
def dKp(S c:Rel2)(P:Nat)(w1:Bj)(N gK gC:Nat)(bC:List Nat)(a b:Nat)(w:Bj)(d:Ending)(w':Bj):Prop:=
 d = .returned (.tuple #[])/\CS S (fun x y=>c x y\/(x=(a:Int)/\y=(b:Int))) P w1 N gK gC bC w'/\KeptBut bC w w'
theorem aZl(S d:Rel2)(P:Nat)(w1:Bj)(N gK gC:Nat)(bC:List Nat)(a b:Nat)(w:Bj)(h:CS S d P w1 N gK gC bC w)(ha:a<P)(hb:b<P)(e:S a b)(f:P<=100000):
  Calls fZ 24 #[.int .i64 (a:Int),.int .i64 (b:Int),.pointer (some ⟨gK,0,none⟩)] w (dKp S d P w1 N gK gC bC a b w):=by
 obtain⟨C,M,h1,h2,g,i,j⟩:=h;subst g;refine(cYg w1 N gK gC bC C a b w h1 ha hb h2.small f).mono ?_;rintro en w' ⟨rfl,q1,k⟩;refine⟨rfl,⟨_,_,q1,h2.meet ha hb,bXh C a b,fun x y c=>?_,fun x y c=>?_⟩,k⟩
 ·rcases c with c | ⟨l,e2⟩
  ·exact i x y c
  ·rw[l,e2];exact e
 ·rcases c with c | c
  ·exact .inl (j x y c)
  ·exact .inr c
theorem bQl{a b:KV}{x:Bq}(h:y ∉ (a++b).map (·.1))(hp:y≠p):y ∉ (a++(p,x) :: b).map (·.1):=by
 simp only[Af,List.map_cons,List.mem_append,List.mem_cons,not_or]at h ⊢;exact⟨h.1,hp,h.2⟩
def Sall(r:RowD):Rel2:=fun a b=>bZv r a b\/bYr r a b
def aWm(r:RowD)(k:Nat):Rel2:=fun x y=>∃ i c,i<k/\r.code[i]? = some c/\x∈c.outs/\Beh r i c y
def aWn(r:RowD)(k:Nat)(c:CodeD)(j:Nat):Rel2:=fun x y=>aWm r k x y\/(x∈c.outs.take j/\Beh r k c y)
def aJd(r:RowD)(k:Nat)(c:CodeD)(j:Nat)(o:Int)(t:List Int)(L:KV):Rel2:=fun x y=>aWn r k c j x y\/(x=o/\y∈t/\y ∉ L.map (·.1)/\(c.op=272->∀ a,c.args[0]? = some a->y≠a))
def bQm(r:RowD)(k:Nat)(c:CodeD)(j:Nat)(o:Int)(z:Nat):Rel2:=fun x y=>aWn r k c j x y\/(x=o/\((LiveB r k y/\(c.op=272->∀ a,c.args[0]? = some a->y≠a))\/y∈c.outs.take z))
def aWo(r:RowD)(k:Nat):Rel2:=fun x y=>aWm r r.code.length x y\/(x∈r.params.take k/\(y∈r.params\/Live r 0 y))
def bQn(r:RowD)(k:Nat)(a:Int)(j:Nat):Rel2:=fun x y=>aWo r k x y\/(x=a/\y∈r.params.take j)
def bQo(r:RowD)(k:Nat)(a:Int)(u:List Int)(L:KV):Rel2:=fun x y=>aWo r k x y\/(x=a/\(y∈r.params\/(y∈u/\y ∉ L.map (·.1))))
theorem yW(h:l[j]? = some x):y∈l.take (j+1)↔y∈l.take j\/y=x:=by
 obtain⟨a,e⟩:=List.getElem?_eq_some_iff.1 h;rw[AZ a,e];simp
theorem aJe(h:l.length<=j):y∈l.take j↔y∈l:=by rw[AW h]
theorem cJd{r:RowD}{c:CodeD}(hc:r.code[k]? = some c)(d:c.outs.length<=j)(x y:Int)(h:aWm r (k+1) x y):aWn r k c j x y:=by
 obtain⟨i,f,h1,h2,a,b⟩:=h;by_cases e:i=k
 ·subst e;rw[hc]at h2;injection h2 with h2;subst h2;exact .inr ⟨(aJe d).2 a,b⟩
 ·exact .inl ⟨i,f,by omega,h2,a,b⟩
theorem bYs{r:RowD}{c:CodeD}(x y:Int)(h:aWn r k c 0 x y):aWm r k x y:=by
 rcases h with h | ⟨h,_⟩
 ·exact h
 ·simp at h
theorem bYt{r:RowD}{c:CodeD}(x y:Int)(h:aJd r k c j o t (setKV t) x y):aWn r k c j x y:=by
 rcases h with h | ⟨_,h2,a,_⟩
 ·exact h
 ·have e:(setKV t).map (·.1)=t:=by simp[setKV,Function.comp_def]
  rw[e]at a;exact absurd h2 a
theorem cJe{r:RowD}{c:CodeD}{b d:KV}(hp:¬(c.op=272->∀ a,c.args[0]? = some a->p≠a))(x y:Int)(h:aJd r k c j o t (b++d) x y):aJd r k c j o t (b++(p,v) :: d) x y:=by
 rcases h with h | ⟨h1,h2,g,f⟩
 ·exact .inl h
 ·by_cases e:y=p
  ·subst e;exact absurd f hp
  ·exact .inr ⟨h1,h2,bQl g e,f⟩
theorem bJo{r:RowD}{c:CodeD}{a b:KV}(x y:Int)(h:aJd r k c j o t (a++b) x y):aJd r k c j o t (a++(p,v) :: b) x y\/(x=o/\y=p):=by
 rcases h with h | ⟨h1,h2,d,f⟩
 ·exact .inl (.inl h)
 ·by_cases e:y=p
  ·exact .inr ⟨h1,e⟩
  ·exact .inl (.inr ⟨h1,h2,bQl d e,f⟩)
theorem cJf{r:RowD}{c:CodeD}(a:∀ x,x∈t↔LiveB r k x)(x y:Int)(h:bQm r k c j o 0 x y):aJd r k c j o t [] x y:=by
 rcases h with h | ⟨h1,⟨h2,b⟩ | h2⟩
 ·exact .inl h
 ·exact .inr ⟨h1,(a y).2 h2,by simp,b⟩
 ·simp at h2
theorem cYh{r:RowD}{z:Nat}{c:CodeD}(hz:c.outs[z]? = some p)(x y:Int)(h:bQm r k c j o (z+1) x y):bQm r k c j o z x y\/(x=o/\y=p):=by
 rcases h with h | ⟨h1,h2 | h2⟩
 ·exact .inl (.inl h)
 ·exact .inl (.inr ⟨h1,.inl h2⟩)
 ·rcases(yW hz).1 h2 with a | a
  ·exact .inl (.inr ⟨h1,.inr a⟩)
  ·exact .inr ⟨h1,a⟩
theorem cJg{r:RowD}{z:Nat}{c:CodeD}(b:c.outs[j]? = some o)(hz:c.outs.length<=z)(x y:Int)(h:aWn r k c (j+1) x y):bQm r k c j o z x y:=by
 rcases h with h | ⟨h1,h2⟩
 ·exact .inl (.inl h)
 ·rcases(yW b).1 h1 with a | a
  ·exact .inl (.inr ⟨a,h2⟩)
  ·rcases h2 with h2 | h2
   ·exact .inr ⟨a,.inl h2⟩
   ·exact .inr ⟨a,.inr ((aJe hz).2 h2)⟩
theorem bYu{r:RowD}(x y:Int)(h:aWo r 0 x y):aWm r r.code.length x y:=by
 rcases h with h | ⟨h,_⟩
 ·exact h
 ·simp at h
theorem bYv{r:RowD}{a:Int}(x y:Int)(h:bQn r k a 0 x y):aWo r k x y:=by
 rcases h with h | ⟨_,h⟩
 ·exact h
 ·simp at h
theorem cYi{r:RowD}{a b:Int}(d:r.params[j]? = some b)(x y:Int)(h:bQn r k a (j+1) x y):bQn r k a j x y\/(x=a/\y=b):=by
 rcases h with h | ⟨h1,h2⟩
 ·exact .inl (.inl h)
 ·rcases(yW d).1 h2 with c | c
  ·exact .inl (.inr ⟨h1,c⟩)
  ·exact .inr ⟨h1,c⟩
theorem bYw{r:RowD}{a:Int}(c:r.params.length<=j)(x y:Int)(h:bQo r k a u (setKV u) x y):bQn r k a j x y:=by
 rcases h with h | ⟨h1,h2 | ⟨h2,b⟩⟩
 ·exact .inl h
 ·exact .inr ⟨h1,(aJe c).2 h2⟩
 ·have e:(setKV u).map (·.1)=u:=by simp[setKV,Function.comp_def]
  rw[e]at b;exact absurd h2 b
theorem cYj{r:RowD}{a:Int}{b c:KV}(x y:Int)(h:bQo r k a u (b++c) x y):bQo r k a u (b++(p,v) :: c) x y\/(x=a/\y=p):=by
 rcases h with h | ⟨h1,h2 | ⟨h2,d⟩⟩
 ·exact .inl (.inl h)
 ·exact .inl (.inr ⟨h1,.inl h2⟩)
 ·by_cases e:y=p
  ·exact .inr ⟨h1,e⟩
  ·exact .inl (.inr ⟨h1,.inr ⟨h2,bQl d e⟩⟩)
theorem cJh{r:RowD}{a:Int}(c:r.params[k]? = some a)(d:∀ x,x∈u↔Live r 0 x)(x y:Int)(h:aWo r (k+1) x y):bQo r k a u [] x y:=by
 rcases h with h | ⟨h1,h2⟩
 ·exact .inl (.inl h)
 ·rcases(yW c).1 h1 with b | b
  ·exact .inl (.inr ⟨b,h2⟩)
  ·rcases h2 with h2 | h2
   ·exact .inr ⟨b,.inl h2⟩
   ·exact .inr ⟨b,.inr ⟨(d y).2 h2,by simp⟩⟩
theorem cYk{r:RowD}(a:r.params.length<=k)(x y:Int)(h:Sall r x y):aWo r k x y:=by
 rcases h with⟨i,c,h1,h2,b⟩ | ⟨h1,h2⟩
 ·exact .inl ⟨i,c,(List.getElem?_eq_some_iff.1 h1).1,h1,h2,b⟩
 ·exact .inr ⟨(aJe a).2 h1,h2⟩
theorem uK{n:Int}(h:within n l=true)(a:x∈l):0<=x/\x<n:=by
 have:=List.all_eq_true.1 h x a
 simpa using this
theorem cJi{e:EnvD}{r:RowD}{c:CodeD}(h:codeOk e r c=true)(ho:c.op=272):c.args.length=1:=by
 unfold codeOk at h;rw[ho]at h;unfold iZ at h;simp only[show((272:Int)=256)=False by simp,if_false,if_true]at h
 split at h
 ·cases h
 ·rename_i i o a
  split at a
  ·injection a with a;injection a with h1 h2;subst h1;simp only[Bool.and_eq_true,decide_eq_true_eq]at h
   simpa using h.1.1
  ·cases a
section
variable {S Req:Rel2} {P:Nat} {w1 w w':Bj} {N gK gC:Nat} {bC:List Nat}
theorem CS.it(h:CS S Req P w1 N gK gC bC w){m L:KV}(c:IT w a b m L)(hb:a<N)(d:KeptBut bC w w'):IT w' a b m L:=by
 obtain⟨C,M,h1,_⟩:=h;exact dZf c d (fun e=>by have:=h1.lb a e;omega) (h1.eZo c)
theorem CS.blk(h:CS S Req P w1 N gK gC bC w){t:TypeId}{cs:Array Bq}(a:Blk w g t cs)(b:KeptBut bC w w'):Blk w' g t cs:=by
 obtain⟨C,M,h1,_⟩:=h;exact cYf a b (h1.eZx a)
end
def CkK(w1:Bj)(N gK gC P:Nat)(bC:List Nat)(w:Bj):Prop:=
 Blk w gK 71 #[.slice (some ⟨gC,0,none⟩) P P]/\Blk w gC 73 (setsV bC P)/\(∀ b∈bC,IM w b []/\N<=b)/\bC.Nodup/\Bx N w1 w/\N<=gK/\N<=gC/\N<=w1.heap.size
theorem CkK.push(h:CkK w1 N gK gC P bC w)(i:bC.length=k)(j:k<P):CkK w1 N gK gC P (bC ++ [w.heap.size]) ((w.setCell ⟨gC,k,none⟩ (.map (some w.heap.size))).alloc (.map #[] 0)):=by
 subst i;rw[<-World.setCell_alloc_past _ _ _ _ (show gC<w.heap.size from h.2.1.lt)];obtain⟨h1,h2,a,l,c,m,d,n⟩:=h;have l2:=h2.lt;have hz:=c.size;have f:∀ b,IM (w.alloc (.map #[] 0)) b []->IM ((w.alloc (.map #[] 0)).setCell ⟨gC,bC.length,none⟩ (.map (some w.heap.size))) b []:=fun b hb=>hb.setCell _ (fun e=>hb.eXp (h2.alloc _) e);refine⟨(h1.alloc _).setCell _ (blk_ne h1 h2 (by decide)),?_,fun b hb=>?_,?_,(c.alloc (by omega) _).setCell (p:=⟨gC,bC.length,none⟩) d _,m,d,n⟩
 ·have:=gQ (h2.alloc (.map #[] 0)) bC.length (.map (some w.heap.size))
  rwa[aZx j]at this
 ·rcases List.mem_append.1 hb with hb | hb
  ·exact⟨f b ((a b hb).1.alloc _),(a b hb).2⟩
  ·simp at hb;subst hb;exact⟨f _ (IM.new w),by omega⟩
 ·rw[List.nodup_append];refine⟨l,by simp,fun x o y g e=>?_⟩;simp at g;subst g;have:=(a x o).1.lt;omega
theorem bJp(t:List Int):∀ x∈(setKV t).map (·.1),x∈t:=by
 have e:(setKV t).map (·.1)=t:=by simp[setKV,Function.comp_def]
 rw[e];exact fun x h=>h
theorem CkK.cs(h:CkK w1 N gK gC P bC w)(d:bC.length=P)(S f:Rel2)(j:∀ a b,¬f a b):CS S f P w1 N gK gC bC w:=by
 obtain⟨h1,h2,g,l,m,n,o,p⟩:=h;refine⟨Ak P [],fun _ _=>False,{ k:=by rw[Ab];exact h1,c:=by rw[<-aZw d];exact h2,lc:=by simp[d],mc:=fun i b s q1 q=>?_,nd:=l,lK:=n,lC:=o,lb:=fun b hb=>(g b hb).2,bel:=m,hz:=p },MetC.start P,by simp,fun a b hab=>hab.elim,fun a b hab=>j a b hab⟩;obtain⟨_,e⟩:=List.getElem?_eq_some_iff.1 q;simp at e;subst e;exact(g b (Ax q1)).1
theorem bXi(e:EnvD)(r:RowD)(ve vr:Bq)(w:Bj)(he:EnvV w ve e)(hr:RowV w vr r):Calls fZ 7 #[ve,vr] w (bJk e r r.places.toNat (fun i=>Clashes r (i:Int)) w):=by
 have HE:=fQ he;have HR:=fQ hr;obtain⟨va,vb,vd,rfl,h1,h2,h3⟩:=he;obtain⟨vp,vq,vr,vs,rfl,h4,h5,h6,h7⟩:=hr;obtain⟨Ap,cp,rfl⟩:=h4.shape;obtain⟨Aq,cq,rfl⟩:=h5.shape;obtain⟨Ar,cr,rfl⟩:=h6.shape;obtain⟨Ac,cc,rfl,_⟩:=h7.len;obtain⟨_,l7,cE⟩:=h7.eXi;obtain⟨_,_,_,_,cF⟩:=h6.len;have H7:=fQ h7;have bn:=fQ h6.ir;clear h1 h2 h3 h4 h5 h6 h7;have aB:=fQ (al2 w (.cells #[va,.int .i64 e.imports,vb,vd,.bool e.mem] 26) (.cells #[.slice Ap r.sig.inn.length cp,.slice Aq r.sig.out.length cq,.int .i64 r.places,.slice Ar r.params.length cr,.slice Ac r.code.length cc] 43));have bo:=fQ (Blk.newAt (w.alloc (.cells #[va,.int .i64 e.imports,vb,vd,.bool e.mem] 26)) (N:=w.heap.size+1) 43 #[.slice Ap r.sig.inn.length cp,.slice Aq r.sig.out.length cq,.int .i64 r.places,.slice Ar r.params.length cr,.slice Ac r.code.length cc] (by simp));go_in;go_wp2_with fail;refine(aWp e r _ _ _ (HE.out.below aB.out (Az _)) (HR.out.below aB.out (Az _))).mono ?_;rintro en w1 (⟨bp,rfl,hb⟩ | ⟨hc,gF,gA,gB,bA,bB,A,B,rfl,hL,hb⟩)
 ·have F:=fQ (aB.out.trans (hb.mono aB.out.size));have bV:=fQ bp;clear bp hb;go_wp2;go_ret2;exact .inl ⟨bV.out,rfl,F.out⟩
 ·have F:=fQ (aB.out.trans (hb.mono aB.out.size));have G:=fQ (bo.out.below hb bo.out.lt);have HC:=fQ hc;have K:=fQ hL;obtain⟨P,hP⟩:∃ P:Nat,r.places=P:=⟨r.places.toNat,by have:=hc.p1;omega⟩;have cG:P<=4096:=(by have:=hc.p2;omega);rw[hP]at G;have HP:=fQ hP;have bW:r.code.length<=4096:=hc.n2
  have bX:r.params.length<=8:=by
   have h1:=hc.par;have h2:=hc.sig;unfold sigOk kK at h2;simp only[Bool.and_eq_true,decide_eq_true_eq]at h2;omega
  have bY:=hb.size;simp at bY;obtain⟨r0,r1,r2,S,Z⟩:=gJ G.out;have y1:=G.out.lt;have mk:=aQo (P:=fZ) 71 73 (.map none) 8 underlying71 bJt rfl P (by omega) (by omega);clear hc hL hb hP r0 r1 S Z;go_wp2_with fail;clear mk r2 y1
  have bq:CkK w1 w1.heap.size (w1.heap.size+1) w1.heap.size P [] ((w1.alloc (.cells (AJ P (.map none)) 73)).alloc (.cells #[.slice (some ⟨w1.heap.size,0,none⟩) P P] 71)):=by
   refine⟨Blk.newAt _ _ _ (by simp),?_,fun b hb=>by simp at hb,by simp,((Below.refl _ _).alloc (Az _) _).alloc (by simp) _,by omega,Az _,Az _⟩;have e:setsV [] P=AJ P (.map none):=(by simp[setsV,mapsV]);rw[e];exact(Blk.new _ _ _).alloc _
  have br:=fQ bq;clear bq;go_loopw [37] (fun i wr=>∃ (k:Nat) (bC:List Nat),k<=P/\i = .int .i64 k/\Hid (bC.length=k)/\Hid (CkK w1 w1.heap.size (w1.heap.size+1) w1.heap.size P bC wr)) (fun i _=>P - (intOf i).toNat)
  case atStart=>exact⟨0,[],by omega,rfl,fQ rfl,br⟩
  case round=>
   clear br;obtain⟨k,bC,hk,rfl,aq,E⟩:=hrel;obtain⟨wa,rfl⟩:∃ wa:Bj,wa=wr:=⟨_,rfl⟩;by_cases bZ:k<P
   ·have aN:decide ((k:Int)<P)=true:=(by simp;omega);have b2:(k:Int)<P:=(by omega);have f0:=E.out.1.cell 0;simp at f0;have y1:=E.out.1.lt;have f2:=E.out.2.1.cell k
    have e2:(setsV bC P)[k]? = some (.map none):=by
     unfold setsV;rw[Ay,Aw (by rw[tY,aq.out];exact Az _),tY,aq.out,AV,AX,if_pos (by omega)]
    rw[e2]at f2;have f3:=frz E.out.2.1 k;have y2:=E.out.2.1.lt
    have cH:∀ w,(Instr.makeMap 73 none).run fZ w = .ok (.map (some w.heap.size)) (w.alloc (.map #[] 0)):=fun w=>by simp[Instr.makeMap]
    have b3:=fQ (E.out.push aq.out bZ);have b4:=fQ (show(bC ++ [wa.heap.size]).length=k+1 by simp[aq.out]);clear e2 E aq;go_wp2;exact⟨⟨k+1,_,by omega,by simp,b4,b3⟩,by simp[intOf];omega⟩
   ·have aN:decide ((k:Int)<P)=false:=(by simp;omega);have b5:P=k:=(by omega);subst b5;obtain⟨n,hn⟩:=fX r.code.length;have ak:=E.out.2.2.2.2.1;have hsz:=ak.size;obtain⟨r0,r1,r2,S,Z⟩:=gJ (G.out.below ak G.out.lt);have y1:=(G.out.below ak G.out.lt).lt;rw[hn]at Z bW;have HN:=fQ hn;have bs:=fQ (E.out.cs aq.out (Sall r) (aWm r 0) (fun a b h=>by obtain⟨i,c,h,_⟩:=h;omega));clear E aq ak hn r0 r1 r2 S;go_wp2_with fail;clear Z y1;obtain⟨wk,rfl⟩:∃ wk:Bj,wk=wa:=⟨_,rfl⟩;go_loopw [49] (fun i wr=>∃ j:Nat,j<=n/\i = .int .i64 j/\Hid (CS (Sall r) (aWm r j) P w1 w1.heap.size (w1.heap.size+1) w1.heap.size bC wr)) (fun i _=>n - (intOf i).toNat)
    case atStart=>exact⟨0,by omega,rfl,bs⟩
    case round=>as_aux_lemma=>
     clear bs;obtain⟨j,hj,rfl,IC⟩:=hrel;obtain⟨T,rfl⟩:∃ T:Bj,T=wr:=⟨_,rfl⟩;by_cases aO:j<n
     ·have aP:decide ((j:Int)<n)=true:=(by simp;omega);have b6:(j:Int)<n:=(by omega);obtain⟨c,aI⟩:∃ c,r.code[j]? = some c:=⟨_,Aj (by rw[HN.out];exact aO)⟩;have d:=IC.out.bel;have D:Bx w.heap.size w T:=F.out.trans (d.1.mono F.out.size);obtain⟨gb,go,p,q,tt,rfl,ai,g0,g1,g2,g3,g4,s0,s1,s2,s3⟩:=H7.out.code aI;replace g0:=(D.cell (p:=⟨gb,_,none⟩) ai).trans g0;replace g1:=(D.cell (p:=⟨gb,_,none⟩) ai).trans g1;replace g2:=(D.cell (p:=⟨gb,_,none⟩) ai).trans g2;replace g3:=(D.cell (p:=⟨gb,_,none⟩) ai).trans g3;replace g4:=(D.cell (p:=⟨gb,_,none⟩) ai).trans g4;obtain⟨pA,pc,rfl⟩:=s1.shape;obtain⟨qA,qc,rfl⟩:=s2.shape;obtain⟨tA,tc,rfl⟩:=s3.shape;obtain⟨_,_,_,_,b7⟩:=s2.len;have hsz:=D.size;have cI:=d.2;have cJ:gb<T.heap.size:=(by omega);have bt:=fQ s2.ir;have b8:=fQ s1.ir;have aJ:=fQ aI;have aQ:=HC.out.code c (Ax aI);have b9:=fQ aQ;obtain⟨_,bu,ca⟩:=aQu aQ;have bw:=fQ bu;obtain⟨m,hm⟩:=fX c.outs.length;have cK:m<=1152921504606846976:=(by omega);have R:=fQ hm;have aR:=fQ (((IC.out.alloc (.cells #[.int .i64 c.op,.int .u64 (c.n:Int),.slice pA c.args.length pc,.slice qA c.outs.length qc,.slice tA c.to.length tc] 52))).eXo (fun x y h=>bYs (c:=c) (k:=j) x y h));have aS:=fQ (Blk.newAt T (N:=T.heap.size) 52 #[.int .i64 c.op,.int .u64 (c.n:Int),.slice pA c.args.length pc,.slice qA c.outs.length qc,.slice tA c.to.length tc] rfl);rw[hm]at g3 aS aR;clear aI d D s0 s1 s2 s3 b7 aQ bu ca IC hm;go_wp2_with fail;clear g0 g1 g2 g3 g4;go_loopw [57] (fun i wr=>∃ z:Nat,z<=m/\i = .int .i64 z/\Hid (CS (Sall r) (aWn r j c z) P w1 w1.heap.size (w1.heap.size+1) w1.heap.size bC wr)/\Hid (Blk wr T.heap.size 52 #[.int .i64 c.op,.int .u64 (c.n:Int),.slice pA c.args.length pc,.slice qA m qc,.slice tA c.to.length tc])) (fun i _=>m - (intOf i).toNat)
      case atStart=>exact⟨0,by omega,rfl,aR,aS⟩
      case round=>as_aux_lemma=>
       clear aR aS;obtain⟨z,hz,rfl,iO,E⟩:=hrel;obtain⟨I,rfl⟩:∃ I:Bj,I=wr:=⟨_,rfl⟩;by_cases aT:z<m
       ·have ar:decide ((z:Int)<m)=true:=(by simp;omega);have aU:(z:Int)<m:=(by omega);obtain⟨x,l⟩:∃ x,c.outs[z]? = some x:=⟨_,Aj (by rw[R.out];exact aT)⟩;have Q:=bw.out x (Ax l);obtain⟨o,rfl⟩:∃ o:Nat,x=o:=⟨x.toNat,by omega⟩;have d:=iO.out.bel;have D:Bx w.heap.size w I:=F.out.trans (d.1.mono F.out.size);have au:=d.2;have aV:o<P:=(by have:=HP.out;omega);obtain⟨ab,ao,rfl,hab,av⟩:=(bt.out.below D (Az _)).cell l;obtain⟨U,aK⟩:∃ U,bB[j]? = some U:=⟨_,Aj (by rw[K.out.lb,K.out.s.lB,HN.out];exact aO)⟩;obtain⟨t,ht⟩:∃ t,B[j]? = some t:=⟨_,Aj (by rw[K.out.s.lB,HN.out];exact aO)⟩;have J:=K.out.below d.1 (Az _);have f0:=J.f.cell 1;have f2:=J.b.cell j;simp at f0;have e0:(mapsV bB).toArray[j]? = some (.map (some U)):=(by simp[mapsV,aK]);rw[e0]at f2;rw[HN.out]at f0;have y2:=J.f.lt;have y4:=J.b.lt;have bx:=fQ (J.mb j U t aK ht);have HT:=fQ (fun x=>K.out.eB j t x ht);have bz:=fQ (K.out.mb j U t aK ht).lt;have HX:=fQ l;have aW:=fQ (Ax l);clear J e0 aK ht l Q d D;go_wp2_with (at_range;refine aZs _ rfl _ 73 rfl 3 4 underlying73 U (setKV t) rfl bx.out ?_);rintro w4 hI hg aX;have HI:=fQ hI;have bD:=fQ ((iO.out.grown hg (fun g e=>by cases e)).eXo (fun x y h=>bYt (o:=(o:Int)) (t:=t) x y h));have bE:=fQ (E.out.grown hg (by simp));clear hI hg aX bx f0 f2 y2 y4 av iO E;go_wp2_with fail
        go_loopw [] (fun wr=>∃ L:KV,Hid (CS (Sall r) (aJd r j c z (o:Int) t L) P w1 w1.heap.size (w1.heap.size+1) w1.heap.size bC wr)/\Hid (Blk wr T.heap.size 52 #[.int .i64 c.op,.int .u64 (c.n:Int),.slice pA c.args.length pc,.slice (some ⟨ab,ao,none⟩) m qc,.slice tA c.to.length tc])/\Hid (IT wr U I.heap.size (setKV t) L)/\Hid (∀ x∈L.map (·.1),x∈t)) (fun wr=>wr.rangeLeft U I.heap.size)
        case atStart=>exact⟨_,bD,bE,HI,fQ (bJp t)⟩
        case round=>as_aux_lemma=>
         clear bD bE HI;obtain⟨L,iO,E,O,V⟩:=hrel;obtain⟨wi,rfl⟩:∃ wi:Bj,wi=wr:=⟨_,rfl⟩;have aw:=fQ O.out.left;have aY:=iO.out.bel.2;go_wp2_with (at_next;refine aVe _ rfl _ rfl U I.heap.size (setKV t) L rfl O.out ?_ ?_)
         ·rintro rfl;have bF:=fQ (iO.out.eXo (fun x y h=>cJf HT.out x y h));have f3:=E.out.cell 3;simp at f3;have y3:=E.out.lt;clear O V iO aw;go_wp2_with fail;clear f3 y3;go_loopw [91] (fun i wr=>∃ y:Nat,y<=m/\i = .int .i64 y/\Hid (CS (Sall r) (bQm r j c z (o:Int) y) P w1 w1.heap.size (w1.heap.size+1) w1.heap.size bC wr)/\Hid (Blk wr T.heap.size 52 #[.int .i64 c.op,.int .u64 (c.n:Int),.slice pA c.args.length pc,.slice (some ⟨ab,ao,none⟩) m qc,.slice tA c.to.length tc])) (fun i _=>m - (intOf i).toNat)
          case atStart=>exact⟨0,by omega,rfl,bF,E⟩
          case round=>as_aux_lemma=>
           clear bF E;obtain⟨y,hy,rfl,IZ,aZ⟩:=hrel;obtain⟨wy,rfl⟩:∃ wy:Bj,wy=wr:=⟨_,rfl⟩;by_cases cd:y<m
           ·have a6:decide ((y:Int)<m)=true:=(by simp;omega);have cf:(y:Int)<m:=(by omega);obtain⟨x,l⟩:∃ x,c.outs[y]? = some x:=⟨_,Aj (by rw[R.out];exact cd)⟩;have Q:=bw.out x (Ax l);obtain⟨o2,rfl⟩:∃ o:Nat,x=o:=⟨x.toNat,by omega⟩;have d:=IZ.out.bel;have D:Bx w.heap.size w wy:=F.out.trans (d.1.mono F.out.size);have a7:o2<P:=(by have:=HP.out;omega);obtain⟨ab,ao,ax,hab,av⟩:=(bt.out.below D (Az _)).cell l;injection ax with ax;injection ax with e1 e2;subst e1;subst e2;have a8:=fQ l;have W:=fQ (show Sall r (o:Int) (o2:Int)from .inl ⟨j,c,aJ.out,aW.out,.inr (Ax l)⟩);clear l Q d D;go_wp2_with fail;refine(aZl (Sall r) (bQm r j c z (o:Int) y) P w1 w1.heap.size (w1.heap.size+1) w1.heap.size bC o o2 _ IZ.out aV a7 (W.out) (by omega)).mono ?_;rintro en w6 ⟨rfl,h1,h2⟩;have ba:=fQ (h1.eXo (fun a b h=>cYh a8.out a b h));have ch:=fQ (IZ.out.blk aZ.out h2);clear h1 h2 av IZ aZ;go_wp2;exact⟨⟨y+1,by omega,by simp,ba,ch⟩,by simp[intOf];omega⟩
           ·have a6:decide ((y:Int)<m)=false:=(by simp;omega);have ba:=fQ (IZ.out.eXo (fun a b h=>cJg HX.out (by rw[R.out];omega) a b h));clear IZ;go_wp2;exact⟨⟨z+1,by omega,by simp,ba,aZ⟩,by simp[intOf];omega⟩
         ·rintro L1 x v0 L2 w5 rfl aE aC bb cj;have af:=(HT.out x).1 (V.out x (by simp));have Q:=af.range HC.out;obtain⟨p,rfl⟩:∃ p:Nat,x=p:=⟨x.toNat,by omega⟩;have aL:p<P:=(by have:=HP.out;omega);have X:=fQ aE;have H:=fQ (iO.out.grown aC (fun g e=>by injection e with e;subst e;exact⟨au,_,_,_,O.out⟩));have aF:=E.out.grown aC (fun e=>by injection e with e;exact yK O.out E.out e);have aG:=fQ aF;have aH:=fQ (fun y hy=>V.out y (bZu hy));have f3:=aF.cell 0;have f4:=aF.cell 2;simp at f3 f4;have y3:=aF.lt;have d:=H.out.bel;have D:Bx w.heap.size w w5:=F.out.trans (d.1.mono F.out.size);have bG:=fQ af;clear af Q aF aC bb aE O iO E V;by_cases ay:c.op=272
          ·have ck:(c.op != 272)=false:=(by simp[ay]);have cm:=cJi b9.out ay;have bc:0<c.args.length:=(by omega);obtain⟨a0,bd⟩:∃ a0,c.args[0]? = some a0:=⟨_,Aj bc⟩;obtain⟨pb,po,rfl,cL,bH⟩:=(b8.out.below D (Az _)).cell bd;have bI:=fQ bd;have cn:=fQ ay;have ct:w5.cell? ⟨pb,po,none⟩=some (.int .i64 a0):=(by simpa using bH);clear cm bd ay d D bH;by_cases aD:(p:Int)=a0
           ·have be:((p:Int) != a0)=false:=(by simp[aD]);have az:=fQ (H.out.eXo (fun a b h=>cJe (v:=v0) (fun hh=>hh cn.out a0 bI.out aD) a b h));have aA:=fQ X.out.left;clear aD H;go_wp2;refine⟨⟨L1++L2,az,aG,X,aH⟩,?_⟩;rw[aA.out,aw.out];simp
           ·have be:((p:Int) != a0)=true:=by simp[aD]
            have W:=fQ (show Sall r (o:Int) (p:Int)from .inl ⟨j,c,aJ.out,aW.out,.inl ⟨bG.out,fun _ a ha=>by
             have h0:=bI.out;rw[h0]at ha;injection ha with ha;rw[<-ha]
             exact aD⟩⟩)
            clear aD;go_wp2_with fail;refine(aZl (Sall r) (aJd r j c z (o:Int) t (L1++((p:Int),v0) :: L2)) P w1 w1.heap.size (w1.heap.size+1) w1.heap.size bC o p _ H.out aV aL (W.out) (by omega)).mono ?_;rintro en w6 ⟨rfl,h1,h2⟩;have az:=fQ (h1.eXo (fun a b h=>bJo a b h));have bf:=fQ (H.out.blk aG.out h2);have an:=fQ (H.out.it X.out bz.out h2);have aA:=fQ an.out.left;clear h1 h2 H aG X;go_wp2;refine⟨⟨L1++L2,az,bf,an,aH⟩,?_⟩;rw[aA.out,aw.out];simp
          ·have ck:(c.op != 272)=true:=(by simp[ay]);have W:=fQ (show Sall r (o:Int) (p:Int)from .inl ⟨j,c,aJ.out,aW.out,.inl ⟨bG.out,fun e=>absurd e ay⟩⟩);clear ay d D;go_wp2_with fail;refine(aZl (Sall r) (aJd r j c z (o:Int) t (L1++((p:Int),v0) :: L2)) P w1 w1.heap.size (w1.heap.size+1) w1.heap.size bC o p _ H.out aV aL (W.out) (by omega)).mono ?_;rintro en w6 ⟨rfl,h1,h2⟩;have az:=fQ (h1.eXo (fun a b h=>bJo a b h));have bf:=fQ (H.out.blk aG.out h2);have an:=fQ (H.out.it X.out bz.out h2);have aA:=fQ an.out.left;clear h1 h2 H aG X;go_wp2;refine⟨⟨L1++L2,az,bf,an,aH⟩,?_⟩;rw[aA.out,aw.out];simp
       ·have ar:decide ((z:Int)<m)=false:=(by simp;omega);have cv:=fQ (iO.out.eXo (fun a b h=>cJd aJ.out (by rw[R.out];omega) a b h));clear iO E;go_wp2;exact⟨⟨j+1,by omega,by simp,cv⟩,by simp[intOf];omega⟩
     ·have aP:decide ((j:Int)<n)=false:=(by simp;omega);have h0:=IC.out;rw[show j=r.code.length by rw[HN.out];omega]at h0;obtain⟨m,hm⟩:=fX r.params.length;have bJ:=fQ (h0.eXo (fun x y h=>bYu x y h));have d:=h0.bel;obtain⟨r0,r1,r2,S,Z⟩:=gJ (G.out.below d.1 G.out.lt);have y1:=(G.out.below d.1 G.out.lt).lt;rw[hm]at S bX;have R:=fQ hm;clear h0 d IC hm r0 r1 r2 Z;go_wp2_with fail;clear S y1;go_loopw [105] (fun i wr=>∃ q:Nat,q<=m/\i = .int .i64 q/\Hid (CS (Sall r) (aWo r q) P w1 w1.heap.size (w1.heap.size+1) w1.heap.size bC wr)) (fun i _=>m - (intOf i).toNat)
      case atStart=>exact⟨0,by omega,rfl,bJ⟩
      case round=>as_aux_lemma=>
       clear bJ;obtain⟨q,hq,rfl,IP⟩:=hrel;obtain⟨wq,rfl⟩:∃ wq:Bj,wq=wr:=⟨_,rfl⟩;by_cases cw:q<m
       ·have bg:decide ((q:Int)<m)=true:=(by simp;omega);have cx:(q:Int)<m:=(by omega);obtain⟨x,l⟩:∃ x,r.params[q]? = some x:=⟨_,Aj (by rw[R.out];exact cw)⟩;have bL:=fQ (fun x (l:x∈r.params)=>uK HC.out.pin l);have Q:=bL.out x (Ax l);obtain⟨a,rfl⟩:∃ a:Nat,x=a:=⟨x.toNat,by omega⟩;have bM:a<P:=(by have:=HP.out;omega);have d:=IP.out.bel;have D:Bx w.heap.size w wq:=F.out.trans (d.1.mono F.out.size);obtain⟨ab,ao,rfl,hab,av⟩:=(bn.out.below D (Az _)).cell l;obtain⟨r0,r1,r2,S,Z⟩:=gJ (G.out.below d.1 G.out.lt);have y1:=(G.out.below d.1 G.out.lt).lt;rw[R.out]at S;have HX:=fQ l;have bN:=fQ (IP.out.eXo (fun x y h=>bYv (a:=(a:Int)) x y h));clear l Q d D r0 r1 r2 Z IP;go_wp2_with fail;clear S y1 av;go_loopw [112] (fun i wr=>∃ z:Nat,z<=m/\i = .int .i64 z/\Hid (CS (Sall r) (bQn r q (a:Int) z) P w1 w1.heap.size (w1.heap.size+1) w1.heap.size bC wr)) (fun i _=>m - (intOf i).toNat)
        case atStart=>exact⟨0,by omega,rfl,bN⟩
        case round=>as_aux_lemma=>
         clear bN;obtain⟨z,hz,rfl,IQ⟩:=hrel;obtain⟨I,rfl⟩:∃ I:Bj,I=wr:=⟨_,rfl⟩;have d:=IQ.out.bel;have au:=d.2;by_cases aT:z<m
         ·have ar:decide ((z:Int)<m)=true:=(by simp;omega);have aU:(z:Int)<m:=(by omega);obtain⟨x,l⟩:∃ x,r.params[z]? = some x:=⟨_,Aj (by rw[R.out];exact aT)⟩;have Q:=bL.out x (Ax l);obtain⟨b,rfl⟩:∃ a:Nat,x=a:=⟨x.toNat,by omega⟩;have cy:b<P:=(by have:=HP.out;omega);have D:Bx w.heap.size w I:=F.out.trans (d.1.mono F.out.size);obtain⟨ab,ao,ax,hab,av⟩:=(bn.out.below D (Az _)).cell l;injection ax with ax;injection ax with e1 e2;subst e1;subst e2;have a8:=fQ l;have W:=fQ (show Sall r (a:Int) (b:Int)from .inr ⟨Ax HX.out,.inl (Ax l)⟩);clear l Q d D;go_wp2_with fail;refine(aZl (Sall r) (bQn r q (a:Int) z) P w1 w1.heap.size (w1.heap.size+1) w1.heap.size bC a b _ IQ.out bM cy (W.out) (by omega)).mono ?_;rintro en w6 ⟨rfl,h1,h2⟩;have cz:=fQ (h1.eXo (fun a b h=>cYi a8.out a b h));clear h1 h2 av IQ;go_wp2;exact⟨⟨z+1,by omega,by simp,cz⟩,by simp[intOf];omega⟩
         ·have ar:decide ((z:Int)<m)=false:=(by simp;omega);have bh:0<r.code.length:=HC.out.n1;obtain⟨Y,aM⟩:∃ Y,bA[0]? = some Y:=⟨_,Aj (by rw[K.out.la,K.out.s.lA];exact bh)⟩;obtain⟨u,hu⟩:∃ u,A[0]? = some u:=⟨_,Aj (by rw[K.out.s.lA];exact bh)⟩;have J:=K.out.below d.1 (Az _);have f0:=J.f.cell 0;have f2:=J.a.cell 0;simp at f0;have e0:(mapsV bA).toArray[0]? = some (.map (some Y)):=(by simp[mapsV,aM]);rw[e0]at f2;rw[HN.out]at f0 bh;have y2:=J.f.lt;have y4:=J.a.lt;have bO:=fQ (J.ma 0 Y u aM hu);have HU:=fQ (fun x=>K.out.eA 0 u x hu);have cA:=fQ (K.out.ma 0 Y u aM hu).lt;clear J e0 aM hu d;go_wp2_with (at_range;refine aZs _ rfl _ 73 rfl 3 4 underlying73 Y (setKV u) rfl bO.out ?_);rintro w4 hI hg aX;have HI:=fQ hI;have bP:=fQ ((IQ.out.grown hg (fun g e=>by cases e)).eXo (fun x y h=>bYw (u:=u) (by rw[R.out];omega) x y h));clear hI hg aX bO f0 f2 y2 y4 IQ;go_wp2_with fail
          go_loopw [] (fun wr=>∃ L:KV,Hid (CS (Sall r) (bQo r q (a:Int) u L) P w1 w1.heap.size (w1.heap.size+1) w1.heap.size bC wr)/\Hid (IT wr Y I.heap.size (setKV u) L)/\Hid (∀ x∈L.map (·.1),x∈u)) (fun wr=>wr.rangeLeft Y I.heap.size)
          case atStart=>exact⟨_,bP,HI,fQ (bJp u)⟩
          case round=>as_aux_lemma=>
           clear bP HI;obtain⟨L,iO,O,V⟩:=hrel;obtain⟨wi,rfl⟩:∃ wi:Bj,wi=wr:=⟨_,rfl⟩;have aw:=fQ O.out.left;have aY:=iO.out.bel.2;go_wp2_with (at_next;refine aVe _ rfl _ rfl Y I.heap.size (setKV u) L rfl O.out ?_ ?_)
           ·rintro rfl;have cB:=fQ (iO.out.eXo (fun x y h=>cJh HX.out HU.out x y h));clear O V iO aw;go_wp2;exact⟨⟨q+1,by omega,by simp,cB⟩,by simp[intOf];omega⟩
           ·rintro L1 x v0 L2 w5 rfl aE aC bb cj;have af:=(HU.out x).1 (V.out x (by simp));have Q:=af.range HC.out;obtain⟨p,rfl⟩:∃ p:Nat,x=p:=⟨x.toNat,by omega⟩;have aL:p<P:=(by have:=HP.out;omega);have X:=fQ aE;have H:=fQ (iO.out.grown aC (fun g e=>by injection e with e;subst e;exact⟨au,_,_,_,O.out⟩));have aH:=fQ (fun y hy=>V.out y (bZu hy));have W:=fQ (show Sall r (a:Int) (p:Int)from .inr ⟨Ax HX.out,.inr af⟩);clear af Q aC bb aE O iO V;go_wp2_with fail;refine(aZl (Sall r) (bQo r q (a:Int) u (L1++((p:Int),v0) :: L2)) P w1 w1.heap.size (w1.heap.size+1) w1.heap.size bC a p _ H.out bM aL (W.out) (by omega)).mono ?_;rintro en w6 ⟨rfl,h1,h2⟩;have az:=fQ (h1.eXo (fun a b h=>cYj a b h));have an:=fQ (H.out.it X.out cA.out h2);have aA:=fQ an.out.left;clear h1 h2 H X;go_wp2;refine⟨⟨L1++L2,az,an,aH⟩,?_⟩;rw[aA.out,aw.out];simp
       ·have bg:decide ((q:Int)<m)=false:=(by simp;omega);obtain⟨C,M,h1,h2,h3,h4,h5⟩:=IP.out;have f0:=h1.k.cell 0;simp at f0;have y1:=h1.k.lt;have bl:=aKe w1.heap.size bC C wq h1.c h1.lc h1.mc (fun s hs=>⟨h2.nd s hs,by have:=h2.small s hs;omega⟩) (by omega)
        have cC:=fQ (show ∀ (i:Nat) s x,C[i]? = some s->(x∈s↔Clashes r (i:Int) x)from fun i s x hs=>by
         have hM:∀ a b,M a b↔Sall r a b:=fun a b=>⟨h4 a b,fun h=>h5 a b (cYk (by rw[R.out];omega) a b h)⟩;rw[h2.eq i s hs x,hM,hM]
         exact Iff.rfl)
        have bQ:=F.out.trans (h1.bel.mono F.out.size);rw[h3]at f0 bl;have bT:=fQ bl;have bm:=fQ bQ;have H3:=fQ h3;clear h1 h2 h3 h4 h5 bl bQ IP;go_wp2_with fail;refine bT.out.mono ?_;rintro en w8 hp;obtain⟨v,rfl,hT,bU⟩:=bQf hp cC.out;rw[H3.out]at hT;have HT:=fQ (hT.mono bm.out.size);have cD:=fQ (bm.out.trans (bU.mono bm.out.size));clear hp hT bU bT f0 y1;go_wp2;go_ret2;have e:r.places.toNat=P:=(by have:=HP.out;omega);rw[e];exact .inr ⟨HC.out,v,rfl,HT.out,cD.out⟩
end Go.Proofs.YtabibkpfgmolkaaGreat

/- Lemmas for the claim, part 11. Conditions: none. -/
import Derived.Test.YtabibkpfgmolkaaGreatPk10
set_option maxRecDepth 100000
set_option maxHeartbeats 16000000
set_option linter.unusedVariables false
set_option linter.unusedSimpArgs false
open Go.Lib renaming hid→fQ
open Go.Proofs.Tryz renaming prog→fZ
open Go.Proofs.Tryz
open Go.RowKit
open List renaming getElem?_eq_getElem→Aj,mem_of_getElem?→Ax,getElem?_eq_none→Av,take_succ_eq_append_getElem→Aw,take_of_length_le→Ay,nodup_append→AQ,length_set→AX,replicate→AZ,mem_cons→AK
open Nat renaming le_refl→Az,lt_of_lt_of_le→Ak,le_trans→AV
open Go.World renaming grownBy_alloc→AJ
open Go renaming World→AW,Value→AY,Calls→Ab,Ending→Ad
open Go.RowKit renaming Below→Aa
namespace Go.Proofs.YtabibkpfgmolkaaGreat
variable {k j n a b g P N gK gC base:Nat}{w w' w1:AW}{x p o y:Int}{l s u:List Int}{v:AY}{t:TypeId}{S bC:List Nat}
def Told(w:AW)(base:Nat)(v:AY)(n:Nat)(Q:Nat->Int->Prop):Prop:=∃ vs P,w.ownsRow base 23 1 v n vs/\RowsOf w base vs P/\P.length=n/\∀ (i:Nat) p,P[i]? = some p->IsSet p (Q i)
def bXy(e:EnvD)(r:RowD)(n:Nat)(Q:Nat->Int->Prop)(w:AW)(a:Ad)(w':AW):Prop:=
 (¬CheckP e r/\a = .returned (.tuple #[.slice none 0 0,.int .i64 6])/\Aa w.heap.size w w') \/
 (CheckP e r/\∃ v,a = .returned (.tuple #[v,.int .i64 0])/\Told w' w.heap.size v n Q/\Aa w.heap.size w w')
theorem eQt{A:Sets}{a:Ad}(h:bYe A w a w'){Q:Nat->Int->Prop}(b:∀ (i:Nat) s x,A[i]? = some s->(x∈s↔Q i x)):∃ v,a = .returned v/\Told w' w.heap.size v A.length Q/\Aa w.heap.size w w':=by
 obtain⟨v,vs,P,h1,h2,c,d,e,f⟩:=h;refine⟨v,h1,⟨vs,P,h2,c,d,fun i p hp=>?_⟩,f⟩;have hi:=(List.getElem?_eq_some_iff.1 hp).1;have hs:=Aj (show i<A.length by omega);have q:=e i _ p hs hp;exact⟨q.1,fun x=>(q.2 x).trans (b i _ x hs)⟩
theorem Told.mono{Q:Nat->Int->Prop}(h:Told w a v n Q)(c:b<=a):Told w b v n Q:=by
 obtain⟨vs,P,h1,h2,d,e⟩:=h;exact⟨vs,P,jX h1 c,⟨h2.1,fun i u p q1 f=>jX (h2.2 i u p q1 f) c⟩,d,e⟩
theorem Told.below{Q:Nat->Int->Prop}(h:Told w a v n Q)(b:Aa w.heap.size w w'):Told w' a v n Q:=by
 obtain⟨vs,P,h1,h2,c,d⟩:=h;exact⟨vs,P,nK h1 b (Az _),⟨h2.1,fun i u p q1 e=>nK (h2.2 i u p q1 e) b (Az _)⟩,c,d⟩
def AcrossP(r:RowD)(x:Int):Prop:=∃ i c,r.code[i]? = some c/\c.op=16/\LiveB r i x/\x ∉ c.outs
structure AcS (r:RowD) (k:Nat) (s:List Int):Prop where
 nd:s.Nodup
 sn:∀ x∈s,AcrossP r x
 cp:∀ (i:Nat) c x,i<k->r.code[i]? = some c->c.op=16->LiveB r i x->x ∉ c.outs->x∈s
theorem AcS.small{e:EnvD}{r:RowD}(h:AcS r k s)(hc:CheckP e r):s.length<=4096:=by
 have h1:=hc.p1;have h2:=hc.p2
 have:=qJ (m:=r.places.toNat) h.nd (fun x a=>by
  obtain⟨i,c,_,_,b,_⟩:=h.sn x a;have:=b.range hc
  omega)
 omega
theorem AcS.start(r:RowD):AcS r 0 []:=⟨by simp,fun x h=>by simp at h,fun i c x h=>by omega⟩
theorem AcS.ins{r:RowD}{k:Nat}{s:List Int}{p:Int}(h:AcS r k s)(hp:AcrossP r p):AcS r k (ins s p):=
 ⟨aXv h.nd,fun x a=>by
  rcases sV.1 a with a | a
  ·exact h.sn x a
  ·rw[a];exact hp,fun i c x h1 h2 b d e=>sV.2 (.inl (h.cp i c x h1 h2 b d e))⟩
theorem AcS.next{r:RowD}{c:CodeD}(h:AcS r k s)(hc:r.code[k]? = some c)(f:c.op=16->∀ x,LiveB r k x->x ∉ c.outs->x∈s):AcS r (k+1) s:=
 ⟨h.nd,h.sn,fun i g x h1 h2 a b d=>by
  by_cases e:i=k
  ·subst e;rw[hc]at h2;injection h2 with h2;subst h2;exact f a x b d
  ·exact h.cp i g x (by omega) h2 a b d⟩
theorem AcS.all{r:RowD}(h:AcS r r.code.length s)(x:Int):x∈s↔AcrossP r x:=
 ⟨h.sn x,fun⟨i,c,h1,h2,a,b⟩=>h.cp i c x (List.getElem?_eq_some_iff.1 h1).1 h1 h2 a b⟩
theorem Looked.below{r:RowD}{w w':AW}{base gF gA gB:Nat}{bA bB:List Nat}{A B:Sets}(h:Looked r w base gF gA gB bA bB A B){N:Nat}(c:Aa N w w')(d:w.heap.size<=N):Looked r w' base gF gA gB bA bB A B:=
 { h with f:=h.f.below c (Ak h.f.lt d),a:=h.a.below c (Ak h.a.lt d),b:=h.b.below c (Ak h.b.lt d),ma:=fun i b s q1 e=>(h.ma i b s q1 e).below c (Ak (h.ma i b s q1 e).lt d),mb:=fun i b s q1 e=>(h.mb i b s q1 e).below c (Ak (h.mb i b s q1 e).lt d) }
def bVy(r:RowD)(N bS:Nat)(w1:AW)(k:Nat)(wr:AW):Prop:=∃ s,IM wr bS (setKV s)/\AcS r k s/\Aa N w1 wr
def AcRel2(r:RowD)(N bS:Nat)(w1:AW)(k:Nat)(c:CodeD)(t:List Int)(bj rI gC:Nat)(cc:Array AY)(s:List Int)(L:KV)(wr:AW):Prop:=
 IM wr bS (setKV s)/\AcS r k s/\Aa N w1 wr/\IT wr bj rI (setKV t) L/\(∀ x∈t,x ∉ L.map (·.1)->x ∉ c.outs->x∈s)/\(∀ x∈L.map (·.1),x∈t)/\N<=rI/\Blk wr gC 52 cc
section
variable {r:RowD} {N bS k bj rI gC:Nat} {w1 w w':AW} {c:CodeD} {t s:List Int} {cc:Array AY} {L:KV}
theorem AcRel2.start(h1:IM w bS (setKV s))(h2:AcS r k s)(d:Aa N w1 w)(f:Blk w gC 52 cc)(hz:w.heap.size=rI)(b:N<=rI)(hg:w.grownBy w' none)(h:IT w' bj rI (setKV t) (setKV t)):AcRel2 r N bS w1 k c t bj rI gC cc s (setKV t) w':=by
 subst hz
 have e:(setKV t).map (·.1)=t:=by simp[setKV,Function.comp_def]
 exact⟨h1.grown hg (by simp),h2,iK d hg b (fun g e=>by cases e),h,fun x a hn=>absurd (by rw[e];exact a) hn,fun x a=>by rw[e]at a;exact a,b,f.grown hg (by simp)⟩
theorem AcRel2.done(h:AcRel2 r N bS w1 k c t bj rI gC cc s [] w)(hc:r.code[k]? = some c)(a:∀ x,x∈t↔LiveB r k x):bVy r N bS w1 (k+1) w:=by
 obtain⟨h1,h2,b,h4,d,h6,h7,h8⟩:=h;exact⟨s,h1,h2.next hc (fun _ x e f=>d x ((a x).2 e) (by simp) f),b⟩
theorem AcRel2.turn{a b:KV}{x:AY}(h:AcRel2 r N bS w1 k c t bj rI gC cc s (a++(p,x) :: b) w)(l:IT w' bj rI (setKV t) (a++b))(hg:w.grownBy w' (some rI))(m:N<=w.heap.size):
  IM w' bS (setKV s)/\AcS r k s/\Aa N w1 w'/\IT w' bj rI (setKV t) (a++b)/\p∈t/\Blk w' gC 52 cc/\(∀ y∈t,y ∉ (a++b).map (·.1)->y≠p->y ∉ c.outs->y∈s)/\(∀ y∈(a++b).map (·.1),y∈t)/\N<=rI:=by
 obtain⟨h1,h2,n,f,o,i,q,j⟩:=h;exact⟨h1.grown hg (fun e=>by injection e with e;exact aQp f h1 e.symm),h2,iK n hg m (fun g e=>by injection e with e;omega),l,i p (by simp),j.grown hg (fun e=>by injection e with e;exact zQ f j e),fun y d hn hp u=>o y d (bWp hn hp) u,fun y d=>i y (bXr d),q⟩
end
def eJn(e:EnvD)(r:RowD)(w:AW)(a:Ad)(w':AW):Prop:=
 (¬CheckP e r/\a = .returned (.tuple #[.slice none 0 0,.int .i64 6])/\Aa w.heap.size w w') \/
 (CheckP e r/\∃ P A c,a = .returned (.tuple #[.slice A P.length c,.int .i64 0])/\w'.ownsRow w.heap.size 3 1 (.slice A P.length c) P.length (i64s P)/\IsSet P (AcrossP r)/\Aa w.heap.size w w')
theorem cJy(e:EnvD)(r:RowD)(ve F:AY)(w:AW)(he:EnvV w ve e)(hr:RowV w F r):Ab fZ 52 #[ve,F] w (eJn e r w):=by
 have HE:=fQ he;have HR:=fQ hr;obtain⟨va,vb,vd,rfl,h1,h2,v⟩:=he;obtain⟨vp,vq,F,vs,rfl,h4,h5,h6,S⟩:=hr;obtain⟨Ac,cc,rfl,_⟩:=S.len;obtain⟨_,l7,bc⟩:=S.fQb;have H7:=fQ S;clear h1 h2 v h4 h5 h6 S;have z:=fQ (al2 w (.cells #[va,.int .i64 e.imports,vb,vd,.bool e.mem] 26) (.cells #[vp,vq,.int .i64 r.places,F,.slice Ac r.code.length cc] 43));have ax:=fQ (Blk.newAt (w.alloc (.cells #[va,.int .i64 e.imports,vb,vd,.bool e.mem] 26)) (N:=w.heap.size+1) 43 #[vp,vq,.int .i64 r.places,F,.slice Ac r.code.length cc] (by simp));go_in;go_wp2_with fail;refine(bYg e r _ _ _ (HE.out.below z.out (Az _)) (HR.out.below z.out (Az _))).mono ?_;rintro en w1 (⟨ay,rfl,m⟩ | ⟨hc,gF,gA,gB,bA,bB,A,B,rfl,hL,m⟩)
 ·have h:=fQ (z.out.trans (m.mono z.out.size));have aG:=fQ ay;clear ay m;go_wp2;go_ret2;exact .inl ⟨aG.out,rfl,h.out⟩
 ·have h:=fQ (z.out.trans (m.mono z.out.size));have aH:=fQ (ax.out.below m ax.out.lt);have HC:=fQ hc;have C:=fQ hL;obtain⟨n,hn⟩:=fX r.code.length;have bd:n<=4096:=(by have:=hc.n2;omega);have aI:=m.size;simp at aI;obtain⟨r0,r1,r2,r3,r4⟩:=gQ (aH.out.alloc (.map #[] 0));rw[hn]at r4;have G:=fQ hn;clear hc hL m hn r0 r1 r2 r3
  have aJ:∀ w,(Instr.makeMap 73 none).run fZ w = .ok (.map (some w.heap.size)) (w.alloc (.map #[] 0)):=fun w=>by simp[Instr.makeMap]
  go_wp2_with fail;clear aJ;have H:=fQ (show bVy r w1.heap.size w1.heap.size w1 0 (w1.alloc (.map #[] 0))from⟨[],IM.new w1,AcS.start r,(Below.refl _ _).alloc (Az _) _⟩);clear r4;go_loopw [25] (fun i wr=>∃ k:Nat,k<=n/\i = .int .i64 k/\Hid (bVy r w1.heap.size w1.heap.size w1 k wr)) (fun i _=>n - (intOf i).toNat)
  case atStart=>exact⟨0,by omega,rfl,H⟩
  case round=>
   clear H;obtain⟨k,hk,rfl,T⟩:=hrel;obtain⟨a,rfl⟩:∃ a:AW,a=wr:=⟨_,rfl⟩;by_cases ao:k<n
   ·have aq:decide ((k:Int)<n)=true:=(by simp;omega);have aK:(k:Int)<n:=(by omega);obtain⟨s,m1,m2,o⟩:=T.out;obtain⟨c,ar⟩:∃ c,r.code[k]? = some c:=⟨_,Aj (by rw[G.out];exact ao)⟩;have j:Aa w.heap.size w a:=h.out.trans (o.mono h.out.size);obtain⟨D,go,p,q,tt,rfl,I,g0,g1,g2,g3,g4,s0,s1,s2,s3⟩:=H7.out.code ar;replace g0:=(j.cell (p:=⟨D,_,none⟩) I).trans g0;replace g1:=(j.cell (p:=⟨D,_,none⟩) I).trans g1;replace g2:=(j.cell (p:=⟨D,_,none⟩) I).trans g2;replace g3:=(j.cell (p:=⟨D,_,none⟩) I).trans g3;replace g4:=(j.cell (p:=⟨D,_,none⟩) I).trans g4;have hsz:=j.size;have be:D<a.heap.size:=(by omega);have aL:=o.size;obtain⟨J,K,rfl⟩:=s1.shape;obtain⟨M,O,rfl⟩:=s2.shape;obtain⟨Q,tc,rfl⟩:=s3.shape;obtain⟨_,_,_,_,aM⟩:=s2.len;have aN:=fQ (show c.outs.length<=9223372036854775807 by omega);have aO:=fQ s2.ir;have au:=fQ ar;have bf:=fQ j;have az:IM (a.alloc (.cells #[.int .i64 c.op,.int .u64 (c.n:Int),.slice J c.args.length K,.slice M c.outs.length O,.slice Q c.to.length tc] 52)) w1.heap.size (setKV s):=m1.alloc _;have U:=fQ az;have V:=fQ m2;have R:=fQ (o.alloc aL (.cells #[.int .i64 c.op,.int .u64 (c.n:Int),.slice J c.args.length K,.slice M c.outs.length O,.slice Q c.to.length tc] 52));have av:=fQ (Blk.newAt a (N:=a.heap.size) 52 #[.int .i64 c.op,.int .u64 (c.n:Int),.slice J c.args.length K,.slice M c.outs.length O,.slice Q c.to.length tc] rfl);clear m1 m2 o s0 s1 s2 s3 aM ar j az hsz T;by_cases l:c.op=16
    ·have aP:(c.op != 16)=false:=(by simp[l]);have bg:(c.op == 16)=true:=(by simp[l]);have aA:=fQ l;obtain⟨bj,W⟩:∃ bj,bB[k]? = some bj:=⟨_,Aj (by rw[C.out.lb,C.out.s.lB,G.out];exact ao)⟩;obtain⟨t,X⟩:∃ t,B[k]? = some t:=⟨_,Aj (by rw[C.out.s.lB,G.out];exact ao)⟩;have E:=C.out.below R.out (Az _);have f0:=E.f.cell 1;have f2:=E.b.cell k;simp at f0;have e0:(mapsV bB).toArray[k]? = some (.map (some bj)):=(by simp[mapsV,W]);rw[e0]at f2;rw[G.out]at f0;have y2:=E.f.lt;have y4:=E.b.lt;have aB:=fQ (E.mb k bj t W X);have HT:=fQ (fun x=>C.out.eB k t x X);have aQ:=fQ (C.out.mb k bj t W X).lt;clear E e0 W X l;go_wp2_with (at_range;refine aJc _ rfl _ 73 rfl 3 4 underlying73 bj (setKV t) rfl aB.out ?_);rintro w4 hI hg hz;have H:=fQ (AcRel2.start (c:=c) (rI:=a.heap.size+1) U.out V.out R.out av.out (by simp) (by omega) hg hI);clear hI hg hz aB f0 f2 y2 y4 g0 g1 g2 g3 g4 U V R av;go_wp2_with fail;go_loopw [] (fun wr=>∃ (s:List Int) (L:KV),Hid (AcRel2 r w1.heap.size w1.heap.size w1 k c t bj (a.heap.size+1) a.heap.size #[.int .i64 c.op,.int .u64 (c.n:Int),.slice J c.args.length K,.slice M c.outs.length O,.slice Q c.to.length tc] s L wr)) (fun wr=>wr.rangeLeft bj (a.heap.size+1))
     case atStart=>exact⟨_,_,H⟩
     case round=>
      clear H;obtain⟨s,L,u⟩:=hrel;obtain⟨wi,rfl⟩:∃ wi:AW,wi=wr:=⟨_,rfl⟩;have aw:=fQ u.out.2.2.2.1.left;have aR:=u.out.2.2.1.size;go_wp2_with (at_next;refine aKo _ rfl _ rfl bj (a.heap.size+1) (setKV t) L rfl u.out.2.2.2.1 ?_ ?_)
      ·rintro rfl;have aS:=fQ (u.out.done au.out HT.out);clear u aw;go_wp2;exact⟨⟨k+1,by omega,by simp,aS⟩,by simp[intOf];omega⟩
      ·rintro L1 p x L2 w5 rfl aC aD aT aE;obtain⟨t1,t2,Y,t4,t5,Z,t7,t8,t9⟩:=u.out.turn aC aD aR;have f3:=Z.cell 3;simp at f3;have y3:=Z.lt;have aU:=Y.size;have T1:=fQ t1;have T2:=fQ t2;have T3:=fQ Y;have T4:=fQ t4;have T5:=fQ t5;have T6:=fQ Z;have T7:=fQ t7;have T8:=fQ t8;have T9:=fQ t9;have aV:=fQ (h.out.trans (Y.mono h.out.size));clear t1 t2 Y t4 t5 Z t7 t8 t9 aC aD aT u;go_wp2_with fail;refine(wQ _ c.outs p _ (aO.out.below aV.out (Az _)) aN.out).mono ?_;rintro en w6 ⟨rfl,rfl⟩;by_cases d:p∈c.outs
       ·rw[decide_eq_true d];have HO:=fQ d;clear d aE;go_wp2;refine⟨⟨s,L1++L2,fQ ⟨T1.out,T2.out,T3.out,T4.out,fun y hy hn d=>?_,T8.out,T9.out,T6.out⟩⟩,?_⟩
        ·by_cases hp:y=p
         ·subst hp;exact absurd HO.out d
         ·exact T7.out y hy hn hp d
        ·rw[aw.out,T4.out.left];simp
       ·rw[decide_eq_false d];have HO:=fQ d;have aW:=fQ (show AcrossP r p from⟨k,c,au.out,aA.out,(HT.out p).1 T5.out,d⟩);have aX:=T2.out.small HC.out;clear d aE;go_wp2_with fail;refine(aYr w1.heap.size s [p] _ _ (T1.out.alloc _) (IR.one (Blk.new _ _ _)) (by simp) (by omega)).mono ?_;rintro en w7 ⟨rfl,h1,h2,v⟩;have aF:=fQ ((T4.out.alloc (.cells #[.int .i64 p] 3)).grown h2 (fun e=>by injection e with e;have:=aQ.out;omega) (fun e=>by injection e with e;exact aQp T4.out T1.out e));have aY:=fQ ((T6.out.alloc (.cells #[.int .i64 p] 3)).grown h2 (fun e=>by injection e with e;exact T1.out.fQi T6.out e));have aZ:=fQ (iK (T3.out.alloc aU (.cells #[.int .i64 p] 3)) h2 (by simp;omega) (fun g e=>by injection e with e;omega));have a1:=fQ h1;have a6:=fQ (T2.out.ins aW.out);have a7:=fQ aF.out.left;clear h1 h2 v;go_wp2;refine⟨⟨ins s p,L1++L2,fQ ⟨a1.out,a6.out,aZ.out,aF.out,fun y hy hn d=>?_,T8.out,T9.out,aY.out⟩⟩,?_⟩
        ·by_cases hp:y=p
         ·exact sV.2 (.inr hp)
         ·exact sV.2 (.inl (T7.out y hy hn hp d))
        ·rw[aw.out,a7.out];simp
    ·have aP:(c.op != 16)=true:=(by simp[l]);have aA:=fQ l;have a8:=fQ (show bVy r w1.heap.size w1.heap.size w1 (k+1) (a.alloc (.cells #[.int .i64 c.op,.int .u64 (c.n:Int),.slice J c.args.length K,.slice M c.outs.length O,.slice Q c.to.length tc] 52))from⟨s,U.out,V.out.next au.out (fun e=>absurd e l),R.out⟩);clear l U V R av;go_wp2;exact⟨⟨k+1,by omega,by simp,a8⟩,by simp[intOf];omega⟩
   ·have aq:decide ((k:Int)<n)=false:=(by simp;omega);have ba:k=n:=(by omega);subst ba;obtain⟨s,m1,m2,o⟩:=T.out;have aX:=m2.small HC.out;have M1:=fQ m1;have M2:=fQ m2;have M3:=fQ o;clear T m1 m2 o;go_wp2_with fail;refine(bYm w1.heap.size s _ M1.out M2.out.nd (by omega)).mono ?_;rintro en w7 ⟨P,A',c',rfl,h1,h2,bb,v⟩;clear bb;have an:=(h.out.trans (M3.out.mono h.out.size));have H1:=fQ (jX h1 an.size);have H2:=fQ h2;have H3:=fQ (an.trans (v.mono an.size));clear h1 h2 v an;go_wp2;go_ret2;have ah:=M2.out;rw[<-G.out]at ah;exact .inr ⟨HC.out,P,A',c',rfl,H1.out,⟨H2.out.1,fun x=>(H2.out.2 x).trans (ah.all x)⟩,H3.out⟩
def Beh(r:RowD)(i:Nat)(c:CodeD)(p:Int):Prop:=(LiveB r i p/\(c.op=272->∀ a,c.args[0]? = some a->p≠a))\/p∈c.outs
def cKc(r:RowD)(o p:Int):Prop:=∃ i c,r.code[i]? = some c/\o∈c.outs/\Beh r i c p
def cKd(r:RowD)(a b:Int):Prop:=a∈r.params/\(b∈r.params\/Live r 0 b)
def Clashes(r:RowD)(a b:Int):Prop:=a≠b/\((cKc r a b\/cKd r a b)\/(cKc r b a\/cKd r b a))
abbrev Rel2:=Int->Int->Prop
structure MetC (C:Sets) (M:Rel2):Prop where
 nd:∀ s∈C,s.Nodup
 eq:∀ (a:Nat) s,C[a]? = some s->∀ x,x∈s↔((a:Int)≠x/\(M a x\/M x a))
 rg:∀ a b,M a b->(0<=a/\a<C.length)/\0<=b/\b<C.length
def aKg(C:Sets)(a:Nat)(x:Int):Sets:=match C[a]? with
 | some s=>C.set a (ins s x)
 | none=>C
def aJv(C:Sets)(a b:Nat):Sets:=if a=b then C else aKg (aKg C a b) b a
theorem bXg(C:Sets)(a:Nat)(x:Int):(aKg C a x).length=C.length:=by
 unfold aKg
 split <;> simp
theorem bWw{C:Sets}(h:C[a]? = some s)(x:Int):aKg C a x=C.set a (ins s x):=by simp[aKg,h]
theorem bKg(C:Sets)(a b:Nat):(aJv C a b).length=C.length:=by
 unfold aJv
 split
 ·rfl
 ·rw[bXg,bXg]
theorem aYp{C:Sets}(h:(aKg C a x)[j]? = some u):∃ s,C[j]? = some s/\((j=a/\u=ins s x)\/(j≠a/\u=s)):=by
 unfold aKg at h
 cases hs:C[a]? with
 | none=>
  rw[hs]at h;refine⟨u,h,.inr ⟨fun e=>?_,rfl⟩⟩;subst e;rw[hs]at h;cases h
 | some s=>
  rw[hs]at h;rcases qV h with⟨e,e2,_⟩ | ⟨e,e2⟩
  ·subst e;exact⟨s,hs,.inl ⟨rfl,e2⟩⟩
  ·exact⟨u,e2,.inr ⟨fun b=>e b.symm,rfl⟩⟩
theorem MetC.meet{C:Sets}{M:Rel2}(h:MetC C M)(ha:a<C.length)(hb:b<C.length):MetC (aJv C a b) (fun x y=>M x y\/(x=(a:Int)/\y=(b:Int))) where
 nd s hs:=by
  obtain⟨j,hj⟩:=List.mem_iff_getElem?.1 hs;unfold aJv at hj
  split at hj
  ·exact h.nd s (Ax hj)
  ·obtain⟨s1,h1,h2⟩:=aYp hj;obtain⟨s2,d,c⟩:=aYp h1;have n2:=h.nd s2 (Ax d)
   have n1:s1.Nodup:=by
    rcases c with⟨_,c⟩ | ⟨_,c⟩ <;> rw[c]
    ·exact aXv n2
    ·exact n2
   rcases h2 with⟨_,h2⟩ | ⟨_,h2⟩ <;> rw[h2]
   ·exact aXv n1
   ·exact n1
 eq j s hj x:=by
  unfold aJv at hj
  split at hj
  ·rename_i e;subst e;rw[h.eq j s hj x];constructor
   ·rintro⟨h1,h2 | h2⟩
    ·exact⟨h1,.inl (.inl h2)⟩
    ·exact⟨h1,.inr (.inl h2)⟩
   ·rintro⟨h1,(h2 | ⟨h2,d⟩) | (h2 | ⟨h2,d⟩)⟩
    ·exact⟨h1,.inl h2⟩
    ·omega
    ·exact⟨h1,.inr h2⟩
    ·omega
  ·rename_i ad;obtain⟨s1,h1,h2⟩:=aYp hj;obtain⟨s2,d,c⟩:=aYp h1;have he:=h.eq j s2 d x
   have g:x∈s1↔(x∈s2\/(j=a/\x=(b:Int))):=by
    rcases c with⟨f,c⟩ | ⟨f,c⟩ <;> rw[c]
    ·rw[sV];simp[f]
    ·simp[f]
   have i:x∈s↔(x∈s1\/(j=b/\x=(a:Int))):=by
    rcases h2 with⟨f,c⟩ | ⟨f,c⟩ <;> rw[c]
    ·rw[sV];simp[f]
    ·simp[f]
   rw[i,g,he];constructor
   ·rintro((⟨h1,h2 | h2⟩ | ⟨h1,h2⟩) | ⟨h1,h2⟩)
    ·exact⟨h1,.inl (.inl h2)⟩
    ·exact⟨h1,.inr (.inl h2)⟩
    ·exact⟨by omega,.inl (.inr ⟨by omega,h2⟩)⟩
    ·exact⟨by omega,.inr (.inr ⟨h2,by omega⟩)⟩
   ·rintro⟨h1,(h2 | ⟨h2,d⟩) | (h2 | ⟨h2,d⟩)⟩
    ·exact .inl (.inl ⟨h1,.inl h2⟩)
    ·exact .inl (.inr ⟨by omega,d⟩)
    ·exact .inl (.inl ⟨h1,.inr h2⟩)
    ·exact .inr ⟨by omega,h2⟩
 rg x y k:=by
  rw[bKg];rcases k with h1 | ⟨h1,h2⟩
  ·exact h.rg x y h1
  ·omega
theorem MetC.start(P:Nat):MetC (AZ P []) (fun _ _=>False) where
 nd s hs:=by have:=List.eq_of_mem_replicate hs;rw[this];simp
 eq j s hj x:=by
  obtain⟨_,e⟩:=List.getElem?_eq_some_iff.1 hj;simp at e;subst e;simp
 rg _ _ h:=h.elim
theorem MetC.small{C:Sets}{M:Rel2}(h:MetC C M):∀ s∈C,s.length<=C.length:=fun s hs=>by
 obtain⟨j,hj⟩:=List.mem_iff_getElem?.1 hs
 exact qJ (h.nd s hs) (fun x a=>by
  rcases((h.eq j s hj x).1 a).2 with h1 | h1
  ·exact(h.rg _ _ h1).2
  ·exact(h.rg _ _ h1).1)
def KeptBut(S:List Nat)(w w':AW):Prop:=w.heap.size<=w'.heap.size/\∀ k,k<w.heap.size->k ∉ S->w'.heap[k]? = w.heap[k]?
theorem KeptBut.refl(S:List Nat)(w:AW):KeptBut S w w:=⟨Az _,fun _ _ _=>rfl⟩
theorem KeptBut.trans{S:List Nat}{a b c:AW}(h:KeptBut S a b)(k:KeptBut S b c):KeptBut S a c:=⟨AV h.1 k.1,fun j hj hn=>(k.2 j (Ak hj h.1) hn).trans (h.2 j hj hn)⟩
theorem KeptBut.grown(h:w.grownBy w' (some b))(a:b∈S):KeptBut S w w':=⟨h.size,fun k c hn=>h.block k c (fun e=>by injection e with e;subst e;exact hn a)⟩
theorem KeptBut.alloc(S:List Nat)(w:AW)(o:Obj):KeptBut S w (w.alloc o):=⟨by simp,fun k a _=>(AJ w o none).block k a (by simp)⟩
theorem eQy{r:Nat}{m L:KV}(h:IT w b r m L)(a:KeptBut S w w')(c:b ∉ S)(hr:r ∉ S):IT w' b r m L:=by
 have d:=h.im.lt;have e:=h.lt;obtain⟨f,clock,seen,h1,h2,g,i,j,k⟩:=h;exact⟨f,clock,seen,(a.2 b d c).trans h1,h2,g,i,(a.2 r e hr).trans j,k⟩
theorem bXh{cs:Array AY}(h:Blk w g t cs)(a:KeptBut S w w')(hg:g ∉ S):Blk w' g t cs:=(a.2 g h.lt hg).trans h
structure CkM (w1 w:AW) (N gK gC:Nat) (bC:List Nat) (C:Sets):Prop where
 k:Blk w gK 71 #[.slice (some ⟨gC,0,none⟩) C.length C.length]
 c:Blk w gC 73 (mapsV bC).toArray
 lc:bC.length=C.length
 mc:∀ (i:Nat) b s,bC[i]? = some b->C[i]? = some s->IM w b (setKV s)
 nd:bC.Nodup
 lK:N<=gK
 lC:N<=gC
 lb:∀ b∈bC,N<=b
 bel:Aa N w1 w
 hz:N<=w1.heap.size
section
variable {w1 w w':AW} {N gK gC:Nat} {bC:List Nat} {C:Sets}
theorem CkM.fXz(h:CkM w1 w N gK gC bC C){cs:Array AY}(k:Blk w g t cs):g ∉ bC:=fun a=>by
 obtain⟨i,hi⟩:=List.mem_iff_getElem?.1 a;have b:=(List.getElem?_eq_some_iff.1 hi).1;exact(h.mc i g _ hi (Aj (by rw[<-h.lc];exact b))).fQi k rfl
theorem CkM.fXm(h:CkM w1 w N gK gC bC C){r:Nat}{m L:KV}(k:IT w b r m L):r ∉ bC:=fun a=>by
 obtain⟨i,hi⟩:=List.mem_iff_getElem?.1 a;have c:=(List.getElem?_eq_some_iff.1 hi).1;exact aQp k (h.mc i r _ hi (Aj (by rw[<-h.lc];exact c))) rfl
theorem CkM.hsz(h:CkM w1 w N gK gC bC C):N<=w.heap.size:=AV h.hz h.bel.size
theorem CkM.grown{r:Option Nat}(h:CkM w1 w N gK gC bC C)(hg:w.grownBy w' r)(hr:∀ g,r=some g->N<=g/\g≠gK/\g≠gC/\g ∉ bC):CkM w1 w' N gK gC bC C:=
 { h with k:=h.k.grown hg (fun e=>(hr _ e).2.1 rfl),c:=h.c.grown hg (fun e=>(hr _ e).2.2.1 rfl),mc:=fun i b s q1 a=>(h.mc i b s q1 a).grown hg (fun e=>(hr _ e).2.2.2 (Ax q1)),bel:=iK h.bel hg h.hsz (fun g e=>(hr g e).1) }
theorem CkM.alloc(h:CkM w1 w N gK gC bC C)(o:Obj):CkM w1 (w.alloc o) N gK gC bC C:=h.grown (AJ w o none) (fun g e=>by cases e)
theorem CkM.put(h:CkM w1 w N gK gC bC C)(d:bC[a]? = some b)(hs:C[a]? = some s)(hg:w.grownBy w' (some b))(i:IM w' b (setKV (ins s x))):CkM w1 w' N gK gC bC (aKg C a x):=by
 rw[bWw hs];have hi:=h.mc a b s d hs;refine { k:=?_,c:=h.c.grown hg (fun e=>by injection e with e;exact hi.fQi h.c e),lc:=by rw[AX];exact h.lc,mc:=fun j c u q1 l=>?_,nd:=h.nd,lK:=h.lK,lC:=h.lC,lb:=h.lb,bel:=iK h.bel hg h.hsz (fun g e=>by injection e with e;rw[<-e];exact h.lb b (Ax d)),hz:=h.hz }
 ·rw[AX];exact h.k.grown hg (fun e=>by injection e with e;exact hi.fQi h.k e)
 ·rcases qV l with⟨e,e2,_⟩ | ⟨e,e2⟩
  ·subst e;subst e2;rw[d]at q1;injection q1 with q1;subst q1;exact i
  ·exact(h.mc j c u q1 e2).grown hg (fun f=>by injection f with f;subst f;exact e (aXq h.nd d q1))
end
def eJq(w1:AW)(N gK gC:Nat)(bC:List Nat)(C:Sets)(a b:Nat)(w:AW)(c:Ad)(w':AW):Prop:=c = .returned (.tuple #[])/\CkM w1 w' N gK gC bC (aJv C a b)/\KeptBut bC w w'
theorem dVi(w1:AW)(N gK gC:Nat)(bC:List Nat)(C:Sets)(a b:Nat)(w:AW)(h:CkM w1 w N gK gC bC C)(ha:a<C.length)(l:b<C.length)(hs:∀ s∈C,s.length<=C.length)(hn:C.length<=100000):
  Ab fZ 24 #[.int .i64 (a:Int),.int .i64 (b:Int),.pointer (some ⟨gK,0,none⟩)] w (eJq w1 N gK gC bC C a b w):=by
 have H:=fQ h;have HS:=fQ hs;by_cases hab:a=b
 ·subst hab;have hq:((a:Int) != (a:Int))=false:=(by simp);clear h hs;go_in;go_wp2;go_end0;refine⟨rfl,?_,KeptBut.refl _ _⟩;unfold aJv;rw[if_pos rfl];exact H.out
 ·have hq:((a:Int) != (b:Int))=true:=(by simp;omega);have v:=fQ hab;obtain⟨m,e⟩:∃ s,C[a]? = some s:=⟨_,Aj ha⟩;obtain⟨o,f⟩:∃ s,bC[a]? = some s:=⟨_,Aj (by rw[h.lc];exact ha)⟩;obtain⟨g,p⟩:∃ s,C[b]? = some s:=⟨_,Aj l⟩;obtain⟨q,x⟩:∃ s,bC[b]? = some s:=⟨_,Aj (by rw[h.lc];exact l)⟩;have f0:=h.k.cell 0;simp at f0;have r:=h.c.cell a;have e0:(mapsV bC).toArray[a]? = some (.map (some o)):=(by simp[mapsV,f]);rw[e0]at r;obtain⟨n,i⟩:=fX C.length;rw[i]at f0 ha l hn;have ax:(a:Int)<(n:Int):=(by omega);have ay:(b:Int)<(n:Int):=(by omega);have y1:=h.k.lt;have y2:=h.c.lt;have y:=fQ e;have z:=fQ f;have D:=fQ p;have j:=fQ x;have E:=fQ i;have A:=fQ (h.mc a o m f e);have F:=hs m (Ax e);have G:=hs g (Ax p);rw[i]at F G;clear h hs hab e f p x i e0;go_in;go_wp2_with fail;refine(aYr o m [(b:Int)] _ _ (A.out.alloc _) (IR.one (Blk.new _ _ _)) (by simp) (by omega)).mono ?_;rintro I J ⟨rfl,h1,h2,t⟩;have B:=fQ ((H.out.alloc (.cells #[.int .i64 (b:Int)] 3)).put z.out y.out h2 h1);have K:=fQ ((KeptBut.alloc bC w (.cells #[.int .i64 (b:Int)] 3)).trans (KeptBut.grown h2 (Ax z.out)));have d:=B.out;have f0:=d.k.cell 0;simp at f0;rw[bXg,E.out]at f0;have r:=d.c.cell b;have e0:(mapsV bC).toArray[b]? = some (.map (some q)):=(by simp[mapsV,j.out]);rw[e0]at r;have y1:=d.k.lt;have y2:=d.c.lt
  have u:(aKg C a b)[b]? = some g:=by
   rw[bWw y.out,List.getElem?_set_ne v.out];exact D.out
  have L:=fQ u;have M:=fQ (d.mc b q g j.out u);clear h1 h2 t d e0 u A;go_wp2_with fail;refine(aYr q g [(a:Int)] _ _ (M.out.alloc _) (IR.one (Blk.new _ _ _)) (by simp) (by omega)).mono ?_;rintro I w4 ⟨rfl,h1,h2,t⟩;have O:=fQ ((B.out.alloc (.cells #[.int .i64 (a:Int)] 3)).put j.out L.out h2 h1);have P:=fQ (K.out.trans ((KeptBut.alloc bC J (.cells #[.int .i64 (a:Int)] 3)).trans (KeptBut.grown h2 (Ax j.out))));clear h1 h2 t;go_wp2;go_end0;refine⟨rfl,?_,P.out⟩;unfold aJv;rw[if_neg v.out];exact O.out
def CS(S Req:Rel2)(P:Nat)(w1:AW)(N gK gC:Nat)(bC:List Nat)(w:AW):Prop:=∃ C M,CkM w1 w N gK gC bC C/\MetC C M/\C.length=P/\(∀ a b,M a b->S a b)/\∀ a b,Req a b->M a b
theorem CS.fQd{S Req Req':Rel2}(h:CS S Req P w1 N gK gC bC w)(hr:∀ a b,Req' a b->Req a b):CS S Req' P w1 N gK gC bC w:=by
 obtain⟨C,M,h1,h2,c,d,e⟩:=h;exact⟨C,M,h1,h2,c,d,fun a b hab=>e a b (hr a b hab)⟩
theorem CS.grown{S Req:Rel2}{P:Nat}{w1 w w':AW}{N gK gC:Nat}{bC:List Nat}{r:Option Nat}(h:CS S Req P w1 N gK gC bC w)(hg:w.grownBy w' r)(hr:∀ g,r=some g->N<=g/\∃ b m L,IT w b g m L):CS S Req P w1 N gK gC bC w':=by
 obtain⟨C,M,h1,h2,d,f,i⟩:=h;refine⟨C,M,h1.grown hg (fun g e=>?_),h2,d,f,i⟩;obtain⟨q1,b,m,L,a⟩:=hr g e;exact⟨q1,zQ a h1.k,zQ a h1.c,h1.fXm a⟩
theorem CS.alloc{S Req:Rel2}{P:Nat}{w1 w:AW}{N gK gC:Nat}{bC:List Nat}(h:CS S Req P w1 N gK gC bC w)(o:Obj):CS S Req P w1 N gK gC bC (w.alloc o):=h.grown (AJ w o none) (fun g e=>by cases e)
theorem CS.bel{S Req:Rel2}{P:Nat}{w1 w:AW}{N gK gC:Nat}{bC:List Nat}(h:CS S Req P w1 N gK gC bC w):Aa N w1 w/\N<=w.heap.size:=by
 obtain⟨C,M,h1,_⟩:=h;exact⟨h1.bel,h1.hsz⟩
def eJr(S Req:Rel2)(P:Nat)(w1:AW)(N gK gC:Nat)(bC:List Nat)(a b:Nat)(w:AW)(c:Ad)(w':AW):Prop:=
 c = .returned (.tuple #[])/\CS S (fun x y=>Req x y\/(x=(a:Int)/\y=(b:Int))) P w1 N gK gC bC w'/\KeptBut bC w w'
theorem aKr(S Req:Rel2)(P:Nat)(w1:AW)(N gK gC:Nat)(bC:List Nat)(a b:Nat)(w:AW)(h:CS S Req P w1 N gK gC bC w)(ha:a<P)(d:b<P)(e:S a b)(f:P<=100000):
  Ab fZ 24 #[.int .i64 (a:Int),.int .i64 (b:Int),.pointer (some ⟨gK,0,none⟩)] w (eJr S Req P w1 N gK gC bC a b w):=by
 obtain⟨C,M,h1,h2,g,i,j⟩:=h;subst g;refine(dVi w1 N gK gC bC C a b w h1 ha d h2.small f).mono ?_;rintro en w' ⟨rfl,q1,k⟩;refine⟨rfl,⟨_,_,q1,h2.meet ha d,bKg C a b,fun x y c=>?_,fun x y c=>?_⟩,k⟩
 ·rcases c with c | ⟨l,e2⟩
  ·exact i x y c
  ·rw[l,e2];exact e
 ·rcases c with c | c
  ·exact .inl (j x y c)
  ·exact .inr c
theorem bJl{a b:KV}{x:AY}(h:y ∉ (a++b).map (·.1))(hp:y≠p):y ∉ (a++(p,x) :: b).map (·.1):=by
 simp only[List.map_append,List.map_cons,List.mem_append,AK,not_or]at h ⊢;exact⟨h.1,hp,h.2⟩
def Sall(r:RowD):Rel2:=fun a b=>cKc r a b\/cKd r a b
def aKh(r:RowD)(k:Nat):Rel2:=fun x y=>∃ i c,i<k/\r.code[i]? = some c/\x∈c.outs/\Beh r i c y
def aZf(r:RowD)(k:Nat)(c:CodeD)(j:Nat):Rel2:=fun x y=>aKh r k x y\/(x∈c.outs.take j/\Beh r k c y)
def aVp(r:RowD)(k:Nat)(c:CodeD)(j:Nat)(o:Int)(t:List Int)(L:KV):Rel2:=fun x y=>aZf r k c j x y\/(x=o/\y∈t/\y ∉ L.map (·.1)/\(c.op=272->∀ a,c.args[0]? = some a->y≠a))
def aKi(r:RowD)(k:Nat)(c:CodeD)(j:Nat)(o:Int)(z:Nat):Rel2:=fun x y=>aZf r k c j x y\/(x=o/\((LiveB r k y/\(c.op=272->∀ a,c.args[0]? = some a->y≠a))\/y∈c.outs.take z))
def aZg(r:RowD)(k:Nat):Rel2:=fun x y=>aKh r r.code.length x y\/(x∈r.params.take k/\(y∈r.params\/Live r 0 y))
def aKj(r:RowD)(k:Nat)(a:Int)(j:Nat):Rel2:=fun x y=>aZg r k x y\/(x=a/\y∈r.params.take j)
def bJm(r:RowD)(k:Nat)(a:Int)(u:List Int)(L:KV):Rel2:=fun x y=>aZg r k x y\/(x=a/\(y∈r.params\/(y∈u/\y ∉ L.map (·.1))))
theorem oQ(h:l[j]? = some x):y∈l.take (j+1)↔y∈l.take j\/y=x:=by
 obtain⟨a,e⟩:=List.getElem?_eq_some_iff.1 h;rw[Aw a,e];simp
theorem zJ(h:l.length<=j):y∈l.take j↔y∈l:=by rw[Ay h]
theorem bKh{r:RowD}{c:CodeD}(hc:r.code[k]? = some c)(hj:c.outs.length<=j)(x y:Int)(h:aKh r (k+1) x y):aZf r k c j x y:=by
 obtain⟨i,d,h1,h2,a,b⟩:=h;by_cases e:i=k
 ·subst e;rw[hc]at h2;injection h2 with h2;subst h2;exact .inr ⟨(zJ hj).2 a,b⟩
 ·exact .inl ⟨i,d,by omega,h2,a,b⟩
theorem bZa{r:RowD}{c:CodeD}(x y:Int)(h:aZf r k c 0 x y):aKh r k x y:=by
 rcases h with h | ⟨h,_⟩
 ·exact h
 ·simp at h
theorem cKe{r:RowD}{c:CodeD}{t:List Int}(x y:Int)(h:aVp r k c j o t (setKV t) x y):aZf r k c j x y:=by
 rcases h with h | ⟨_,h2,a,_⟩
 ·exact h
 ·have e:(setKV t).map (·.1)=t:=by simp[setKV,Function.comp_def]
  rw[e]at a;exact absurd h2 a
theorem dQm{r:RowD}{c:CodeD}{t:List Int}{b d:KV}(hp:¬(c.op=272->∀ a,c.args[0]? = some a->p≠a))(x y:Int)(h:aVp r k c j o t (b++d) x y):aVp r k c j o t (b++(p,v) :: d) x y:=by
 rcases h with h | ⟨h1,h2,g,f⟩
 ·exact .inl h
 ·by_cases e:y=p
  ·subst e;exact absurd f hp
  ·exact .inr ⟨h1,h2,bJl g e,f⟩
theorem bWx{r:RowD}{c:CodeD}{t:List Int}{a b:KV}(x y:Int)(h:aVp r k c j o t (a++b) x y):aVp r k c j o t (a++(p,v) :: b) x y\/(x=o/\y=p):=by
 rcases h with h | ⟨h1,h2,d,f⟩
 ·exact .inl (.inl h)
 ·by_cases e:y=p
  ·exact .inr ⟨h1,e⟩
  ·exact .inl (.inr ⟨h1,h2,bJl d e,f⟩)
theorem dQn{r:RowD}{c:CodeD}{t:List Int}(a:∀ x,x∈t↔LiveB r k x)(x y:Int)(h:aKi r k c j o 0 x y):aVp r k c j o t [] x y:=by
 rcases h with h | ⟨h1,⟨h2,b⟩ | h2⟩
 ·exact .inl h
 ·exact .inr ⟨h1,(a y).2 h2,by simp,b⟩
 ·simp at h2
theorem bWy{r:RowD}{z:Nat}{c:CodeD}(hz:c.outs[z]? = some p)(x y:Int)(h:aKi r k c j o (z+1) x y):aKi r k c j o z x y\/(x=o/\y=p):=by
 rcases h with h | ⟨h1,h2 | h2⟩
 ·exact .inl (.inl h)
 ·exact .inl (.inr ⟨h1,.inl h2⟩)
 ·rcases(oQ hz).1 h2 with a | a
  ·exact .inl (.inr ⟨h1,.inr a⟩)
  ·exact .inr ⟨h1,a⟩
theorem bKi{r:RowD}{z:Nat}{c:CodeD}(hj:c.outs[j]? = some o)(hz:c.outs.length<=z)(x y:Int)(h:aZf r k c (j+1) x y):aKi r k c j o z x y:=by
 rcases h with h | ⟨h1,h2⟩
 ·exact .inl (.inl h)
 ·rcases(oQ hj).1 h1 with a | a
  ·exact .inl (.inr ⟨a,h2⟩)
  ·rcases h2 with h2 | h2
   ·exact .inr ⟨a,.inl h2⟩
   ·exact .inr ⟨a,.inr ((zJ hz).2 h2)⟩
theorem bZb{r:RowD}(x y:Int)(h:aZg r 0 x y):aKh r r.code.length x y:=by
 rcases h with h | ⟨h,_⟩
 ·exact h
 ·simp at h
theorem bZc{r:RowD}{a:Int}(x y:Int)(h:aKj r k a 0 x y):aZg r k x y:=by
 rcases h with h | ⟨_,h⟩
 ·exact h
 ·simp at h
theorem bWz{r:RowD}{a b:Int}(hj:r.params[j]? = some b)(x y:Int)(h:aKj r k a (j+1) x y):aKj r k a j x y\/(x=a/\y=b):=by
 rcases h with h | ⟨h1,h2⟩
 ·exact .inl (.inl h)
 ·rcases(oQ hj).1 h2 with c | c
  ·exact .inl (.inr ⟨h1,c⟩)
  ·exact .inr ⟨h1,c⟩
theorem cKf{r:RowD}{a:Int}(hj:r.params.length<=j)(x y:Int)(h:bJm r k a u (setKV u) x y):aKj r k a j x y:=by
 rcases h with h | ⟨h1,h2 | ⟨h2,b⟩⟩
 ·exact .inl h
 ·exact .inr ⟨h1,(zJ hj).2 h2⟩
 ·have e:(setKV u).map (·.1)=u:=by simp[setKV,Function.comp_def]
  rw[e]at b;exact absurd h2 b
theorem dVj{r:RowD}{a:Int}{b c:KV}(x y:Int)(h:bJm r k a u (b++c) x y):bJm r k a u (b++(p,v) :: c) x y\/(x=a/\y=p):=by
 rcases h with h | ⟨h1,h2 | ⟨h2,d⟩⟩
 ·exact .inl (.inl h)
 ·exact .inl (.inr ⟨h1,.inl h2⟩)
 ·by_cases e:y=p
  ·exact .inr ⟨h1,e⟩
  ·exact .inl (.inr ⟨h1,.inr ⟨h2,bJl d e⟩⟩)
theorem dQo{r:RowD}{a:Int}(c:r.params[k]? = some a)(d:∀ x,x∈u↔Live r 0 x)(x y:Int)(h:aZg r (k+1) x y):bJm r k a u [] x y:=by
 rcases h with h | ⟨h1,h2⟩
 ·exact .inl (.inl h)
 ·rcases(oQ c).1 h1 with b | b
  ·exact .inl (.inr ⟨b,h2⟩)
  ·rcases h2 with h2 | h2
   ·exact .inr ⟨b,.inl h2⟩
   ·exact .inr ⟨b,.inr ⟨(d y).2 h2,by simp⟩⟩
theorem bYa{r:RowD}(a:r.params.length<=k)(x y:Int)(h:Sall r x y):aZg r k x y:=by
 rcases h with⟨i,c,h1,h2,b⟩ | ⟨h1,h2⟩
 ·exact .inl ⟨i,c,(List.getElem?_eq_some_iff.1 h1).1,h1,h2,b⟩
 ·exact .inr ⟨(zJ a).2 h1,h2⟩
theorem pQ{n:Int}(h:within n l=true)(a:x∈l):0<=x/\x<n:=by
 have:=List.all_eq_true.1 h x a
 simpa using this
theorem bKj{e:EnvD}{r:RowD}{c:CodeD}(h:codeOk e r c=true)(b:c.op=272):c.args.length=1:=by
 unfold codeOk at h;rw[b]at h;unfold iX at h;simp only[show((272:Int)=256)=False by simp,if_false,if_true]at h
 split at h
 ·cases h
 ·rename_i i o a
  split at a
  ·injection a with a;injection a with h1 h2;subst h1;simp only[Bool.and_eq_true,decide_eq_true_eq]at h
   simpa using h.1.1
  ·cases a
section
variable {S Req:Rel2} {P:Nat} {w1 w w':AW} {N gK gC:Nat} {bC:List Nat}
theorem CS.it(h:CS S Req P w1 N gK gC bC w){rI:Nat}{m L:KV}(b:IT w a rI m L)(hb:a<N)(c:KeptBut bC w w'):IT w' a rI m L:=by
 obtain⟨C,M,h1,_⟩:=h;exact eQy b c (fun d=>by have:=h1.lb a d;omega) (h1.fXm b)
theorem CS.blk(h:CS S Req P w1 N gK gC bC w){cs:Array AY}(a:Blk w g t cs)(b:KeptBut bC w w'):Blk w' g t cs:=by
 obtain⟨C,M,h1,_⟩:=h;exact bXh a b (h1.fXz a)
end
def CkK(w1:AW)(N gK gC P:Nat)(bC:List Nat)(w:AW):Prop:=
 Blk w gK 71 #[.slice (some ⟨gC,0,none⟩) P P]/\Blk w gC 73 (setsV bC P)/\(∀ b∈bC,IM w b []/\N<=b)/\bC.Nodup/\Aa N w1 w/\N<=gK/\N<=gC/\N<=w1.heap.size
theorem CkK.push(h:CkK w1 N gK gC P bC w)(j:bC.length=k)(l:k<P):CkK w1 N gK gC P (bC ++ [w.heap.size]) ((w.setCell ⟨gC,k,none⟩ (.map (some w.heap.size))).alloc (.map #[] 0)):=by
 subst j;rw[<-World.setCell_alloc_past _ _ _ _ (show gC<w.heap.size from h.2.1.lt)];obtain⟨h1,h2,c,m,d,n,f,o⟩:=h;have l2:=h2.lt;have hz:=d.size;have g:∀ b,IM (w.alloc (.map #[] 0)) b []->IM ((w.alloc (.map #[] 0)).setCell ⟨gC,bC.length,none⟩ (.map (some w.heap.size))) b []:=fun b a=>a.setCell _ (fun e=>a.fQi (h2.alloc _) e);refine⟨(h1.alloc _).setCell _ (blk_ne h1 h2 (by decide)),?_,fun b a=>?_,?_,(d.alloc (by omega) _).setCell (p:=⟨gC,bC.length,none⟩) f _,n,f,o⟩
 ·have:=fV (h2.alloc (.map #[] 0)) bC.length (.map (some w.heap.size))
  rwa[aVi l]at this
 ·rcases List.mem_append.1 a with a | a
  ·exact⟨g b ((c b a).1.alloc _),(c b a).2⟩
  ·simp at a;subst a;exact⟨g _ (IM.new w),by omega⟩
 ·rw[AQ];refine⟨m,by simp,fun x q y i e=>?_⟩;simp at i;subst i;have:=(c x q).1.lt;omega
theorem bYb(t:List Int):∀ x∈(setKV t).map (·.1),x∈t:=by
 have e:(setKV t).map (·.1)=t:=by simp[setKV,Function.comp_def]
 rw[e];exact fun x h=>h
theorem CkK.cs(h:CkK w1 N gK gC P bC w)(d:bC.length=P)(S Req:Rel2)(g:∀ a b,¬Req a b):CS S Req P w1 N gK gC bC w:=by
 obtain⟨h1,h2,f,j,l,m,n,o⟩:=h;refine⟨AZ P [],fun _ _=>False,{ k:=by rw[List.length_replicate];exact h1,c:=by rw[<-aVh d];exact h2,lc:=by simp[d],mc:=fun i b s q1 p=>?_,nd:=j,lK:=m,lC:=n,lb:=fun b q=>(f b q).2,bel:=l,hz:=o },MetC.start P,by simp,fun a b hab=>hab.elim,fun a b hab=>g a b hab⟩;obtain⟨_,e⟩:=List.getElem?_eq_some_iff.1 p;simp at e;subst e;exact(f b (Ax q1)).1
theorem dQp(e:EnvD)(r:RowD)(ve vr:AY)(w:AW)(he:EnvV w ve e)(hr:RowV w vr r):Ab fZ 7 #[ve,vr] w (bXy e r r.places.toNat (fun i=>Clashes r (i:Int)) w):=by
 have HE:=fQ he;have HR:=fQ hr;obtain⟨va,vb,vd,rfl,h1,h2,h3⟩:=he;obtain⟨vp,vq,vr,vs,rfl,h4,h5,h6,h7⟩:=hr;obtain⟨Ap,cp,rfl⟩:=h4.shape;obtain⟨Aq,cq,rfl⟩:=h5.shape;obtain⟨Ar,cr,rfl⟩:=h6.shape;obtain⟨Ac,cc,rfl,_⟩:=h7.len;obtain⟨_,l7,cB⟩:=h7.fQb;obtain⟨_,_,_,_,cC⟩:=h6.len;have H7:=fQ h7;have bm:=fQ h6.ir;clear h1 h2 h3 h4 h5 h6 h7;have aA:=fQ (al2 w (.cells #[va,.int .i64 e.imports,vb,vd,.bool e.mem] 26) (.cells #[.slice Ap r.sig.inn.length cp,.slice Aq r.sig.out.length cq,.int .i64 r.places,.slice Ar r.params.length cr,.slice Ac r.code.length cc] 43));have bn:=fQ (Blk.newAt (w.alloc (.cells #[va,.int .i64 e.imports,vb,vd,.bool e.mem] 26)) (N:=w.heap.size+1) 43 #[.slice Ap r.sig.inn.length cp,.slice Aq r.sig.out.length cq,.int .i64 r.places,.slice Ar r.params.length cr,.slice Ac r.code.length cc] (by simp));go_in;go_wp2_with fail;refine(bYg e r _ _ _ (HE.out.below aA.out (Az _)) (HR.out.below aA.out (Az _))).mono ?_;rintro en w1 (⟨bo,rfl,S⟩ | ⟨hc,gF,gA,gB,bA,bB,A,B,rfl,hL,S⟩)
 ·have F:=fQ (aA.out.trans (S.mono aA.out.size));have bU:=fQ bo;clear bo S;go_wp2;go_ret2;exact .inl ⟨bU.out,rfl,F.out⟩
 ·have F:=fQ (aA.out.trans (S.mono aA.out.size));have G:=fQ (bn.out.below S bn.out.lt);have HC:=fQ hc;have K:=fQ hL;obtain⟨P,hP⟩:∃ P:Nat,r.places=P:=⟨r.places.toNat,by have:=hc.p1;omega⟩;have cD:P<=4096:=(by have:=hc.p2;omega);rw[hP]at G;have HP:=fQ hP;have bV:r.code.length<=4096:=hc.n2
  have bW:r.params.length<=8:=by
   have h1:=hc.par;have h2:=hc.sig;unfold sigOk kK at h2;simp only[Bool.and_eq_true,decide_eq_true_eq]at h2;omega
  have bX:=S.size;simp at bX;obtain⟨r0,r1,r2,T,r4⟩:=gQ G.out;have y1:=G.out.lt;have mk:=vZ (P:=fZ) 71 73 (.map none) 8 underlying71 bYf rfl P (by omega) (by omega);clear hc hL S hP r0 r1 T r4;go_wp2_with fail;clear mk r2 y1
  have bp:CkK w1 w1.heap.size (w1.heap.size+1) w1.heap.size P [] ((w1.alloc (.cells (Array.replicate P (.map none)) 73)).alloc (.cells #[.slice (some ⟨w1.heap.size,0,none⟩) P P] 71)):=by
   refine⟨Blk.newAt _ _ _ (by simp),?_,fun b S=>by simp at S,by simp,((Below.refl _ _).alloc (Az _) _).alloc (by simp) _,by omega,Az _,Az _⟩;have e:setsV [] P=Array.replicate P (.map none):=(by simp[setsV,mapsV]);rw[e];exact(Blk.new _ _ _).alloc _
  have bq:=fQ bp;clear bp;go_loopw [37] (fun i wr=>∃ (k:Nat) (bC:List Nat),k<=P/\i = .int .i64 k/\Hid (bC.length=k)/\Hid (CkK w1 w1.heap.size (w1.heap.size+1) w1.heap.size P bC wr)) (fun i _=>P - (intOf i).toNat)
  case atStart=>exact⟨0,[],by omega,rfl,fQ rfl,bq⟩
  case round=>
   clear bq;obtain⟨k,bC,hk,rfl,aq,E⟩:=hrel;obtain⟨wa,rfl⟩:∃ wa:AW,wa=wr:=⟨_,rfl⟩;by_cases bY:k<P
   ·have aM:decide ((k:Int)<P)=true:=(by simp;omega);have bZ:(k:Int)<P:=(by omega);have f0:=E.out.1.cell 0;simp at f0;have y1:=E.out.1.lt;have f2:=E.out.2.1.cell k
    have e2:(setsV bC P)[k]? = some (.map none):=by
     unfold setsV;rw[List.getElem?_toArray,List.getElem?_append_right (by rw[xX,aq.out];exact Az _),xX,aq.out,Nat.sub_self,List.getElem?_replicate,if_pos (by omega)]
    rw[e2]at f2;have f3:=frz E.out.2.1 k;have y2:=E.out.2.1.lt
    have cE:∀ w,(Instr.makeMap 73 none).run fZ w = .ok (.map (some w.heap.size)) (w.alloc (.map #[] 0)):=fun w=>by simp[Instr.makeMap]
    have b0:=fQ (E.out.push aq.out bY);have b1:=fQ (show(bC ++ [wa.heap.size]).length=k+1 by simp[aq.out]);clear e2 E aq;go_wp2;exact⟨⟨k+1,_,by omega,by simp,b1,b0⟩,by simp[intOf];omega⟩
   ·have aM:decide ((k:Int)<P)=false:=(by simp;omega);have b2:P=k:=(by omega);subst b2;obtain⟨n,hn⟩:=fX r.code.length;have ak:=E.out.2.2.2.2.1;have hsz:=ak.size;obtain⟨r0,r1,r2,T,r4⟩:=gQ (G.out.below ak G.out.lt);have y1:=(G.out.below ak G.out.lt).lt;rw[hn]at r4 bV;have HN:=fQ hn;have br:=fQ (E.out.cs aq.out (Sall r) (aKh r 0) (fun a b h=>by obtain⟨i,c,h,_⟩:=h;omega));clear E aq ak hn r0 r1 r2 T;go_wp2_with fail;clear r4 y1;obtain⟨wk,rfl⟩:∃ wk:AW,wk=wa:=⟨_,rfl⟩;go_loopw [49] (fun i wr=>∃ j:Nat,j<=n/\i = .int .i64 j/\Hid (CS (Sall r) (aKh r j) P w1 w1.heap.size (w1.heap.size+1) w1.heap.size bC wr)) (fun i _=>n - (intOf i).toNat)
    case atStart=>exact⟨0,by omega,rfl,br⟩
    case round=>as_aux_lemma=>
     clear br;obtain⟨j,hj,rfl,IC⟩:=hrel;obtain⟨U,rfl⟩:∃ U:AW,U=wr:=⟨_,rfl⟩;by_cases aN:j<n
     ·have aO:decide ((j:Int)<n)=true:=(by simp;omega);have b3:(j:Int)<n:=(by omega);obtain⟨c,aH⟩:∃ c,r.code[j]? = some c:=⟨_,Aj (by rw[HN.out];exact aN)⟩;have d:=IC.out.bel;have D:Aa w.heap.size w U:=F.out.trans (d.1.mono F.out.size);obtain⟨gb,go,p,q,tt,rfl,ai,g0,g1,g2,g3,g4,s0,s1,s2,s3⟩:=H7.out.code aH;replace g0:=(D.cell (p:=⟨gb,_,none⟩) ai).trans g0;replace g1:=(D.cell (p:=⟨gb,_,none⟩) ai).trans g1;replace g2:=(D.cell (p:=⟨gb,_,none⟩) ai).trans g2;replace g3:=(D.cell (p:=⟨gb,_,none⟩) ai).trans g3;replace g4:=(D.cell (p:=⟨gb,_,none⟩) ai).trans g4;obtain⟨pA,pc,rfl⟩:=s1.shape;obtain⟨qA,qc,rfl⟩:=s2.shape;obtain⟨tA,tc,rfl⟩:=s3.shape;obtain⟨_,_,_,_,b4⟩:=s2.len;have hsz:=D.size;have cF:=d.2;have cG:gb<U.heap.size:=(by omega);have bs:=fQ s2.ir;have b5:=fQ s1.ir;have aI:=fQ aH;have aP:=HC.out.code c (Ax aH);have b6:=fQ aP;obtain⟨_,bt,b7⟩:=qY aP;have bu:=fQ bt;obtain⟨m,hm⟩:=fX c.outs.length;have cH:m<=1152921504606846976:=(by omega);have R:=fQ hm;have aQ:=fQ (((IC.out.alloc (.cells #[.int .i64 c.op,.int .u64 (c.n:Int),.slice pA c.args.length pc,.slice qA c.outs.length qc,.slice tA c.to.length tc] 52))).fQd (fun x y h=>bZa (c:=c) (k:=j) x y h));have aR:=fQ (Blk.newAt U (N:=U.heap.size) 52 #[.int .i64 c.op,.int .u64 (c.n:Int),.slice pA c.args.length pc,.slice qA c.outs.length qc,.slice tA c.to.length tc] rfl);rw[hm]at g3 aR aQ;clear aH d D s0 s1 s2 s3 b4 aP bt b7 IC hm;go_wp2_with fail;clear g0 g1 g2 g3 g4;go_loopw [57] (fun i wr=>∃ z:Nat,z<=m/\i = .int .i64 z/\Hid (CS (Sall r) (aZf r j c z) P w1 w1.heap.size (w1.heap.size+1) w1.heap.size bC wr)/\Hid (Blk wr U.heap.size 52 #[.int .i64 c.op,.int .u64 (c.n:Int),.slice pA c.args.length pc,.slice qA m qc,.slice tA c.to.length tc])) (fun i _=>m - (intOf i).toNat)
      case atStart=>exact⟨0,by omega,rfl,aQ,aR⟩
      case round=>as_aux_lemma=>
       clear aQ aR;obtain⟨z,hz,rfl,iO,E⟩:=hrel;obtain⟨I,rfl⟩:∃ I:AW,I=wr:=⟨_,rfl⟩;by_cases aS:z<m
       ·have ar:decide ((z:Int)<m)=true:=(by simp;omega);have aT:(z:Int)<m:=(by omega);obtain⟨x,l⟩:∃ x,c.outs[z]? = some x:=⟨_,Aj (by rw[R.out];exact aS)⟩;have Q:=bu.out x (Ax l);obtain⟨o,rfl⟩:∃ o:Nat,x=o:=⟨x.toNat,by omega⟩;have d:=iO.out.bel;have D:Aa w.heap.size w I:=F.out.trans (d.1.mono F.out.size);have au:=d.2;have aU:o<P:=(by have:=HP.out;omega);obtain⟨ab,ao,rfl,hab,hcl⟩:=(bs.out.below D (Az _)).cell l;obtain⟨V,aJ⟩:∃ V,bB[j]? = some V:=⟨_,Aj (by rw[K.out.lb,K.out.s.lB,HN.out];exact aN)⟩;obtain⟨t,ht⟩:∃ t,B[j]? = some t:=⟨_,Aj (by rw[K.out.s.lB,HN.out];exact aN)⟩;have J:=K.out.below d.1 (Az _);have f0:=J.f.cell 1;have f2:=J.b.cell j;simp at f0;have e0:(mapsV bB).toArray[j]? = some (.map (some V)):=(by simp[mapsV,aJ]);rw[e0]at f2;rw[HN.out]at f0;have y2:=J.f.lt;have y4:=J.b.lt;have bw:=fQ (J.mb j V t aJ ht);have HT:=fQ (fun x=>K.out.eB j t x ht);have bx:=fQ (K.out.mb j V t aJ ht).lt;have HX:=fQ l;have aV:=fQ (Ax l);clear J e0 aJ ht l Q d D;go_wp2_with (at_range;refine aJc _ rfl _ 73 rfl 3 4 underlying73 V (setKV t) rfl bw.out ?_);rintro w4 hI hg aW;have HI:=fQ hI;have bz:=fQ ((iO.out.grown hg (fun g e=>by cases e)).fQd (fun x y h=>cKe (o:=(o:Int)) (t:=t) x y h));have bD:=fQ (E.out.grown hg (by simp));clear hI hg aW bw f0 f2 y2 y4 hcl iO E;go_wp2_with fail
        go_loopw [] (fun wr=>∃ L:KV,Hid (CS (Sall r) (aVp r j c z (o:Int) t L) P w1 w1.heap.size (w1.heap.size+1) w1.heap.size bC wr)/\Hid (Blk wr U.heap.size 52 #[.int .i64 c.op,.int .u64 (c.n:Int),.slice pA c.args.length pc,.slice (some ⟨ab,ao,none⟩) m qc,.slice tA c.to.length tc])/\Hid (IT wr V I.heap.size (setKV t) L)/\Hid (∀ x∈L.map (·.1),x∈t)) (fun wr=>wr.rangeLeft V I.heap.size)
        case atStart=>exact⟨_,bz,bD,HI,fQ (bYb t)⟩
        case round=>as_aux_lemma=>
         clear bz bD HI;obtain⟨L,iO,E,O,W⟩:=hrel;obtain⟨wi,rfl⟩:∃ wi:AW,wi=wr:=⟨_,rfl⟩;have av:=fQ O.out.left;have aX:=iO.out.bel.2;go_wp2_with (at_next;refine aKo _ rfl _ rfl V I.heap.size (setKV t) L rfl O.out ?_ ?_)
         ·rintro rfl;have bE:=fQ (iO.out.fQd (fun x y h=>dQn HT.out x y h));have f3:=E.out.cell 3;simp at f3;have y3:=E.out.lt;clear O W iO av;go_wp2_with fail;clear f3 y3;go_loopw [91] (fun i wr=>∃ y:Nat,y<=m/\i = .int .i64 y/\Hid (CS (Sall r) (aKi r j c z (o:Int) y) P w1 w1.heap.size (w1.heap.size+1) w1.heap.size bC wr)/\Hid (Blk wr U.heap.size 52 #[.int .i64 c.op,.int .u64 (c.n:Int),.slice pA c.args.length pc,.slice (some ⟨ab,ao,none⟩) m qc,.slice tA c.to.length tc])) (fun i _=>m - (intOf i).toNat)
          case atStart=>exact⟨0,by omega,rfl,bE,E⟩
          case round=>as_aux_lemma=>
           clear bE E;obtain⟨y,hy,rfl,IZ,aY⟩:=hrel;obtain⟨wy,rfl⟩:∃ wy:AW,wy=wr:=⟨_,rfl⟩;by_cases b8:y<m
           ·have aZ:decide ((y:Int)<m)=true:=(by simp;omega);have b9:(y:Int)<m:=(by omega);obtain⟨x,l⟩:∃ x,c.outs[y]? = some x:=⟨_,Aj (by rw[R.out];exact b8)⟩;have Q:=bu.out x (Ax l);obtain⟨o2,rfl⟩:∃ o:Nat,x=o:=⟨x.toNat,by omega⟩;have d:=IZ.out.bel;have D:Aa w.heap.size w wy:=F.out.trans (d.1.mono F.out.size);have a1:o2<P:=(by have:=HP.out;omega);obtain⟨ab,ao,aw,hab,hcl⟩:=(bs.out.below D (Az _)).cell l;injection aw with aw;injection aw with e1 e2;subst e1;subst e2;have a6:=fQ l;have X:=fQ (show Sall r (o:Int) (o2:Int)from .inl ⟨j,c,aI.out,aV.out,.inr (Ax l)⟩);clear l Q d D;go_wp2_with fail;refine(aKr (Sall r) (aKi r j c z (o:Int) y) P w1 w1.heap.size (w1.heap.size+1) w1.heap.size bC o o2 _ IZ.out aU a1 (X.out) (by omega)).mono ?_;rintro en w6 ⟨rfl,h1,h2⟩;have a7:=fQ (h1.fQd (fun a b h=>bWy a6.out a b h));have ca:=fQ (IZ.out.blk aY.out h2);clear h1 h2 hcl IZ aY;go_wp2;exact⟨⟨y+1,by omega,by simp,a7,ca⟩,by simp[intOf];omega⟩
           ·have aZ:decide ((y:Int)<m)=false:=(by simp;omega);have a7:=fQ (IZ.out.fQd (fun a b h=>bKi HX.out (by rw[R.out];omega) a b h));clear IZ;go_wp2;exact⟨⟨z+1,by omega,by simp,a7,aY⟩,by simp[intOf];omega⟩
         ·rintro L1 x v0 L2 w5 rfl aD aB a8 cd;have af:=(HT.out x).1 (W.out x (by simp));have Q:=af.range HC.out;obtain⟨p,rfl⟩:∃ p:Nat,x=p:=⟨x.toNat,by omega⟩;have aK:p<P:=(by have:=HP.out;omega);have Y:=fQ aD;have H:=fQ (iO.out.grown aB (fun g e=>by injection e with e;subst e;exact⟨au,_,_,_,O.out⟩));have aE:=E.out.grown aB (fun e=>by injection e with e;exact zQ O.out E.out e);have aF:=fQ aE;have aG:=fQ (fun y hy=>W.out y (bXr hy));have f3:=aE.cell 0;have f4:=aE.cell 2;simp at f3 f4;have y3:=aE.lt;have d:=H.out.bel;have D:Aa w.heap.size w w5:=F.out.trans (d.1.mono F.out.size);have bF:=fQ af;clear af Q aE aB a8 aD O iO E W;by_cases ax:c.op=272
          ·have cf:(c.op != 272)=false:=(by simp[ax]);have ch:=bKj b6.out ax;have ba:0<c.args.length:=(by omega);obtain⟨a0,bb⟩:∃ a0,c.args[0]? = some a0:=⟨_,Aj ba⟩;obtain⟨pb,po,rfl,cI,bG⟩:=(b5.out.below D (Az _)).cell bb;have bH:=fQ bb;have cj:=fQ ax;have ck:w5.cell? ⟨pb,po,none⟩=some (.int .i64 a0):=(by simpa using bG);clear ch bb ax d D bG;by_cases aC:(p:Int)=a0
           ·have bc:((p:Int) != a0)=false:=(by simp[aC]);have ay:=fQ (H.out.fQd (fun a b h=>dQm (v:=v0) (fun hh=>hh cj.out a0 bH.out aC) a b h));have az:=fQ Y.out.left;clear aC H;go_wp2;refine⟨⟨L1++L2,ay,aF,Y,aG⟩,?_⟩;rw[az.out,av.out];simp
           ·have bc:((p:Int) != a0)=true:=by simp[aC]
            have X:=fQ (show Sall r (o:Int) (p:Int)from .inl ⟨j,c,aI.out,aV.out,.inl ⟨bF.out,fun _ a ha=>by
             have h0:=bH.out;rw[h0]at ha;injection ha with ha;rw[<-ha]
             exact aC⟩⟩)
            clear aC;go_wp2_with fail;refine(aKr (Sall r) (aVp r j c z (o:Int) t (L1++((p:Int),v0) :: L2)) P w1 w1.heap.size (w1.heap.size+1) w1.heap.size bC o p _ H.out aU aK (X.out) (by omega)).mono ?_;rintro en w6 ⟨rfl,h1,h2⟩;have ay:=fQ (h1.fQd (fun a b h=>bWx a b h));have bd:=fQ (H.out.blk aF.out h2);have an:=fQ (H.out.it Y.out bx.out h2);have az:=fQ an.out.left;clear h1 h2 H aF Y;go_wp2;refine⟨⟨L1++L2,ay,bd,an,aG⟩,?_⟩;rw[az.out,av.out];simp
          ·have cf:(c.op != 272)=true:=(by simp[ax]);have X:=fQ (show Sall r (o:Int) (p:Int)from .inl ⟨j,c,aI.out,aV.out,.inl ⟨bF.out,fun e=>absurd e ax⟩⟩);clear ax d D;go_wp2_with fail;refine(aKr (Sall r) (aVp r j c z (o:Int) t (L1++((p:Int),v0) :: L2)) P w1 w1.heap.size (w1.heap.size+1) w1.heap.size bC o p _ H.out aU aK (X.out) (by omega)).mono ?_;rintro en w6 ⟨rfl,h1,h2⟩;have ay:=fQ (h1.fQd (fun a b h=>bWx a b h));have bd:=fQ (H.out.blk aF.out h2);have an:=fQ (H.out.it Y.out bx.out h2);have az:=fQ an.out.left;clear h1 h2 H aF Y;go_wp2;refine⟨⟨L1++L2,ay,bd,an,aG⟩,?_⟩;rw[az.out,av.out];simp
       ·have ar:decide ((z:Int)<m)=false:=(by simp;omega);have cm:=fQ (iO.out.fQd (fun a b h=>bKh aI.out (by rw[R.out];omega) a b h));clear iO E;go_wp2;exact⟨⟨j+1,by omega,by simp,cm⟩,by simp[intOf];omega⟩
     ·have aO:decide ((j:Int)<n)=false:=(by simp;omega);have h0:=IC.out;rw[show j=r.code.length by rw[HN.out];omega]at h0;obtain⟨m,hm⟩:=fX r.params.length;have bI:=fQ (h0.fQd (fun x y h=>bZb x y h));have d:=h0.bel;obtain⟨r0,r1,r2,T,r4⟩:=gQ (G.out.below d.1 G.out.lt);have y1:=(G.out.below d.1 G.out.lt).lt;rw[hm]at T bW;have R:=fQ hm;clear h0 d IC hm r0 r1 r2 r4;go_wp2_with fail;clear T y1;go_loopw [105] (fun i wr=>∃ q:Nat,q<=m/\i = .int .i64 q/\Hid (CS (Sall r) (aZg r q) P w1 w1.heap.size (w1.heap.size+1) w1.heap.size bC wr)) (fun i _=>m - (intOf i).toNat)
      case atStart=>exact⟨0,by omega,rfl,bI⟩
      case round=>as_aux_lemma=>
       clear bI;obtain⟨q,hq,rfl,IP⟩:=hrel;obtain⟨wq,rfl⟩:∃ wq:AW,wq=wr:=⟨_,rfl⟩;by_cases cn:q<m
       ·have be:decide ((q:Int)<m)=true:=(by simp;omega);have ct:(q:Int)<m:=(by omega);obtain⟨x,l⟩:∃ x,r.params[q]? = some x:=⟨_,Aj (by rw[R.out];exact cn)⟩;have bJ:=fQ (fun x (l:x∈r.params)=>pQ HC.out.pin l);have Q:=bJ.out x (Ax l);obtain⟨a,rfl⟩:∃ a:Nat,x=a:=⟨x.toNat,by omega⟩;have bL:a<P:=(by have:=HP.out;omega);have d:=IP.out.bel;have D:Aa w.heap.size w wq:=F.out.trans (d.1.mono F.out.size);obtain⟨ab,ao,rfl,hab,hcl⟩:=(bm.out.below D (Az _)).cell l;obtain⟨r0,r1,r2,T,r4⟩:=gQ (G.out.below d.1 G.out.lt);have y1:=(G.out.below d.1 G.out.lt).lt;rw[R.out]at T;have HX:=fQ l;have bM:=fQ (IP.out.fQd (fun x y h=>bZc (a:=(a:Int)) x y h));clear l Q d D r0 r1 r2 r4 IP;go_wp2_with fail;clear T y1 hcl;go_loopw [112] (fun i wr=>∃ z:Nat,z<=m/\i = .int .i64 z/\Hid (CS (Sall r) (aKj r q (a:Int) z) P w1 w1.heap.size (w1.heap.size+1) w1.heap.size bC wr)) (fun i _=>m - (intOf i).toNat)
        case atStart=>exact⟨0,by omega,rfl,bM⟩
        case round=>as_aux_lemma=>
         clear bM;obtain⟨z,hz,rfl,IQ⟩:=hrel;obtain⟨I,rfl⟩:∃ I:AW,I=wr:=⟨_,rfl⟩;have d:=IQ.out.bel;have au:=d.2;by_cases aS:z<m
         ·have ar:decide ((z:Int)<m)=true:=(by simp;omega);have aT:(z:Int)<m:=(by omega);obtain⟨x,l⟩:∃ x,r.params[z]? = some x:=⟨_,Aj (by rw[R.out];exact aS)⟩;have Q:=bJ.out x (Ax l);obtain⟨b,rfl⟩:∃ a:Nat,x=a:=⟨x.toNat,by omega⟩;have cv:b<P:=(by have:=HP.out;omega);have D:Aa w.heap.size w I:=F.out.trans (d.1.mono F.out.size);obtain⟨ab,ao,aw,hab,hcl⟩:=(bm.out.below D (Az _)).cell l;injection aw with aw;injection aw with e1 e2;subst e1;subst e2;have a6:=fQ l;have X:=fQ (show Sall r (a:Int) (b:Int)from .inr ⟨Ax HX.out,.inl (Ax l)⟩);clear l Q d D;go_wp2_with fail;refine(aKr (Sall r) (aKj r q (a:Int) z) P w1 w1.heap.size (w1.heap.size+1) w1.heap.size bC a b _ IQ.out bL cv (X.out) (by omega)).mono ?_;rintro en w6 ⟨rfl,h1,h2⟩;have cw:=fQ (h1.fQd (fun a b h=>bWz a6.out a b h));clear h1 h2 hcl IQ;go_wp2;exact⟨⟨z+1,by omega,by simp,cw⟩,by simp[intOf];omega⟩
         ·have ar:decide ((z:Int)<m)=false:=(by simp;omega);have bf:0<r.code.length:=HC.out.n1;obtain⟨Z,aL⟩:∃ Z,bA[0]? = some Z:=⟨_,Aj (by rw[K.out.la,K.out.s.lA];exact bf)⟩;obtain⟨u,hu⟩:∃ u,A[0]? = some u:=⟨_,Aj (by rw[K.out.s.lA];exact bf)⟩;have J:=K.out.below d.1 (Az _);have f0:=J.f.cell 0;have f2:=J.a.cell 0;simp at f0;have e0:(mapsV bA).toArray[0]? = some (.map (some Z)):=(by simp[mapsV,aL]);rw[e0]at f2;rw[HN.out]at f0 bf;have y2:=J.f.lt;have y4:=J.a.lt;have bN:=fQ (J.ma 0 Z u aL hu);have HU:=fQ (fun x=>K.out.eA 0 u x hu);have cx:=fQ (K.out.ma 0 Z u aL hu).lt;clear J e0 aL hu d;go_wp2_with (at_range;refine aJc _ rfl _ 73 rfl 3 4 underlying73 Z (setKV u) rfl bN.out ?_);rintro w4 hI hg aW;have HI:=fQ hI;have bO:=fQ ((IQ.out.grown hg (fun g e=>by cases e)).fQd (fun x y h=>cKf (u:=u) (by rw[R.out];omega) x y h));clear hI hg aW bN f0 f2 y2 y4 IQ;go_wp2_with fail
          go_loopw [] (fun wr=>∃ L:KV,Hid (CS (Sall r) (bJm r q (a:Int) u L) P w1 w1.heap.size (w1.heap.size+1) w1.heap.size bC wr)/\Hid (IT wr Z I.heap.size (setKV u) L)/\Hid (∀ x∈L.map (·.1),x∈u)) (fun wr=>wr.rangeLeft Z I.heap.size)
          case atStart=>exact⟨_,bO,HI,fQ (bYb u)⟩
          case round=>as_aux_lemma=>
           clear bO HI;obtain⟨L,iO,O,W⟩:=hrel;obtain⟨wi,rfl⟩:∃ wi:AW,wi=wr:=⟨_,rfl⟩;have av:=fQ O.out.left;have aX:=iO.out.bel.2;go_wp2_with (at_next;refine aKo _ rfl _ rfl Z I.heap.size (setKV u) L rfl O.out ?_ ?_)
           ·rintro rfl;have cy:=fQ (iO.out.fQd (fun x y h=>dQo HX.out HU.out x y h));clear O W iO av;go_wp2;exact⟨⟨q+1,by omega,by simp,cy⟩,by simp[intOf];omega⟩
           ·rintro L1 x v0 L2 w5 rfl aD aB a8 cd;have af:=(HU.out x).1 (W.out x (by simp));have Q:=af.range HC.out;obtain⟨p,rfl⟩:∃ p:Nat,x=p:=⟨x.toNat,by omega⟩;have aK:p<P:=(by have:=HP.out;omega);have Y:=fQ aD;have H:=fQ (iO.out.grown aB (fun g e=>by injection e with e;subst e;exact⟨au,_,_,_,O.out⟩));have aG:=fQ (fun y hy=>W.out y (bXr hy));have X:=fQ (show Sall r (a:Int) (p:Int)from .inr ⟨Ax HX.out,.inr af⟩);clear af Q aB a8 aD O iO W;go_wp2_with fail;refine(aKr (Sall r) (bJm r q (a:Int) u (L1++((p:Int),v0) :: L2)) P w1 w1.heap.size (w1.heap.size+1) w1.heap.size bC a p _ H.out bL aK (X.out) (by omega)).mono ?_;rintro en w6 ⟨rfl,h1,h2⟩;have ay:=fQ (h1.fQd (fun a b h=>dVj a b h));have an:=fQ (H.out.it Y.out cx.out h2);have az:=fQ an.out.left;clear h1 h2 H Y;go_wp2;refine⟨⟨L1++L2,ay,an,aG⟩,?_⟩;rw[az.out,av.out];simp
       ·have be:decide ((q:Int)<m)=false:=(by simp;omega);obtain⟨C,M,h1,h2,h3,h4,h5⟩:=IP.out;have f0:=h1.k.cell 0;simp at f0;have y1:=h1.k.lt;have bg:=dQs w1.heap.size bC C wq h1.c h1.lc h1.mc (fun s hs=>⟨h2.nd s hs,by have:=h2.small s hs;omega⟩) (by omega)
        have cz:=fQ (show ∀ (i:Nat) s x,C[i]? = some s->(x∈s↔Clashes r (i:Int) x)from fun i s x hs=>by
         have hM:∀ a b,M a b↔Sall r a b:=fun a b=>⟨h4 a b,fun h=>h5 a b (bYa (by rw[R.out];omega) a b h)⟩;rw[h2.eq i s hs x,hM,hM]
         exact Iff.rfl)
        have bP:=F.out.trans (h1.bel.mono F.out.size);rw[h3]at f0 bg;have bQ:=fQ bg;have bl:=fQ bP;have H3:=fQ h3;clear h1 h2 h3 h4 h5 bg bP IP;go_wp2_with fail;refine bQ.out.mono ?_;rintro en w8 hp;obtain⟨v,rfl,hT,bT⟩:=eQt hp cz.out;rw[H3.out]at hT;have HT:=fQ (hT.mono bl.out.size);have cA:=fQ (bl.out.trans (bT.mono bl.out.size));clear hp hT bT bQ f0 y1;go_wp2;go_ret2;have e:r.places.toNat=P:=(by have:=HP.out;omega);rw[e];exact .inr ⟨HC.out,v,rfl,HT.out,cA.out⟩
def LL(w:AW)(v:AY)(P:List (List Int)):Prop:=∃ A c vs,v = .slice A P.length c/\Src w A P.length vs/\∀ (i:Nat) u p,vs[i]? = some u->P[i]? = some p->IR w u p
theorem LL.at{w:AW}{A:Option Addr}{n c:Nat}{P:List (List Int)}(h:LL w (.slice A n c) P){i:Nat}{p:List Int}(hp:P[i]? = some p):∃ b o B k,A=some ⟨b,o,none⟩/\b<w.heap.size/\w.cell? ⟨b,o+i,none⟩=some (.slice B p.length k)/\IR w (.slice B p.length k) p:=by
 obtain⟨A',c',vs,e,h1,h2⟩:=h;injection e with a e2 d;subst a;subst d;have hi:=(List.getElem?_eq_some_iff.1 hp).1;obtain⟨b,o,e,f⟩:=h1.addr (by omega);subst e;have hc:=h1.at_ hi;have g:i<vs.length:=(by rw[h1.1];exact hi);have hr:=h2 i _ p (Aj g) hp;obtain⟨B,k,e⟩:=hr.shape;rw[e]at hc hr;exact⟨b,o,B,k,rfl,f,hc,hr⟩
theorem cXt(w:AW)(a b:Nat):(w.drewN a).drewN b=w.drewN (a+b):=by
 simp[World.drewN];omega
theorem aJg{cs:Array AY}(h:Blk w g 3 cs)(a:l.length=n)(e:i64s l=cs.toList)(hn:n<=100):Ints w (.slice (some ⟨g,0,none⟩) n n) l:=by
 subst a;exact⟨_,_,rfl,by rw[e];exact Blk.fQc h (by have:=congrArg List.length e;simpa[i64s]using this.symm),Az _,(fun e=>by cases e),by omega⟩
def pW:RowD:=⟨⟨[],[127]⟩,2,[],[⟨258,0,[],[],[]⟩,⟨256,1,[],[0],[]⟩,⟨106,0,[0,0],[1],[]⟩,⟨276,0,[1],[],[]⟩]⟩
def eJt(w:AW)(a:Ad)(w':AW):Prop:=∃ v,a = .returned v/\RowV w' v pW/\Aa w.heap.size w w'
def noE:EnvD:=⟨[],0,[],[],false⟩
theorem cJz(w:AW):EnvV w (.agg #[.slice none 0 0,.int .i64 0,.slice none 0 0,.slice none 0 0,.bool false]) noE:=
 ⟨_,_,_,rfl,⟨none,0,[],rfl,Az _,fun _=>rfl,by simp[noE],rfl,by simp,fun i r x h=>by simp at h,Src.nil _ _⟩,Ints.nil _,⟨none,0,rfl,Src.nil _ _,Az _,fun _=>rfl,by simp[noE]⟩⟩
theorem cKa{i:Nat}{c:CodeD}(h:pW.code[i]? = some c)(a:x∈nextOf c i):x=(i:Int)+1/\i<3:=by
 match i,h with
 | 0,h=>injection h with h;subst h;simp[nextOf]at a;exact⟨a,by omega⟩
 | 1,h=>injection h with h;subst h;simp[nextOf]at a;exact⟨by omega,by omega⟩
 | 2,h=>injection h with h;subst h;simp[nextOf]at a;exact⟨by omega,by omega⟩
 | 3,h=>injection h with h;subst h;simp[nextOf]at a
 | n+4,h=>simp[pW]at h
theorem bXd:CheckP noE pW where
 env:=by decide
 sig:=by decide
 n1:=by decide
 n2:=by decide
 p1:=by decide
 p2:=by decide
 par:=rfl
 pin:=rfl
 pun:=by simp[pW]
 code c hc:=by
  simp only[pW,AK,List.not_mem_nil,or_false]at hc;rcases hc with rfl | rfl | rfl | rfl <;> rfl
 first c hc:=by injection hc with hc;subst hc;rfl
 last c hc:=by injection hc with hc;subst hc;decide
 rank:=⟨fun i=>4 - i,fun i c k hc _ a=>by
  obtain⟨h1,h2⟩:=cKa hc a;show 4 - k<4 - i
  omega⟩
def lA:List (List Int):=[[],[],[0],[1]]
def lB:List (List Int):=[[],[0],[1],[]]
theorem Told.ll{Q:Nat->Int->Prop}(h:Told w base v n Q){L:List (List Int)}(hl:L.length=n)(f:∀ (i:Nat) p,L[i]? = some p->IsSet p (Q i)):LL w v L:=by
 obtain⟨vs,P,h1,h2,g,j⟩:=h
 have e:P=L:=by
  apply List.ext_getElem?;intro i;by_cases hi:i<n
  ·have a:=Aj (show i<P.length by omega);have b:=Aj (show i<L.length by omega);rw[a,b,(j i _ a).one (f i _ b)]
  ·rw[Av (by omega),Av (by omega)]
 subst e;subst g;obtain⟨A,c,rfl,_⟩:=fW h1;refine⟨A,c,vs,rfl,Src.fQj h1,fun i u p q1 l=>?_⟩;have d:=h2.2 i u p q1 l;obtain⟨B,k,rfl,_⟩:=fW d;exact⟨B,k,rfl,Src.fQj d⟩
def eJo(w:AW)(a:Ad)(w':AW):Prop:=a = .returned (.bool true)/\Aa w.heap.size w w'
theorem Sall.range{e:EnvD}{r:RowD}(hc:CheckP e r){a b:Int}(h:Sall r a b):(0<=a/\a<r.places)/\0<=b/\b<r.places:=by
 rcases h with⟨i,c,h1,h2,d⟩ | ⟨h1,h2⟩
 ·have hp:=qY (hc.code c (Ax h1));refine⟨hp.2.1 a h2,?_⟩;rcases d with⟨d,_⟩ | d
  ·exact d.range hc
  ·exact hp.2.1 b d
 ·refine⟨pQ hc.pin h1,?_⟩;rcases h2 with h2 | h2
  ·exact pQ hc.pin h2
  ·exact h2.range hc
theorem Clashes.range{e:EnvD}{r:RowD}(hc:CheckP e r){a b:Int}(h:Clashes r a b):0<=b/\b<r.places:=by
 rcases h.2 with h | h
 ·exact(Sall.range hc h).2
 ·exact(Sall.range hc h).1
theorem Clashes.symm{r:RowD}{a b:Int}(h:Clashes r a b):Clashes r b a:=⟨fun e=>h.1 e.symm,h.2.symm⟩
theorem IsSet.small{e:EnvD}{r:RowD}(hc:CheckP e r){p:List Int}{Q:Int->Prop}(h:IsSet p Q)(hr:∀ x,Q x->0<=x/\x<r.places):p.length<=4096:=by
 have h1:=hc.p1;have h2:=hc.p2;have:=qJ (m:=r.places.toNat) (h.1.imp (fun h=>by omega)) (fun x a=>by have:=hr x ((h.2 x).1 a);omega);omega
theorem Told.lists{Q:Nat->Int->Prop}(h:Told w base v n Q):∃ P,LL w v P/\P.length=n/\∀ (i:Nat) p,P[i]? = some p->IsSet p (Q i):=by
 have c:=h;obtain⟨vs,P,h1,h2,a,b⟩:=h;exact⟨P,c.ll a b,a,b⟩
def eQz(w:AW)(a:Ad)(w':AW):Prop:=a = .returned (.bool true)/\Aa w.heap.size w w'
end Go.Proofs.YtabibkpfgmolkaaGreat
namespace Go.Proofs.YtabibkpfgmolkaaGreat
variable {k j n a b g P N gK gC base:Nat}{w w' w1:AW}{x p o y:Int}{l s u:List Int}{v:AY}{t:TypeId}{S bC:List Nat}
def kJ(n:Int)(l:List Int)(u:Bool):Bool:=within n l && (!u || decide l.Nodup)
theorem bQi{n:Int}(a:l[k]? = some x)(h:within n (l.take k)=true)(b:0<=x)(h1:x<n):within n (l.take (k+1))=true:=by
 obtain⟨c,e⟩:=List.getElem?_eq_some_iff.1 a;rw[Aw c,e];unfold within at h ⊢;rw[List.all_append,h];simp;exact⟨b,h1⟩
theorem aJy{n:Int}(a:x∈l)(h:¬(0<=x/\x<n)):within n l=false:=by
 rw[Bool.eq_false_iff];intro b;exact h (pQ b a)
theorem cKk(d:l[k]? = some x)(h:(l.take k).Nodup)(hn:x ∉ l.take k):(l.take (k+1)).Nodup:=by
 obtain⟨f,e⟩:=List.getElem?_eq_some_iff.1 d;rw[Aw f,e,AQ];exact⟨h,by simp,fun a ha b c e2=>by simp at c;subst c;rw[e2]at ha;exact hn ha⟩
theorem dVp(hj:l[j]? = some x)(a:l[k]? = some x)(h:j<k):decide l.Nodup=false:=by
 rw[decide_eq_false_iff_not];intro hn;obtain⟨h1,b⟩:=List.getElem?_eq_some_iff.1 hj;obtain⟨h2,e2⟩:=List.getElem?_eq_some_iff.1 a;exact(List.pairwise_iff_getElem.1 hn j k h1 h2 h) (b.trans e2.symm)
def eJy(b:Bool)(w:AW)(a:Ad)(w':AW):Prop:=a = .returned (.bool b)/\∃ m,w'=w.drewN m
theorem aZm(u:Bool)(p:Int)(v:AY)(l:List Int)(w:AW)(hs:IR w v l)(L:l.length<=9223372036854775806):Ab fZ 39 #[v,.int .i64 p,.bool u] w (eJy (kJ p l u) w):=by
 obtain⟨A,c,rfl⟩:=hs.shape;have q:=fQ hs;obtain⟨n,hn⟩:=fX l.length;rw[hn]at q L ⊢;have f:=fQ hn;clear hs hn;cases u
 all_goals
  go_in;go_wp2
 ·go_loopw [7] (fun i wr=>∃ k:Nat,k<=n/\i = .int .i64 k/\Hid (within p (l.take k)=true)/\Hid (∃ m,wr=w.drewN m)) (fun i _=>n - (intOf i).toNat)
  case atStart=>exact⟨0,by omega,rfl,fQ (by simp[within]),fQ ⟨0,rfl⟩⟩
  case round=>
   obtain⟨k,M,rfl,o,IM⟩:=hrel;obtain⟨m,rfl⟩:=IM.out;clear IM;by_cases t:k<n
   ·have z:decide ((k:Int)<n)=true:=(by simp;omega);have N:(k:Int)<n:=(by omega);obtain⟨x,d⟩:∃ x,l[k]? = some x:=⟨_,Aj (by rw[f.out];exact t)⟩;obtain⟨O,P,rfl,hab,hcl⟩:=q.out.cell d;have b:=fQ d;clear d;by_cases e:x<0
    ·have B:decide (x<0)=true:=(by simp;omega);have a:=fQ (show kJ p l false=false by unfold kJ;rw[aJy (Ax b.out) (by omega)];rfl);clear e;go_wp2;go_ret;exact⟨by rw[a.out];rfl,_,rfl⟩
    ·have B:decide (x<0)=false:=(by simp;omega);by_cases h1:x<p
     ·have C:decide (p<=x)=false:=(by simp;omega);have a:=fQ (bQi b.out o.out (by omega) h1);clear e h1;go_wp2_with fail;go_loopw [8] (fun i wr=>i = .int .i64 0/\Hid (∃ m,wr=w.drewN m)) (fun _ _=>0)
      case atStart=>exact⟨rfl,fQ ⟨_,rfl⟩⟩
      case round=>
       obtain⟨rfl,IM⟩:=hrel;obtain⟨m2,rfl⟩:=IM.out;clear IM;by_cases D:0<k
       ·have E:decide (0<k)=true:=decide_eq_true D;have F:decide ((0:Int)<(k:Int))=true:=(by simp;omega);clear D;go_wp2;exact⟨⟨k+1,by omega,by simp,a,fQ ⟨_,rfl⟩⟩,by simp[intOf];omega⟩
       ·have E:decide (0<k)=false:=decide_eq_false D;have F:decide ((0:Int)<(k:Int))=false:=(by simp;omega);have r:k=0:=(by omega);subst r;go_wp2;exact⟨⟨0+1,by omega,by simp,a,fQ ⟨_,rfl⟩⟩,by simp[intOf];omega⟩
     ·have C:decide (p<=x)=true:=(by simp;omega);have a:=fQ (show kJ p l false=false by unfold kJ;rw[aJy (Ax b.out) (by omega)];rfl);clear e h1;go_wp2;go_ret;exact⟨by rw[a.out];rfl,_,rfl⟩
   ·have z:decide ((k:Int)<n)=false:=by simp;omega
    have a:=fQ (show kJ p l false=true by
     have:=o.out;rw[Ay (by rw[f.out];omega)]at this
     unfold kJ;rw[this];rfl)
    go_wp2;go_ret;exact⟨by rw[a.out];rfl,_,rfl⟩
 ·go_loopw [7] (fun i wr=>∃ k:Nat,k<=n/\i = .int .i64 k/\Hid (within p (l.take k)=true)/\Hid ((l.take k).Nodup)/\Hid (∃ m,wr=w.drewN m)) (fun i _=>n - (intOf i).toNat)
  case atStart=>exact⟨0,by omega,rfl,fQ (by simp[within]),fQ (by simp),fQ ⟨0,rfl⟩⟩
  case round=>
   obtain⟨k,M,rfl,o,J,IM⟩:=hrel;obtain⟨m,rfl⟩:=IM.out;clear IM;by_cases t:k<n
   ·have z:decide ((k:Int)<n)=true:=(by simp;omega);have N:(k:Int)<n:=(by omega);obtain⟨x,d⟩:∃ x,l[k]? = some x:=⟨_,Aj (by rw[f.out];exact t)⟩;obtain⟨O,P,rfl,hab,hcl⟩:=q.out.cell d;have b:=fQ d;clear d;by_cases e:x<0
    ·have B:decide (x<0)=true:=(by simp;omega);have a:=fQ (show kJ p l true=false by unfold kJ;rw[aJy (Ax b.out) (by omega)];rfl);clear e;go_wp2;go_ret;exact⟨by rw[a.out];rfl,_,rfl⟩
    ·have B:decide (x<0)=false:=(by simp;omega);by_cases h1:x<p
     ·have C:decide (p<=x)=false:=(by simp;omega);have a:=fQ (bQi b.out o.out (by omega) h1);clear e h1;go_wp2_with fail;go_loopw [8] (fun i wr=>∃ j:Nat,j<=k/\i = .int .i64 j/\Hid (x ∉ l.take j)/\Hid (∃ m,wr=w.drewN m)) (fun i _=>k - (intOf i).toNat)
      case atStart=>exact⟨0,by omega,rfl,fQ (by simp),fQ ⟨_,rfl⟩⟩
      case round=>
       obtain⟨j,hj,rfl,s,IM⟩:=hrel;obtain⟨m2,rfl⟩:=IM.out;clear IM;by_cases G:j<k
       ·have E:decide (j<k)=true:=decide_eq_true G;have F:decide ((j:Int)<(k:Int))=true:=(by simp;omega);have r:(j:Int)<n:=(by omega);obtain⟨y,H⟩:∃ y,l[j]? = some y:=⟨_,Aj (by rw[f.out];omega)⟩;obtain⟨an,aq,I,aj,ak⟩:=q.out.cell H;injection I with I;injection I with Q e2;subst Q;subst e2;have K:=fQ H;clear H;by_cases g:y=x
        ·have R:(y == x)=true:=(by simp[g]);have S:=fQ (show kJ p l true=false by unfold kJ;rw[dVp (g ▸ K.out) b.out G];simp);clear g;go_wp2_with fail;go_quiet (fail);go_wp2;go_ret;exact⟨by rw[S.out];rfl,_,cXt _ _ _⟩
        ·have R:(y == x)=false:=by simp[g]
         have T:=fQ (show x ∉ l.take (j+1) by
          rw[oQ K.out];rintro(h | h)
          ·exact s.out h
          ·exact g h.symm)
         clear g s;go_wp2_with fail;go_quiet (fail);go_wp2;exact⟨⟨j+1,by omega,by simp,T,fQ ⟨_,rfl⟩⟩,by simp[intOf];omega⟩
       ·have E:decide (j<k)=false:=decide_eq_false G;have F:decide ((j:Int)<(k:Int))=false:=(by simp;omega);have r:j=k:=(by omega);subst r;have U:=fQ (cKk b.out J.out s.out);clear s;go_wp2;exact⟨⟨j+1,by omega,by simp,a,U,fQ ⟨_,rfl⟩⟩,by simp[intOf];omega⟩
     ·have C:decide (p<=x)=true:=(by simp;omega);have a:=fQ (show kJ p l true=false by unfold kJ;rw[aJy (Ax b.out) (by omega)];rfl);clear e h1;go_wp2;go_ret;exact⟨by rw[a.out];rfl,_,rfl⟩
   ·have z:decide ((k:Int)<n)=false:=by simp;omega
    have a:=fQ (show kJ p l true=true by
     have:=o.out;rw[Ay (by rw[f.out];omega)]at this;have h2:=J.out;rw[Ay (by rw[f.out];omega)]at h2
     unfold kJ;rw[this,decide_eq_true h2];rfl)
    go_wp2;go_ret;exact⟨by rw[a.out];rfl,_,rfl⟩
theorem dVq(op:Int)(w:AW):Ab fZ 41 #[.int .i64 op] w fun e w'=>e = .returned (.bool (decide (273<=op/\op<=277)))/\w=w':=by
 by_cases h1:273<=op
 ·by_cases h2:op<=277
  ·have a:=fQ (show decide (273<=op/\op<=277)=true from decide_eq_true ⟨h1,h2⟩);have b:decide (273<=op)=true:=decide_eq_true h1;have c:decide (op<=277)=true:=decide_eq_true h2;clear h1 h2;go_in;go_wp2;go_ret;exact⟨by rw[a.out];rfl,rfl⟩
  ·have a:=fQ (show decide (273<=op/\op<=277)=false from decide_eq_false (fun h=>h2 h.2));have b:decide (273<=op)=true:=decide_eq_true h1;have c:decide (op<=277)=false:=decide_eq_false h2;clear h1 h2;go_in;go_wp2;go_ret;exact⟨by rw[a.out];rfl,rfl⟩
 ·have a:=fQ (show decide (273<=op/\op<=277)=false from decide_eq_false (fun h=>h1 h.1));have b:decide (273<=op)=false:=decide_eq_false h1;clear h1;go_in;go_wp2;go_ret;exact⟨by rw[a.out];rfl,rfl⟩
def FmP(F:Option (List Int×List Int))(w:AW)(b:Ad)(w':AW):Prop:=
 ∃ (a vo:AY) (ok:Bool) (i o:List Int),b = .returned (.tuple #[a,vo,.bool ok])/\IR w' a i/\IR w' vo o/\(F=none->ok=false)/\(∀ x,F=some x->ok=true/\x=(i,o))/\Aa w.heap.size w w'
theorem FmP.no{F:Option (List Int×List Int)}{a vo:AY}{i o:List Int}(hF:F=none)(h1:IR w' a i)(h2:IR w' vo o)(b:Aa w.heap.size w w'):FmP F w (.returned (.tuple #[a,vo,.bool false])) w':=
 ⟨a,vo,false,i,o,rfl,h1,h2,fun _=>rfl,(fun x h=>by rw[hF]at h;cases h),b⟩
theorem FmP.yes{F:Option (List Int×List Int)}{a vo:AY}{i o:List Int}(hF:F=some (i,o))(h1:IR w' a i)(h2:IR w' vo o)(b:Aa w.heap.size w w'):FmP F w (.returned (.tuple #[a,vo,.bool true])) w':=
 ⟨a,vo,true,i,o,rfl,h1,h2,(fun h=>by rw[hF]at h;cases h),(fun x h=>by rw[hF]at h;injection h with h;exact⟨rfl,h.symm⟩),b⟩
theorem aJh(h:n=0):((n:Int) == 0)=true:=by simp[h]
theorem aJi(h:n≠0):((n:Int) == 0)=false:=by simp[h]
theorem eYu(h:n<=8589934592):decide ((n:Int)<=8589934592)=true:=decide_eq_true (by omega)
theorem eYv(h:¬n<=8589934592):decide ((n:Int)<=8589934592)=false:=decide_eq_false (by omega)
theorem eKa(h:n<=4294967295):decide ((n:Int)<4294967296)=true:=decide_eq_true (by omega)
theorem eKb(h:¬n<=4294967295):decide ((n:Int)<4294967296)=false:=decide_eq_false (by omega)
theorem IR.fXn{A:Option Addr}{c:Nat}(h:w.ownsRow base t 1 (.slice A l.length c) l.length (i64s l)):IR w (.slice A l.length c) l:=⟨A,c,rfl,Src.fQj h⟩
theorem cKm(e:EnvD)(s:SigD)(l:AY)(op:Int)(n:Nat)(hn:n<18446744073709551616)(w:AW)(he:EnvV w l e)(m:op=258)(hg:(fY op).isSome=false)(o:acc op=none):
  Ab fZ 96 #[l,.agg #[.int .i64 op,.int .u64 (n:Int),.slice none 0 0,.slice none 0 0],.int .i64 0] w (FmP (if n=0 then some ([],[])else none) w):=by
 obtain⟨va,vb,vd,rfl,h1,h2,p⟩:=he;obtain⟨d,cs,rfl,_⟩:=h1.len;obtain⟨f,cg,rfl⟩:=h2.shape;have H1:=fQ h1;have H2:=fQ h2;have H3:=fQ p;obtain⟨g,h,rfl,_⟩:=p;have B0:=fQ (al2 w (.cells #[.slice d e.sigs.length cs,.int .i64 e.imports,.slice f e.globals.length cg,.slice g e.muts.length h,.bool e.mem] 26) (.cells #[.int .i64 op,.int .u64 (n:Int),.slice none 0 0,.slice none 0 0] 147));have q:=fQ ((Blk.new w 26 #[.slice d e.sigs.length cs,.int .i64 e.imports,.slice f e.globals.length cg,.slice g e.muts.length h,.bool e.mem]).alloc (.cells #[.int .i64 op,.int .u64 (n:Int),.slice none 0 0,.slice none 0 0] 147));have r:=fQ (Blk.newAt (w.alloc (.cells #[.slice d e.sigs.length cs,.int .i64 e.imports,.slice f e.globals.length cg,.slice g e.muts.length h,.bool e.mem] 26)) (N:=w.heap.size+1) 147 #[.int .i64 op,.int .u64 (n:Int),.slice none 0 0,.slice none 0 0] (by simp));clear h1 h2;have x:=fQ (show(fY op).isSome=false from hg);have y:=fQ (show fJ op = .tuple #[.int .i64 0,.int .i64 0,.bool false,.bool false] by unfold fJ;rw[o]);have ah:(op == 256)=false:=(by simp;omega);have ai:(op == 258)=true:=(by simp[m]);have ak:(op == 27)=false:=(by simp;omega);have al:(op == 35)=false:=(by simp;omega);have an:(op == 36)=false:=(by simp;omega);have g16:(op == 16)=false:=(by simp;omega);have aj:(op == 257)=false:=(by simp;omega);have ao:(op == 63)=false:=(by simp;omega);have g64:(op == 64)=false:=(by simp;omega);clear hg o m;obtain⟨FF,i⟩:∃ F:Option (List Int×List Int),(if n=0 then some ([],[])else none)=F:=⟨_,rfl⟩;rw[i];have t:=fQ i;clear i;go_in;go_wp2_with fail;refine(jW op _).mono ?_;rintro z w1 ⟨A1,c1,rfl,u,c⟩;rw[x.out];have v:=fQ (B0.out.trans (c.mono B0.out.size));have b:=fQ (q.out.below c q.out.lt);have j:=fQ (r.out.below c r.out.lt);have HR:=fQ u;clear c u;have f0:=j.out.cell 0;have f1:=j.out.cell 1;simp at f0 f1;have y1:=j.out.lt;have e0:=b.out.cell 0;have e2:=b.out.cell 2;have A:=b.out.cell 3;have B:=b.out.cell 4;simp at e0 e2 A B;have y2:=b.out.lt;go_wp2_with fail;refine(gZ op _).mono ?_;rintro z w2 ⟨rfl,rfl⟩;rw[y.out];by_cases a:n=0
 ·have C:=aJh a;have k:=fQ (t.out.symm.trans (if_pos a));clear a;go_wp2_with fail;go_quiet (fail)
  all_goals
   go_wp2;go_ret3;exact FmP.yes k.out (IR.nil _) (IR.nil _) (fK v.out _)
 ·have C:=aJi a;have k:=fQ (t.out.symm.trans (if_neg a));clear a;go_wp2_with fail;go_quiet (fail)
  all_goals
   go_wp2;go_ret3;exact FmP.no k.out (IR.nil _) (IR.nil _) (fK v.out _)
theorem dQy(e:EnvD)(s:SigD)(m:AY)(op:Int)(n:Nat)(hn:n<18446744073709551616)(w:AW)(he:EnvV w m e)(o:op≠256)(p:op≠258)(hg:(fY op).isSome=true)(q:acc op=none):
  Ab fZ 96 #[m,.agg #[.int .i64 op,.int .u64 (n:Int),.slice none 0 0,.slice none 0 0],.int .i64 0] w (FmP (if n=0 then some (gJ op,[kW op])else none) w):=by
 obtain⟨va,vb,vd,rfl,h1,h2,r⟩:=he;obtain⟨f,cs,rfl,_⟩:=h1.len;obtain⟨g,cg,rfl⟩:=h2.shape;have H1:=fQ h1;have H2:=fQ h2;have H3:=fQ r;obtain⟨h,i,rfl,_⟩:=r;have B0:=fQ (al2 w (.cells #[.slice f e.sigs.length cs,.int .i64 e.imports,.slice g e.globals.length cg,.slice h e.muts.length i,.bool e.mem] 26) (.cells #[.int .i64 op,.int .u64 (n:Int),.slice none 0 0,.slice none 0 0] 147));have t:=fQ ((Blk.new w 26 #[.slice f e.sigs.length cs,.int .i64 e.imports,.slice g e.globals.length cg,.slice h e.muts.length i,.bool e.mem]).alloc (.cells #[.int .i64 op,.int .u64 (n:Int),.slice none 0 0,.slice none 0 0] 147));have u:=fQ (Blk.newAt (w.alloc (.cells #[.slice f e.sigs.length cs,.int .i64 e.imports,.slice g e.globals.length cg,.slice h e.muts.length i,.bool e.mem] 26)) (N:=w.heap.size+1) 147 #[.int .i64 op,.int .u64 (n:Int),.slice none 0 0,.slice none 0 0] (by simp));clear h1 h2;have z:=fQ (show(fY op).isSome=true from hg);have A:=fQ (show fJ op = .tuple #[.int .i64 0,.int .i64 0,.bool false,.bool false] by unfold fJ;rw[q]);have aj:(op == 256)=false:=(by simp[o]);have ak:(op == 258)=false:=(by simp[p]);clear hg q o p;obtain⟨FF,j⟩:∃ F:Option (List Int×List Int),(if n=0 then some (gJ op,[kW op])else none)=F:=⟨_,rfl⟩;rw[j];have v:=fQ j;clear j;go_in;go_wp2_with fail;refine(jW op _).mono ?_;rintro B w1 ⟨A1,c1,rfl,x,c⟩;rw[z.out];have d:=fQ (B0.out.trans (c.mono B0.out.size));have b:=fQ (t.out.below c t.out.lt);have k:=fQ (u.out.below c u.out.lt);have y:=fQ x;clear c x;have f0:=k.out.cell 0;have f1:=k.out.cell 1;simp at f0 f1;have y1:=k.out.lt;have e0:=b.out.cell 0;have e2:=b.out.cell 2;have C:=b.out.cell 3;have D:=b.out.cell 4;simp at e0 e2 C D;have y2:=b.out.lt;go_wp2_with fail;refine(gZ op _).mono ?_;rintro B w2 ⟨rfl,rfl⟩;rw[A.out];by_cases a:n=0
 ·have E:=aJh a;have l:=fQ (v.out.symm.trans (if_pos a));clear a;go_wp2_with fail;go_region
  all_goals
   go_wp2;go_ret3;exact FmP.yes l.out (((IR.fXn y.out).alloc _).drew) ((IR.one (Blk.new _ _ _)).drew) ((d.out.alloc d.out.size _).drew)
 ·have E:=aJi a;have l:=fQ (v.out.symm.trans (if_neg a));clear a;go_wp2_with fail;go_region
  all_goals
   go_wp2;go_ret3;exact FmP.no l.out (((IR.fXn y.out).alloc _).drew) ((IR.one (Blk.new _ _ _)).drew) ((d.out.alloc d.out.size _).drew)
theorem dVs(e:EnvD)(s:SigD)(q:AY)(op:Int)(n:Nat)(hn:n<18446744073709551616)(w:AW)(he:EnvV w q e)(r:op=35)(hg:(fY op).isSome=false)(t:acc op=none)(u:e.muts.length=e.globals.length):
  Ab fZ 96 #[q,.agg #[.int .i64 op,.int .u64 (n:Int),.slice none 0 0,.slice none 0 0],.int .i64 0] w (FmP ((e.globals[n]?).map fun g=>([],[g])) w):=by
 obtain⟨va,vb,vd,rfl,h1,h2,v⟩:=he;obtain⟨d,cs,rfl,_⟩:=h1.len;obtain⟨f,cg,rfl⟩:=h2.shape;have H1:=fQ h1;have y:=fQ h2;have H3:=fQ v;obtain⟨h,i,rfl,_⟩:=v;have B0:=fQ (al2 w (.cells #[.slice d e.sigs.length cs,.int .i64 e.imports,.slice f e.globals.length cg,.slice h e.muts.length i,.bool e.mem] 26) (.cells #[.int .i64 op,.int .u64 (n:Int),.slice none 0 0,.slice none 0 0] 147));have z:=fQ ((Blk.new w 26 #[.slice d e.sigs.length cs,.int .i64 e.imports,.slice f e.globals.length cg,.slice h e.muts.length i,.bool e.mem]).alloc (.cells #[.int .i64 op,.int .u64 (n:Int),.slice none 0 0,.slice none 0 0] 147));have A:=fQ (Blk.newAt (w.alloc (.cells #[.slice d e.sigs.length cs,.int .i64 e.imports,.slice f e.globals.length cg,.slice h e.muts.length i,.bool e.mem] 26)) (N:=w.heap.size+1) 147 #[.int .i64 op,.int .u64 (n:Int),.slice none 0 0,.slice none 0 0] (by simp));clear h1 h2;have I:=fQ (show(fY op).isSome=false from hg);have J:=fQ (show fJ op = .tuple #[.int .i64 0,.int .i64 0,.bool false,.bool false] by unfold fJ;rw[t]);have ao:=fQ u;have aj:(op == 256)=false:=(by simp;omega);have ak:(op == 258)=false:=(by simp;omega);have aq:(op == 27)=false:=(by simp;omega);have ar:(op == 35)=true:=(by simp[r]);have au:(op == 36)=false:=(by simp;omega);have g16:(op == 16)=false:=(by simp;omega);have al:(op == 257)=false:=(by simp;omega);have av:(op == 63)=false:=(by simp;omega);have g64:(op == 64)=false:=(by simp;omega);clear hg t r u;obtain⟨B,j⟩:∃ F:Option (List Int×List Int),((e.globals[n]?).map fun g=>([],[g]))=F:=⟨_,rfl⟩;rw[j];have C:=fQ j;clear j;go_in;go_wp2_with fail;refine(jW op _).mono ?_;rintro K w1 ⟨A1,c1,rfl,D,c⟩;rw[I.out];have a:=fQ (B0.out.trans (c.mono B0.out.size));have b:=fQ (z.out.below c z.out.lt);have k:=fQ (A.out.below c A.out.lt);have HR:=fQ D;clear c D;have f0:=k.out.cell 0;have f1:=k.out.cell 1;simp at f0 f1;have y1:=k.out.lt;have e0:=b.out.cell 0;have e2:=b.out.cell 2;have L:=b.out.cell 3;have M:=b.out.cell 4;simp at e0 e2 L M;have y2:=b.out.lt;go_wp2_with fail;refine(gZ op _).mono ?_;rintro K w2 ⟨rfl,rfl⟩;rw[J.out];have hl:=y.out.fQb;by_cases l:n<e.globals.length
 ·obtain⟨x,m⟩:∃ x,e.globals[n]? = some x:=⟨_,Aj l⟩;have O:decide ((e.globals.length:Int)<=(n:Int))=false:=(by simp;omega);have E:¬e.globals.length<=n:=(by omega);have t3:(n:Int)<(e.globals.length:Int):=(by omega);obtain⟨G,go,rfl,P,H⟩:=y.out.ir.cell m;have d0:=(a.out.cell (p:=⟨G,_,none⟩) P).trans H;have aw:G<w1.heap.size:=(by have:=a.out.size;omega);have o:=fQ (show B=some ([],[x]) by rw[<-C.out,m];rfl);clear m H l;go_wp2;go_ret3;exact FmP.yes o.out (IR.nil _) (IR.one (Blk.new _ _ _)) (a.out.alloc a.out.size _)
 ·have O:decide ((e.globals.length:Int)<=(n:Int))=true:=(by simp;omega);have E:e.globals.length<=n:=(by omega);have o:=fQ (show B=none by rw[<-C.out,Av E];try rfl);clear l;go_wp2;go_ret3;exact FmP.no o.out (IR.nil _) (IR.nil _) a.out
theorem dVt(e:EnvD)(s:SigD)(u:AY)(op:Int)(n:Nat)(hn:n<18446744073709551616)(w:AW)(he:EnvV w u e)(v:op=36)(hg:(fY op).isSome=false)(z:acc op=none)(A:e.muts.length=e.globals.length):
  Ab fZ 96 #[u,.agg #[.int .i64 op,.int .u64 (n:Int),.slice none 0 0,.slice none 0 0],.int .i64 0] w (FmP (match e.globals[n]?,e.muts[n]? with | some g,some true=>some ([g],[]) | _,_=>none) w):=by
 obtain⟨va,vb,vd,rfl,h1,h2,B⟩:=he;obtain⟨h,cs,rfl,_⟩:=h1.len;obtain⟨i,cg,rfl⟩:=h2.shape;have H1:=fQ h1;have C:=fQ h2;have P:=fQ B;obtain⟨j,k,rfl,_⟩:=B;have B0:=fQ (al2 w (.cells #[.slice h e.sigs.length cs,.int .i64 e.imports,.slice i e.globals.length cg,.slice j e.muts.length k,.bool e.mem] 26) (.cells #[.int .i64 op,.int .u64 (n:Int),.slice none 0 0,.slice none 0 0] 147));have D:=fQ ((Blk.new w 26 #[.slice h e.sigs.length cs,.int .i64 e.imports,.slice i e.globals.length cg,.slice j e.muts.length k,.bool e.mem]).alloc (.cells #[.int .i64 op,.int .u64 (n:Int),.slice none 0 0,.slice none 0 0] 147));have E:=fQ (Blk.newAt (w.alloc (.cells #[.slice h e.sigs.length cs,.int .i64 e.imports,.slice i e.globals.length cg,.slice j e.muts.length k,.bool e.mem] 26)) (N:=w.heap.size+1) 147 #[.int .i64 op,.int .u64 (n:Int),.slice none 0 0,.slice none 0 0] (by simp));clear h1 h2;have Q:=fQ (show(fY op).isSome=false from hg);have R:=fQ (show fJ op = .tuple #[.int .i64 0,.int .i64 0,.bool false,.bool false] by unfold fJ;rw[z]);have G:=fQ A;have an:(op == 256)=false:=(by simp;omega);have ao:(op == 258)=false:=(by simp;omega);have aw:(op == 27)=false:=(by simp;omega);have ax:(op == 35)=false:=(by simp;omega);have ay:(op == 36)=true:=(by simp[v]);have g16:(op == 16)=false:=(by simp;omega);have aq:(op == 257)=false:=(by simp;omega);have az:(op == 63)=false:=(by simp;omega);have g64:(op == 64)=false:=(by simp;omega);clear hg z v A;obtain⟨H,l⟩:∃ F:Option (List Int×List Int),(match e.globals[n]?,e.muts[n]? with | some g,some true=>some ([g],[]) | _,_=>none)=F:=⟨_,rfl⟩;rw[l];have I:=fQ l;clear l;go_in;go_wp2_with fail;refine(jW op _).mono ?_;rintro S w1 ⟨A1,c1,rfl,J,d⟩;rw[Q.out];have a:=fQ (B0.out.trans (d.mono B0.out.size));have b:=fQ (D.out.below d D.out.lt);have m:=fQ (E.out.below d E.out.lt);have HR:=fQ J;clear d J;have f0:=m.out.cell 0;have f1:=m.out.cell 1;simp at f0 f1;have y1:=m.out.lt;have e0:=b.out.cell 0;have e2:=b.out.cell 2;have o:=b.out.cell 3;have T:=b.out.cell 4;simp at e0 e2 o T;have y2:=b.out.lt;go_wp2_with fail;refine(gZ op _).mono ?_;rintro S w2 ⟨rfl,rfl⟩;rw[R.out];have hl:=C.out.fQb;by_cases c:n<e.globals.length
 ·obtain⟨x,q⟩:∃ x,e.globals[n]? = some x:=⟨_,Aj c⟩;have U:decide ((e.globals.length:Int)<=(n:Int))=false:=(by simp;omega);have K:¬e.globals.length<=n:=(by omega);have t3:(n:Int)<(e.globals.length:Int):=(by omega);obtain⟨L,go,rfl,V,M⟩:=C.out.ir.cell q;have d0:=(a.out.cell (p:=⟨L,_,none⟩) V).trans M;have aA:L<w1.heap.size:=(by have:=a.out.size;omega);obtain⟨y,r⟩:∃ y,e.muts[n]? = some y:=⟨_,Aj (by rw[G.out];exact c)⟩;obtain⟨aB,aC,e',t,_⟩:=P.out;injection e' with W _ o;subst W;subst o;have O:n<e.muts.length:=(by rw[G.out];exact c);have au:(n:Int)<(e.muts.length:Int):=(by omega);obtain⟨mb,mo,rfl,X⟩:=t.addr (by omega);have c1:=t.at_ O;rw[bKa O,(List.getElem?_eq_some_iff.1 r).2]at c1;have d1:=(a.out.cell (p:=⟨mb,_,none⟩) X).trans c1;have aD:mb<w1.heap.size:=(by have:=a.out.size;omega);have f:=fQ (show H=if y=true then some ([x],[])else none by rw[<-I.out,q,r];cases y <;> rfl);clear q r M c1 t c;go_wp2_with fail;go_region
  all_goals
   go_wp2;go_ret3
   cases y with
   | true=>exact FmP.yes (f.out.trans (if_pos rfl)) (IR.one (Blk.new _ _ _)).drew (IR.nil _) (a.out.alloc a.out.size _).drew
   | false=>exact FmP.no (f.out.trans (if_neg (by simp))) (IR.one (Blk.new _ _ _)).drew (IR.nil _) (a.out.alloc a.out.size _).drew
 ·have U:decide ((e.globals.length:Int)<=(n:Int))=true:=(by simp;omega);have K:e.globals.length<=n:=(by omega);have f:=fQ (show H=none by rw[<-I.out,Av K];try rfl);clear c;go_wp2;go_ret3;exact FmP.no f.out (IR.nil _) (IR.nil _) a.out
theorem dVu(e:EnvD)(s:SigD)(t:AY)(op:Int)(n:Nat)(hn:n<18446744073709551616)(w:AW)(he:EnvV w t e)(u:op=16)(hg:(fY op).isSome=false)(v:acc op=none):
  Ab fZ 96 #[t,.agg #[.int .i64 op,.int .u64 (n:Int),.slice none 0 0,.slice none 0 0],.int .i64 0] w (FmP ((e.sigs[n]?).map fun g=>(g.inn,g.out)) w):=by
 obtain⟨va,vb,vd,rfl,h1,h2,y⟩:=he;obtain⟨d,cs,rfl,_⟩:=h1.len;obtain⟨f,cg,rfl⟩:=h2.shape;have H1:=fQ h1;have H2:=fQ h2;have H3:=fQ y;obtain⟨h,i,rfl,_⟩:=y;have B0:=fQ (al2 w (.cells #[.slice d e.sigs.length cs,.int .i64 e.imports,.slice f e.globals.length cg,.slice h e.muts.length i,.bool e.mem] 26) (.cells #[.int .i64 op,.int .u64 (n:Int),.slice none 0 0,.slice none 0 0] 147));have z:=fQ ((Blk.new w 26 #[.slice d e.sigs.length cs,.int .i64 e.imports,.slice f e.globals.length cg,.slice h e.muts.length i,.bool e.mem]).alloc (.cells #[.int .i64 op,.int .u64 (n:Int),.slice none 0 0,.slice none 0 0] 147));have A:=fQ (Blk.newAt (w.alloc (.cells #[.slice d e.sigs.length cs,.int .i64 e.imports,.slice f e.globals.length cg,.slice h e.muts.length i,.bool e.mem] 26)) (N:=w.heap.size+1) 147 #[.int .i64 op,.int .u64 (n:Int),.slice none 0 0,.slice none 0 0] (by simp));clear h1 h2;have I:=fQ (show(fY op).isSome=false from hg);have J:=fQ (show fJ op = .tuple #[.int .i64 0,.int .i64 0,.bool false,.bool false] by unfold fJ;rw[v]);have aj:(op == 256)=false:=(by simp;omega);have ak:(op == 258)=false:=(by simp;omega);have an:(op == 27)=false:=(by simp;omega);have ao:(op == 35)=false:=(by simp;omega);have aq:(op == 36)=false:=(by simp;omega);have g16:(op == 16)=true:=(by simp[u]);have al:(op == 257)=false:=(by simp;omega);have ar:(op == 63)=false:=(by simp;omega);have g64:(op == 64)=false:=(by simp;omega);clear hg v u;obtain⟨B,j⟩:∃ F:Option (List Int×List Int),((e.sigs[n]?).map fun g=>(g.inn,g.out))=F:=⟨_,rfl⟩;rw[j];have C:=fQ j;clear j;go_in;go_wp2_with fail;refine(jW op _).mono ?_;rintro K w1 ⟨A1,c1,rfl,D,c⟩;rw[I.out];have a:=fQ (B0.out.trans (c.mono B0.out.size));have b:=fQ (z.out.below c z.out.lt);have k:=fQ (A.out.below c A.out.lt);have HR:=fQ D;clear c D;have f0:=k.out.cell 0;have f1:=k.out.cell 1;simp at f0 f1;have y1:=k.out.lt;have e0:=b.out.cell 0;have e2:=b.out.cell 2;have L:=b.out.cell 3;have M:=b.out.cell 4;simp at e0 e2 L M;have y2:=b.out.lt;go_wp2_with fail;refine(gZ op _).mono ?_;rintro K w2 ⟨rfl,rfl⟩;rw[J.out];have hl:=H1.out.fQb;by_cases l:n<e.sigs.length
 ·obtain⟨x,m⟩:∃ x,e.sigs[n]? = some x:=⟨_,Aj l⟩;have O:decide ((e.sigs.length:Int)<=(n:Int))=false:=(by simp;omega);have E:¬e.sigs.length<=n:=(by omega);have t3:(n:Int)<(e.sigs.length:Int):=(by omega);obtain⟨o,go,p,q,rfl,G,H,c1,s0,s1⟩:=H1.out.sig m;obtain⟨pA,pc,rfl⟩:=s0.shape;obtain⟨qA,qc,rfl⟩:=s1.shape;have d0:=(a.out.cell (p:=⟨o,_,none⟩) G).trans H;have d1:=(a.out.cell (p:=⟨o,_,none⟩) G).trans c1;have au:o<w1.heap.size:=(by have:=a.out.size;omega);have r:=fQ (show B=some (x.inn,x.out) by rw[<-C.out,m];rfl);have P:=fQ s0.ir;have Q:=fQ s1.ir;clear m H c1 s0 s1 l;go_wp2_with fail;go_quiet (fail);go_wp2;go_ret3;exact FmP.yes r.out ((P.out.below a.out (Az _)).drewN _) ((Q.out.below a.out (Az _)).drewN _) (fK a.out _)
 ·have O:decide ((e.sigs.length:Int)<=(n:Int))=true:=(by simp;omega);have E:e.sigs.length<=n:=(by omega);have r:=fQ (show B=none by rw[<-C.out,Av E];try rfl);clear l;go_wp2;go_ret3;exact FmP.no r.out (IR.nil _) (IR.nil _) a.out
theorem bVt(e:EnvD)(s:SigD)(l:AY)(op:Int)(n:Nat)(hn:n<18446744073709551616)(w:AW)(he:EnvV w l e)(m:op≠256)(o:op≠258)(p:op≠27)(q:op≠35)(r:op≠36)(t:op≠16)(hg:(fY op).isSome=false)(u:e.mem=false)(v:acc op=none):
  Ab fZ 96 #[l,.agg #[.int .i64 op,.int .u64 (n:Int),.slice none 0 0,.slice none 0 0],.int .i64 0] w (FmP (none) w):=by
 obtain⟨va,vb,vd,rfl,h1,h2,x⟩:=he;obtain⟨c,cs,rfl,_⟩:=h1.len;obtain⟨d,cg,rfl⟩:=h2.shape;have H1:=fQ h1;have H2:=fQ h2;have H3:=fQ x;obtain⟨f,g,rfl,_⟩:=x;have B0:=fQ (al2 w (.cells #[.slice c e.sigs.length cs,.int .i64 e.imports,.slice d e.globals.length cg,.slice f e.muts.length g,.bool e.mem] 26) (.cells #[.int .i64 op,.int .u64 (n:Int),.slice none 0 0,.slice none 0 0] 147));have h:=fQ ((Blk.new w 26 #[.slice c e.sigs.length cs,.int .i64 e.imports,.slice d e.globals.length cg,.slice f e.muts.length g,.bool e.mem]).alloc (.cells #[.int .i64 op,.int .u64 (n:Int),.slice none 0 0,.slice none 0 0] 147));have i:=fQ (Blk.newAt (w.alloc (.cells #[.slice c e.sigs.length cs,.int .i64 e.imports,.slice d e.globals.length cg,.slice f e.muts.length g,.bool e.mem] 26)) (N:=w.heap.size+1) 147 #[.int .i64 op,.int .u64 (n:Int),.slice none 0 0,.slice none 0 0] (by simp));clear h1 h2;have z:=fQ (show(fY op).isSome=false from hg);have A:=fQ (show fJ op = .tuple #[.int .i64 0,.int .i64 0,.bool false,.bool false] by unfold fJ;rw[v]);have ao:(op == 256)=false:=(by simp[m]);have aq:(op == 258)=false:=(by simp[o]);have au:(op == 27)=false:=(by simp[p]);have av:(op == 35)=false:=(by simp[q]);have aw:(op == 36)=false:=(by simp[r]);have g16:(op == 16)=false:=(by simp[t]);rw[u]at B0 h i ⊢;clear u;clear hg v m o p q r t;obtain⟨FF,j⟩:∃ F:Option (List Int×List Int),(none)=F:=⟨_,rfl⟩;rw[j];have B:=fQ j;clear j;go_in;go_wp2_with fail;refine(jW op _).mono ?_;rintro C w1 ⟨A1,c1,rfl,y,b⟩;rw[z.out];have D:=fQ (B0.out.trans (b.mono B0.out.size));have a:=fQ (h.out.below b h.out.lt);have k:=fQ (i.out.below b i.out.lt);have HR:=fQ y;clear b y;have f0:=k.out.cell 0;have f1:=k.out.cell 1;simp at f0 f1;have y1:=k.out.lt;have e0:=a.out.cell 0;have e2:=a.out.cell 2;have E:=a.out.cell 3;have G:=a.out.cell 4;simp at e0 e2 E G;have y2:=a.out.lt;go_wp2_with fail;refine(gZ op _).mono ?_;rintro C w2 ⟨rfl,rfl⟩;rw[A.out];go_wp2;go_ret3;exact FmP.no B.out.symm (IR.nil _) (IR.nil _) D.out
theorem bVu(e:EnvD)(s:SigD)(m:AY)(op:Int)(n:Nat)(hn:n<18446744073709551616)(w:AW)(he:EnvV w m e)(o:op≠256)(p:op≠258)(q:op≠27)(r:op≠35)(t:op≠36)(u:op≠16)(hg:(fY op).isSome=false)(v:e.mem=false)(k wd:Int)(st A:Bool)(x:acc op=some (k,wd,st,A)):
  Ab fZ 96 #[m,.agg #[.int .i64 op,.int .u64 (n:Int),.slice none 0 0,.slice none 0 0],.int .i64 0] w (FmP (none) w):=by
 obtain⟨va,vb,vd,rfl,h1,h2,y⟩:=he;obtain⟨c,cs,rfl,_⟩:=h1.len;obtain⟨d,cg,rfl⟩:=h2.shape;have H1:=fQ h1;have H2:=fQ h2;have H3:=fQ y;obtain⟨f,g,rfl,_⟩:=y;have B0:=fQ (al2 w (.cells #[.slice c e.sigs.length cs,.int .i64 e.imports,.slice d e.globals.length cg,.slice f e.muts.length g,.bool e.mem] 26) (.cells #[.int .i64 op,.int .u64 (n:Int),.slice none 0 0,.slice none 0 0] 147));have h:=fQ ((Blk.new w 26 #[.slice c e.sigs.length cs,.int .i64 e.imports,.slice d e.globals.length cg,.slice f e.muts.length g,.bool e.mem]).alloc (.cells #[.int .i64 op,.int .u64 (n:Int),.slice none 0 0,.slice none 0 0] 147));have i:=fQ (Blk.newAt (w.alloc (.cells #[.slice c e.sigs.length cs,.int .i64 e.imports,.slice d e.globals.length cg,.slice f e.muts.length g,.bool e.mem] 26)) (N:=w.heap.size+1) 147 #[.int .i64 op,.int .u64 (n:Int),.slice none 0 0,.slice none 0 0] (by simp));clear h1 h2;have B:=fQ (show(fY op).isSome=false from hg);have C:=fQ (show fJ op = .tuple #[.int .i64 k,.int .i64 wd,.bool st,.bool true] by unfold fJ;rw[x]);have ao:(op == 256)=false:=(by simp[o]);have aq:(op == 258)=false:=(by simp[p]);have au:(op == 27)=false:=(by simp[q]);have av:(op == 35)=false:=(by simp[r]);have aw:(op == 36)=false:=(by simp[t]);have g16:(op == 16)=false:=(by simp[u]);rw[v]at B0 h i ⊢;clear v;clear hg x o p q r t u;obtain⟨FF,j⟩:∃ F:Option (List Int×List Int),(none)=F:=⟨_,rfl⟩;rw[j];have D:=fQ j;clear j;go_in;go_wp2_with fail;refine(jW op _).mono ?_;rintro E w1 ⟨A1,c1,rfl,z,b⟩;rw[B.out];have G:=fQ (B0.out.trans (b.mono B0.out.size));have a:=fQ (h.out.below b h.out.lt);have l:=fQ (i.out.below b i.out.lt);have HR:=fQ z;clear b z;have f0:=l.out.cell 0;have f1:=l.out.cell 1;simp at f0 f1;have y1:=l.out.lt;have e0:=a.out.cell 0;have e2:=a.out.cell 2;have H:=a.out.cell 3;have I:=a.out.cell 4;simp at e0 e2 H I;have y2:=a.out.lt;go_wp2_with fail;refine(gZ op _).mono ?_;rintro E w2 ⟨rfl,rfl⟩;rw[C.out];go_wp2;go_ret3;exact FmP.no D.out.symm (IR.nil _) (IR.nil _) G.out
theorem dQz(e:EnvD)(s:SigD)(p:AY)(op:Int)(n:Nat)(hn:n<18446744073709551616)(w:AW)(he:EnvV w p e)(q:op=257)(hg:(fY op).isSome=false)(r:e.mem=true)(t:acc op=none):
  Ab fZ 96 #[p,.agg #[.int .i64 op,.int .u64 (n:Int),.slice none 0 0,.slice none 0 0],.int .i64 0] w (FmP (if n<=8589934592 then some ([127],[])else none) w):=by
 obtain⟨va,vb,vd,rfl,h1,h2,u⟩:=he;obtain⟨f,cs,rfl,_⟩:=h1.len;obtain⟨g,cg,rfl⟩:=h2.shape;have H1:=fQ h1;have H2:=fQ h2;have H3:=fQ u;obtain⟨h,i,rfl,_⟩:=u;have B0:=fQ (al2 w (.cells #[.slice f e.sigs.length cs,.int .i64 e.imports,.slice g e.globals.length cg,.slice h e.muts.length i,.bool e.mem] 26) (.cells #[.int .i64 op,.int .u64 (n:Int),.slice none 0 0,.slice none 0 0] 147));have j:=fQ ((Blk.new w 26 #[.slice f e.sigs.length cs,.int .i64 e.imports,.slice g e.globals.length cg,.slice h e.muts.length i,.bool e.mem]).alloc (.cells #[.int .i64 op,.int .u64 (n:Int),.slice none 0 0,.slice none 0 0] 147));have k:=fQ (Blk.newAt (w.alloc (.cells #[.slice f e.sigs.length cs,.int .i64 e.imports,.slice g e.globals.length cg,.slice h e.muts.length i,.bool e.mem] 26)) (N:=w.heap.size+1) 147 #[.int .i64 op,.int .u64 (n:Int),.slice none 0 0,.slice none 0 0] (by simp));clear h1 h2;have y:=fQ (show(fY op).isSome=false from hg);have z:=fQ (show fJ op = .tuple #[.int .i64 0,.int .i64 0,.bool false,.bool false] by unfold fJ;rw[t]);have ai:(op == 256)=false:=(by simp;omega);have aj:(op == 258)=false:=(by simp;omega);have al:(op == 27)=false:=(by simp;omega);have an:(op == 35)=false:=(by simp;omega);have ao:(op == 36)=false:=(by simp;omega);have g16:(op == 16)=false:=(by simp;omega);have ak:(op == 257)=true:=(by simp[q]);have aq:(op == 63)=false:=(by simp;omega);have g64:(op == 64)=false:=(by simp;omega);rw[r]at B0 j k ⊢;clear r;clear hg t q;obtain⟨FF,l⟩:∃ F:Option (List Int×List Int),(if n<=8589934592 then some ([127],[])else none)=F:=⟨_,rfl⟩;rw[l];have v:=fQ l;clear l;go_in;go_wp2_with fail;refine(jW op _).mono ?_;rintro A w1 ⟨A1,c1,rfl,x,c⟩;rw[y.out];have d:=fQ (B0.out.trans (c.mono B0.out.size));have b:=fQ (j.out.below c j.out.lt);have m:=fQ (k.out.below c k.out.lt);have HR:=fQ x;clear c x;have f0:=m.out.cell 0;have f1:=m.out.cell 1;simp at f0 f1;have y1:=m.out.lt;have e0:=b.out.cell 0;have e2:=b.out.cell 2;have B:=b.out.cell 3;have C:=b.out.cell 4;simp at e0 e2 B C;have y2:=b.out.lt;go_wp2_with fail;refine(gZ op _).mono ?_;rintro A w2 ⟨rfl,rfl⟩;rw[z.out];by_cases a:n<=8589934592
 ·have D:=eYu a;have o:=fQ (v.out.symm.trans (if_pos a));clear a;go_wp2_with fail;go_region
  all_goals
   go_wp2;go_ret3;exact FmP.yes o.out ((IR.one (Blk.new _ _ _)).drew) (IR.nil _) ((d.out.alloc d.out.size _).drew)
 ·have D:=eYv a;have o:=fQ (v.out.symm.trans (if_neg a));clear a;go_wp2_with fail;go_region
  all_goals
   go_wp2;go_ret3;exact FmP.no o.out ((IR.one (Blk.new _ _ _)).drew) (IR.nil _) ((d.out.alloc d.out.size _).drew)
theorem bJn(e:EnvD)(s:SigD)(q:AY)(op:Int)(n:Nat)(hn:n<18446744073709551616)(w:AW)(he:EnvV w q e)(r:op≠256)(t:op≠258)(u:op≠27)(v:op≠35)(x:op≠36)(y:op≠16)(z:op≠257)(hg:(fY op).isSome=false)(A:e.mem=true)(k wd:Int)(G:Bool)(B:acc op=some (k,wd,true,G)):
  Ab fZ 96 #[q,.agg #[.int .i64 op,.int .u64 (n:Int),.slice none 0 0,.slice none 0 0],.int .i64 0] w (FmP (if n<=4294967295 then some ([127,k],[])else none) w):=by
 obtain⟨va,vb,vd,rfl,h1,h2,C⟩:=he;obtain⟨f,cs,rfl,_⟩:=h1.len;obtain⟨g,cg,rfl⟩:=h2.shape;have H1:=fQ h1;have H2:=fQ h2;have H3:=fQ C;obtain⟨h,i,rfl,_⟩:=C;have B0:=fQ (al2 w (.cells #[.slice f e.sigs.length cs,.int .i64 e.imports,.slice g e.globals.length cg,.slice h e.muts.length i,.bool e.mem] 26) (.cells #[.int .i64 op,.int .u64 (n:Int),.slice none 0 0,.slice none 0 0] 147));have j:=fQ ((Blk.new w 26 #[.slice f e.sigs.length cs,.int .i64 e.imports,.slice g e.globals.length cg,.slice h e.muts.length i,.bool e.mem]).alloc (.cells #[.int .i64 op,.int .u64 (n:Int),.slice none 0 0,.slice none 0 0] 147));have l:=fQ (Blk.newAt (w.alloc (.cells #[.slice f e.sigs.length cs,.int .i64 e.imports,.slice g e.globals.length cg,.slice h e.muts.length i,.bool e.mem] 26)) (N:=w.heap.size+1) 147 #[.int .i64 op,.int .u64 (n:Int),.slice none 0 0,.slice none 0 0] (by simp));clear h1 h2;have H:=fQ (show(fY op).isSome=false from hg);have I:=fQ (show fJ op = .tuple #[.int .i64 k,.int .i64 wd,.bool true,.bool true] by unfold fJ;rw[B]);have ar:(op == 256)=false:=(by simp[r]);have au:(op == 258)=false:=(by simp[t]);have aw:(op == 27)=false:=(by simp[u]);have ax:(op == 35)=false:=(by simp[v]);have ay:(op == 36)=false:=(by simp[x]);have g16:(op == 16)=false:=(by simp[y]);have av:(op == 257)=false:=(by simp[z]);rw[A]at B0 j l ⊢;clear A;clear hg B r t u v x y z;obtain⟨FF,m⟩:∃ F:Option (List Int×List Int),(if n<=4294967295 then some ([127,k],[])else none)=F:=⟨_,rfl⟩;rw[m];have D:=fQ m;clear m;go_in;go_wp2_with fail;refine(jW op _).mono ?_;rintro J w1 ⟨A1,c1,rfl,E,c⟩;rw[H.out];have d:=fQ (B0.out.trans (c.mono B0.out.size));have b:=fQ (j.out.below c j.out.lt);have o:=fQ (l.out.below c l.out.lt);have HR:=fQ E;clear c E;have f0:=o.out.cell 0;have f1:=o.out.cell 1;simp at f0 f1;have y1:=o.out.lt;have e0:=b.out.cell 0;have e2:=b.out.cell 2;have K:=b.out.cell 3;have L:=b.out.cell 4;simp at e0 e2 K L;have y2:=b.out.lt;go_wp2_with fail;refine(gZ op _).mono ?_;rintro J w2 ⟨rfl,rfl⟩;rw[I.out];by_cases a:n<=4294967295
 ·have M:=eKa a;have p:=fQ (D.out.symm.trans (if_pos a));clear a;go_wp2_with fail;go_region
  all_goals
   go_wp2;go_ret3;exact FmP.yes p.out ((IR.two (Blk.new _ _ _)).drew) (IR.nil _) ((d.out.alloc d.out.size _).drew)
 ·have M:=eKb a;have p:=fQ (D.out.symm.trans (if_neg a));clear a;go_wp2_with fail;go_region
  all_goals
   go_wp2;go_ret3;exact FmP.no p.out ((IR.two (Blk.new _ _ _)).drew) (IR.nil _) ((d.out.alloc d.out.size _).drew)
theorem bZe(e:EnvD)(s:SigD)(q:AY)(op:Int)(n:Nat)(hn:n<18446744073709551616)(w:AW)(he:EnvV w q e)(r:op≠256)(t:op≠258)(u:op≠27)(v:op≠35)(x:op≠36)(y:op≠16)(z:op≠257)(hg:(fY op).isSome=false)(A:e.mem=true)(k wd:Int)(G:Bool)(B:acc op=some (k,wd,false,G)):
  Ab fZ 96 #[q,.agg #[.int .i64 op,.int .u64 (n:Int),.slice none 0 0,.slice none 0 0],.int .i64 0] w (FmP (if n<=4294967295 then some ([127],[k])else none) w):=by
 obtain⟨va,vb,vd,rfl,h1,h2,C⟩:=he;obtain⟨g,cs,rfl,_⟩:=h1.len;obtain⟨h,cg,rfl⟩:=h2.shape;have H1:=fQ h1;have H2:=fQ h2;have H3:=fQ C;obtain⟨i,j,rfl,_⟩:=C;have B0:=fQ (al2 w (.cells #[.slice g e.sigs.length cs,.int .i64 e.imports,.slice h e.globals.length cg,.slice i e.muts.length j,.bool e.mem] 26) (.cells #[.int .i64 op,.int .u64 (n:Int),.slice none 0 0,.slice none 0 0] 147));have l:=fQ ((Blk.new w 26 #[.slice g e.sigs.length cs,.int .i64 e.imports,.slice h e.globals.length cg,.slice i e.muts.length j,.bool e.mem]).alloc (.cells #[.int .i64 op,.int .u64 (n:Int),.slice none 0 0,.slice none 0 0] 147));have m:=fQ (Blk.newAt (w.alloc (.cells #[.slice g e.sigs.length cs,.int .i64 e.imports,.slice h e.globals.length cg,.slice i e.muts.length j,.bool e.mem] 26)) (N:=w.heap.size+1) 147 #[.int .i64 op,.int .u64 (n:Int),.slice none 0 0,.slice none 0 0] (by simp));clear h1 h2;have H:=fQ (show(fY op).isSome=false from hg);have I:=fQ (show fJ op = .tuple #[.int .i64 k,.int .i64 wd,.bool false,.bool true] by unfold fJ;rw[B]);have ar:(op == 256)=false:=(by simp[r]);have au:(op == 258)=false:=(by simp[t]);have aw:(op == 27)=false:=(by simp[u]);have ax:(op == 35)=false:=(by simp[v]);have ay:(op == 36)=false:=(by simp[x]);have g16:(op == 16)=false:=(by simp[y]);have av:(op == 257)=false:=(by simp[z]);rw[A]at B0 l m ⊢;clear A;clear hg B r t u v x y z;obtain⟨FF,o⟩:∃ F:Option (List Int×List Int),(if n<=4294967295 then some ([127],[k])else none)=F:=⟨_,rfl⟩;rw[o];have D:=fQ o;clear o;go_in;go_wp2_with fail;refine(jW op _).mono ?_;rintro J w1 ⟨A1,c1,rfl,E,f⟩;rw[H.out];have a:=fQ (B0.out.trans (f.mono B0.out.size));have c:=fQ (l.out.below f l.out.lt);have p:=fQ (m.out.below f m.out.lt);have HR:=fQ E;clear f E;have f0:=p.out.cell 0;have f1:=p.out.cell 1;simp at f0 f1;have y1:=p.out.lt;have e0:=c.out.cell 0;have e2:=c.out.cell 2;have K:=c.out.cell 3;have L:=c.out.cell 4;simp at e0 e2 K L;have y2:=c.out.lt;go_wp2_with fail;refine(gZ op _).mono ?_;rintro J w2 ⟨rfl,rfl⟩;rw[I.out];by_cases b:n<=4294967295
 ·have M:=eKa b;have d:=fQ (D.out.symm.trans (if_pos b));clear b;go_wp2_with fail;go_region
  all_goals
   go_wp2;go_ret3
   first
    | exact FmP.yes d.out (Blk.alloc (Blk.new _ _ _) _ |> IR.one).drew (IR.one (Blk.newAt _ _ _ (by simp))).drew ((a.out.alloc a.out.size _).alloc (by simp;have:=a.out.size;omega) _).drew
    | exact FmP.yes d.out (IR.one (Blk.newAt _ _ _ (by simp))).drew (Blk.alloc (Blk.new _ _ _) _ |> IR.one).drew ((a.out.alloc a.out.size _).alloc (by simp;have:=a.out.size;omega) _).drew
 ·have M:=eKb b;have d:=fQ (D.out.symm.trans (if_neg b));clear b;go_wp2_with fail;go_region
  all_goals
   go_wp2;go_ret3
   first
    | exact FmP.no d.out (Blk.alloc (Blk.new _ _ _) _ |> IR.one).drew (IR.one (Blk.newAt _ _ _ (by simp))).drew ((a.out.alloc a.out.size _).alloc (by simp;have:=a.out.size;omega) _).drew
    | exact FmP.no d.out (IR.one (Blk.newAt _ _ _ (by simp))).drew (Blk.alloc (Blk.new _ _ _) _ |> IR.one).drew ((a.out.alloc a.out.size _).alloc (by simp;have:=a.out.size;omega) _).drew
theorem dVv(e:EnvD)(s:SigD)(p:AY)(op:Int)(n:Nat)(hn:n<18446744073709551616)(w:AW)(he:EnvV w p e)(q:op=63)(hg:(fY op).isSome=false)(r:e.mem=true)(t:acc op=none):
  Ab fZ 96 #[p,.agg #[.int .i64 op,.int .u64 (n:Int),.slice none 0 0,.slice none 0 0],.int .i64 0] w (FmP (if n=0 then some ([],[127])else none) w):=by
 obtain⟨va,vb,vd,rfl,h1,h2,u⟩:=he;obtain⟨f,cs,rfl,_⟩:=h1.len;obtain⟨g,cg,rfl⟩:=h2.shape;have H1:=fQ h1;have H2:=fQ h2;have H3:=fQ u;obtain⟨h,i,rfl,_⟩:=u;have B0:=fQ (al2 w (.cells #[.slice f e.sigs.length cs,.int .i64 e.imports,.slice g e.globals.length cg,.slice h e.muts.length i,.bool e.mem] 26) (.cells #[.int .i64 op,.int .u64 (n:Int),.slice none 0 0,.slice none 0 0] 147));have j:=fQ ((Blk.new w 26 #[.slice f e.sigs.length cs,.int .i64 e.imports,.slice g e.globals.length cg,.slice h e.muts.length i,.bool e.mem]).alloc (.cells #[.int .i64 op,.int .u64 (n:Int),.slice none 0 0,.slice none 0 0] 147));have k:=fQ (Blk.newAt (w.alloc (.cells #[.slice f e.sigs.length cs,.int .i64 e.imports,.slice g e.globals.length cg,.slice h e.muts.length i,.bool e.mem] 26)) (N:=w.heap.size+1) 147 #[.int .i64 op,.int .u64 (n:Int),.slice none 0 0,.slice none 0 0] (by simp));clear h1 h2;have y:=fQ (show(fY op).isSome=false from hg);have z:=fQ (show fJ op = .tuple #[.int .i64 0,.int .i64 0,.bool false,.bool false] by unfold fJ;rw[t]);have ai:(op == 256)=false:=(by simp;omega);have aj:(op == 258)=false:=(by simp;omega);have al:(op == 27)=false:=(by simp;omega);have an:(op == 35)=false:=(by simp;omega);have ao:(op == 36)=false:=(by simp;omega);have g16:(op == 16)=false:=(by simp;omega);have ak:(op == 257)=false:=(by simp;omega);have aq:(op == 63)=true:=(by simp[q]);have g64:(op == 64)=false:=(by simp;omega);rw[r]at B0 j k ⊢;clear r;clear hg t q;obtain⟨FF,l⟩:∃ F:Option (List Int×List Int),(if n=0 then some ([],[127])else none)=F:=⟨_,rfl⟩;rw[l];have v:=fQ l;clear l;go_in;go_wp2_with fail;refine(jW op _).mono ?_;rintro A w1 ⟨A1,c1,rfl,x,c⟩;rw[y.out];have d:=fQ (B0.out.trans (c.mono B0.out.size));have b:=fQ (j.out.below c j.out.lt);have m:=fQ (k.out.below c k.out.lt);have HR:=fQ x;clear c x;have f0:=m.out.cell 0;have f1:=m.out.cell 1;simp at f0 f1;have y1:=m.out.lt;have e0:=b.out.cell 0;have e2:=b.out.cell 2;have B:=b.out.cell 3;have C:=b.out.cell 4;simp at e0 e2 B C;have y2:=b.out.lt;go_wp2_with fail;refine(gZ op _).mono ?_;rintro A w2 ⟨rfl,rfl⟩;rw[z.out];by_cases a:n=0
 ·have D:=aJh a;have o:=fQ (v.out.symm.trans (if_pos a));clear a;go_wp2_with fail;go_region
  all_goals
   go_wp2;go_ret3;exact FmP.yes o.out (IR.nil _) ((IR.one (Blk.new _ _ _)).drew) ((d.out.alloc d.out.size _).drew)
 ·have D:=aJi a;have o:=fQ (v.out.symm.trans (if_neg a));clear a;go_wp2_with fail;go_region
  all_goals
   go_wp2;go_ret3;exact FmP.no o.out (IR.nil _) ((IR.one (Blk.new _ _ _)).drew) ((d.out.alloc d.out.size _).drew)
theorem dVw(e:EnvD)(s:SigD)(p:AY)(op:Int)(n:Nat)(hn:n<18446744073709551616)(w:AW)(he:EnvV w p e)(q:op=64)(hg:(fY op).isSome=false)(r:e.mem=true)(t:acc op=none):
  Ab fZ 96 #[p,.agg #[.int .i64 op,.int .u64 (n:Int),.slice none 0 0,.slice none 0 0],.int .i64 0] w (FmP (if n=0 then some ([127],[127])else none) w):=by
 obtain⟨va,vb,vd,rfl,h1,h2,u⟩:=he;obtain⟨g,cs,rfl,_⟩:=h1.len;obtain⟨h,cg,rfl⟩:=h2.shape;have H1:=fQ h1;have H2:=fQ h2;have H3:=fQ u;obtain⟨i,j,rfl,_⟩:=u;have B0:=fQ (al2 w (.cells #[.slice g e.sigs.length cs,.int .i64 e.imports,.slice h e.globals.length cg,.slice i e.muts.length j,.bool e.mem] 26) (.cells #[.int .i64 op,.int .u64 (n:Int),.slice none 0 0,.slice none 0 0] 147));have k:=fQ ((Blk.new w 26 #[.slice g e.sigs.length cs,.int .i64 e.imports,.slice h e.globals.length cg,.slice i e.muts.length j,.bool e.mem]).alloc (.cells #[.int .i64 op,.int .u64 (n:Int),.slice none 0 0,.slice none 0 0] 147));have l:=fQ (Blk.newAt (w.alloc (.cells #[.slice g e.sigs.length cs,.int .i64 e.imports,.slice h e.globals.length cg,.slice i e.muts.length j,.bool e.mem] 26)) (N:=w.heap.size+1) 147 #[.int .i64 op,.int .u64 (n:Int),.slice none 0 0,.slice none 0 0] (by simp));clear h1 h2;have y:=fQ (show(fY op).isSome=false from hg);have z:=fQ (show fJ op = .tuple #[.int .i64 0,.int .i64 0,.bool false,.bool false] by unfold fJ;rw[t]);have ai:(op == 256)=false:=(by simp;omega);have aj:(op == 258)=false:=(by simp;omega);have al:(op == 27)=false:=(by simp;omega);have an:(op == 35)=false:=(by simp;omega);have ao:(op == 36)=false:=(by simp;omega);have g16:(op == 16)=false:=(by simp;omega);have ak:(op == 257)=false:=(by simp;omega);have aq:(op == 63)=false:=(by simp;omega);have g64:(op == 64)=true:=(by simp[q]);rw[r]at B0 k l ⊢;clear r;clear hg t q;obtain⟨FF,m⟩:∃ F:Option (List Int×List Int),(if n=0 then some ([127],[127])else none)=F:=⟨_,rfl⟩;rw[m];have v:=fQ m;clear m;go_in;go_wp2_with fail;refine(jW op _).mono ?_;rintro A w1 ⟨A1,c1,rfl,x,f⟩;rw[y.out];have a:=fQ (B0.out.trans (f.mono B0.out.size));have c:=fQ (k.out.below f k.out.lt);have o:=fQ (l.out.below f l.out.lt);have HR:=fQ x;clear f x;have f0:=o.out.cell 0;have f1:=o.out.cell 1;simp at f0 f1;have y1:=o.out.lt;have e0:=c.out.cell 0;have e2:=c.out.cell 2;have B:=c.out.cell 3;have C:=c.out.cell 4;simp at e0 e2 B C;have y2:=c.out.lt;go_wp2_with fail;refine(gZ op _).mono ?_;rintro A w2 ⟨rfl,rfl⟩;rw[z.out];by_cases b:n=0
 ·have D:=aJh b;have d:=fQ (v.out.symm.trans (if_pos b));clear b;go_wp2_with fail;go_region
  all_goals
   go_wp2;go_ret3
   first
    | exact FmP.yes d.out (Blk.alloc (Blk.new _ _ _) _ |> IR.one).drew (IR.one (Blk.newAt _ _ _ (by simp))).drew ((a.out.alloc a.out.size _).alloc (by simp;have:=a.out.size;omega) _).drew
    | exact FmP.yes d.out (IR.one (Blk.newAt _ _ _ (by simp))).drew (Blk.alloc (Blk.new _ _ _) _ |> IR.one).drew ((a.out.alloc a.out.size _).alloc (by simp;have:=a.out.size;omega) _).drew
 ·have D:=aJi b;have d:=fQ (v.out.symm.trans (if_neg b));clear b;go_wp2_with fail;go_region
  all_goals
   go_wp2;go_ret3
   first
    | exact FmP.no d.out (Blk.alloc (Blk.new _ _ _) _ |> IR.one).drew (IR.one (Blk.newAt _ _ _ (by simp))).drew ((a.out.alloc a.out.size _).alloc (by simp;have:=a.out.size;omega) _).drew
    | exact FmP.no d.out (IR.one (Blk.newAt _ _ _ (by simp))).drew (Blk.alloc (Blk.new _ _ _) _ |> IR.one).drew ((a.out.alloc a.out.size _).alloc (by simp;have:=a.out.size;omega) _).drew
theorem cKn(e:EnvD)(s:SigD)(l:AY)(op:Int)(n:Nat)(hn:n<18446744073709551616)(w:AW)(he:EnvV w l e)(m:op≠256)(o:op≠258)(p:op≠27)(q:op≠35)(r:op≠36)(t:op≠16)(u:op≠257)(v:op≠63)(x:op≠64)(hg:(fY op).isSome=false)(y:e.mem=true)(z:acc op=none):
  Ab fZ 96 #[l,.agg #[.int .i64 op,.int .u64 (n:Int),.slice none 0 0,.slice none 0 0],.int .i64 0] w (FmP (none) w):=by
 obtain⟨va,vb,vd,rfl,h1,h2,A⟩:=he;obtain⟨c,cs,rfl,_⟩:=h1.len;obtain⟨d,cg,rfl⟩:=h2.shape;have H1:=fQ h1;have H2:=fQ h2;have H3:=fQ A;obtain⟨f,g,rfl,_⟩:=A;have B0:=fQ (al2 w (.cells #[.slice c e.sigs.length cs,.int .i64 e.imports,.slice d e.globals.length cg,.slice f e.muts.length g,.bool e.mem] 26) (.cells #[.int .i64 op,.int .u64 (n:Int),.slice none 0 0,.slice none 0 0] 147));have h:=fQ ((Blk.new w 26 #[.slice c e.sigs.length cs,.int .i64 e.imports,.slice d e.globals.length cg,.slice f e.muts.length g,.bool e.mem]).alloc (.cells #[.int .i64 op,.int .u64 (n:Int),.slice none 0 0,.slice none 0 0] 147));have i:=fQ (Blk.newAt (w.alloc (.cells #[.slice c e.sigs.length cs,.int .i64 e.imports,.slice d e.globals.length cg,.slice f e.muts.length g,.bool e.mem] 26)) (N:=w.heap.size+1) 147 #[.int .i64 op,.int .u64 (n:Int),.slice none 0 0,.slice none 0 0] (by simp));clear h1 h2;have C:=fQ (show(fY op).isSome=false from hg);have D:=fQ (show fJ op = .tuple #[.int .i64 0,.int .i64 0,.bool false,.bool false] by unfold fJ;rw[z]);have au:(op == 256)=false:=(by simp[m]);have av:(op == 258)=false:=(by simp[o]);have ay:(op == 27)=false:=(by simp[p]);have az:(op == 35)=false:=(by simp[q]);have aA:(op == 36)=false:=(by simp[r]);have g16:(op == 16)=false:=(by simp[t]);have aw:(op == 257)=false:=(by simp[u]);have aB:(op == 63)=false:=(by simp[v]);have g64:(op == 64)=false:=(by simp[x]);rw[y]at B0 h i ⊢;clear y;clear hg z m o p q r t u v x;obtain⟨FF,j⟩:∃ F:Option (List Int×List Int),(none)=F:=⟨_,rfl⟩;rw[j];have E:=fQ j;clear j;go_in;go_wp2_with fail;refine(jW op _).mono ?_;rintro G w1 ⟨A1,c1,rfl,B,b⟩;rw[C.out];have H:=fQ (B0.out.trans (b.mono B0.out.size));have a:=fQ (h.out.below b h.out.lt);have k:=fQ (i.out.below b i.out.lt);have HR:=fQ B;clear b B;have f0:=k.out.cell 0;have f1:=k.out.cell 1;simp at f0 f1;have y1:=k.out.lt;have e0:=a.out.cell 0;have e2:=a.out.cell 2;have I:=a.out.cell 3;have J:=a.out.cell 4;simp at e0 e2 I J;have y2:=a.out.lt;go_wp2_with fail;refine(gZ op _).mono ?_;rintro G w2 ⟨rfl,rfl⟩;rw[D.out];go_wp2;go_ret3;exact FmP.no E.out.symm (IR.nil _) (IR.nil _) H.out
end Go.Proofs.YtabibkpfgmolkaaGreat

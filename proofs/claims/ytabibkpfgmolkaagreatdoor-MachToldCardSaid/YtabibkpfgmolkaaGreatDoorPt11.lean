/- Lemmas for the claim, part 11. Conditions: none. -/
import Derived.Test.YtabibkpfgmolkaaGreatDoorPt04
import Derived.Deep.DeepCutAuto
set_option maxRecDepth 100000
set_option maxHeartbeats 16000000
set_option linter.unusedVariables false
set_option linter.unusedSimpArgs false
open Go.Lib renaming hid→fQ
open Go.Proofs.Tryz renaming prog→fZ
open Go.RowKit
open List renaming getElem?_eq_getElem→Aj,getElem?_eq_none→Aq,take_succ_eq_append_getElem→Ax,mem_of_getElem?→Az,take_of_length_le→Ak,mem_of_find?_eq_some→Ay,find?_some→AJ
open Nat renaming le_refl→Av
open Go.RowKit.Below renaming drew→Aw
open Go renaming World→AQ,Value→AX,Calls→AZ
open Go.Value renaming int->fF,slice->fG,bool->fH,tuple->fI,agg->fM
open Go.IntKind renaming i64->fN,u64->fO
open Go.Obj renaming cells->fP
open Go.Ending renaming returned->fR
open Or renaming inl->fS,inr->fT
open Option renaming none->fU,some->gh
open Bool renaming true->gj,false->gm
namespace Go.Proofs.YtabibkpfgmolkaaGreatDoor
variable {w w':AQ}{n k j g base:Nat}{l D:List Int}{x op a:Int}{t:TypeId}{v:AX}
theorem dYt(D:List Int)(i:Nat)(x:Int):(ix D).toArray.setIfInBounds i (fF fN x)=(ix (D.set i x)).toArray:=by simp[ix,List.map_set]
theorem eKu(h:gO w g t (ix D).toArray)(i:Nat)(x:Int):gO (w.setCell ⟨g,i,fU⟩ (fF fN x)) g t (ix (D.set i x)).toArray:=by
 have:=heap_setCell_same w g i _ t (fF fN x) h;unfold gO;rw[this,dYt]
theorem cJr{i:Nat}(h:gO w g t (ix D).toArray)(hi:D[i]? = gh a):w.cell? ⟨g,i,fU⟩=gh (fF fN a):=by
 rw[h.cell i];simp[ix,hi]
theorem bYq{i:Nat}(h:gO w g t (ix D).toArray)(hi:i<D.length):∃ u,w.cell? ⟨g,i,fU⟩=gh u:=
 ⟨_,cJr h (Aj hi)⟩
def swp(D:List Int)(i j:Nat):List Int:=(D.set i (D.getD j 0)).set j (D.getD i 0)
def swR(a b:Nat):Nat->Nat->List Int->List Int
 | 0,_,D=>D
 | r+1,k,D=>swR a b r (k+1) (swp D (a+k) (b+k))
def dYu(m:Nat):Nat->Nat->Nat->List Int->List Int
 | 0,_,_,D=>D
 | f+1,i,j,D=>if i=j then swR (m - i) m i 0 D else if j<i then dYu m f (i - j) j (swR (m - i) m j 0 D)else dYu m f i (j - i) (swR (m - i) (m+j - i) i 0 D)
def fKy(a m b:Nat)(D:List Int):List Int:=dYu m (m - a+(b - m)) (m - a) (b - m) D
def fQl(K:Int->Int->Int)(a:Nat):Nat->List Int->List Int
 | 0,D=>D
 | q+1,D=>if a<q+1/\K (D.getD (q+1) 0) (D.getD q 0)<0 then fQl K a q (swp D (q+1) q)else D
def fQm(K:Int->Int->Int)(a:Nat):Nat->Nat->List Int->List Int
 | 0,_,D=>D
 | r+1,k,D=>fQm K a r (k+1) (fQl K a k D)
def dYv(K:Int->Int->Int)(a b:Nat)(D:List Int):List Int:=fQm K a (b - (a+1)) (a+1) D
def bsF(t:Nat->Bool):Nat->Nat->Nat->Nat
 | 0,i,_=>i
 | f+1,i,j=>if i<j then(if t ((i+j) / 2)=gj then bsF t f ((i+j) / 2+1) j else bsF t f i ((i+j) / 2))else i
def bsV(t:Nat->Bool)(i j:Nat):Nat:=bsF t (j - i) i j
def cKv(K:Int->Int->Int)(D:List Int)(i j:Nat):Bool:=decide (K (D.getD i 0) (D.getD j 0)<0)
def upS:Nat->Nat->List Int->List Int
 | 0,_,D=>D
 | r+1,k,D=>upS r (k+1) (swp D k (k+1))
def dnS(i:Nat):Nat->List Int->List Int
 | 0,D=>D
 | k+1,D=>if i<k+1 then dnS i k (swp D (k+1) k)else D
def fKz(K:Int->Int->Int)(a m b:Nat)(D:List Int):Nat:=
 if(a+b) / 2<m then bsV (fun c=>!cKv K D ((a+b) / 2+m - 1 - c) c) ((a+b) / 2+m - b) ((a+b) / 2)else bsV (fun c=>!cKv K D ((a+b) / 2+m - 1 - c) c) a m
def cKw(K:Int->Int->Int):Nat->Nat->Nat->Nat->List Int->List Int
 | 0,_,_,_,D=>D
 | f+1,a,m,b,D=>
  if m - a=1 then upS (bsV (fun h=>cKv K D h a) m b - 1 - a) a D
  else if b - m=1 then dnS (bsV (fun h=>!cKv K D m h) a m) m D
  else
   let s:=fKz K a m b D
   let e:=(a+b) / 2+m - s
   let c:=if s<m/\m<e then fKy s m e D else D
   let d:=if a<s/\s<(a+b) / 2 then cKw K f a s ((a+b) / 2) c else c
   if(a+b) / 2<e/\e<b then cKw K f ((a+b) / 2) e b d else d
def stB(K:Int->Int->Int)(P:Nat):Nat->Nat->List Int->List Int
 | 0,a,D=>dYv K a P D
 | f+1,a,D=>if a+20<=P then stB K P f (a+20) (dYv K a (a+20) D)else dYv K a P D
def mgP(K:Int->Int->Int)(P s:Nat):Nat->Nat->List Int->List Int
 | 0,_,D=>D
 | f+1,a,D=>if a+2*s<=P then mgP K P s f (a+2*s) (cKw K (a+2*s - a) a (a+s) (a+2*s) D)else if a+s<P then cKw K (P - a) a (a+s) P D else D
def mgA(K:Int->Int->Int)(P:Nat):Nat->Nat->List Int->List Int
 | 0,_,D=>D
 | f+1,s,D=>if s<P then mgA K P f (2*s) (mgP K P s P 0 D)else D
def fWg(K:Int->Int->Int)(P:Nat)(D:List Int):List Int:=mgA K P P 20 (stB K P P 0 D)
theorem s9:(fZ.info? 4).map (fun i=>(i.zero,i.size,i.bytes))=gh (gh (fH gm),1,1):=fx
def Told(w:AQ)(base:Nat)(v:AX)(n:Nat)(Q:Nat->Int->Prop):Prop:=∃ vs P,w.ownsRow base 23 1 v n vs/\j5 w base vs P/\P.length=n/\∀ (i:Nat) p,P[i]? = gh p->jj p (Q i)
def cQb(e:ia)(r:gR)(n:Nat)(Q:Nat->Int->Prop)(w:AQ)(a:Ending)(w':AQ):Prop:=
 (¬iq e r/\a = fR (fI #[fG fU 0 0,fF fN 6])/\Below w.heap.size w w') \/
 (iq e r/\∃ v,a = fR (fI #[v,fF fN 0])/\Told w' w.heap.size v n Q/\Below w.heap.size w w')
theorem Told.mono{a b:Nat}{Q:Nat->Int->Prop}(h:Told w a v n Q)(c:b<=a):Told w b v n Q:=by
 obtain⟨vs,P,h1,h2,d,e⟩:=h;exact⟨vs,P,iQ h1 c,⟨h2.1,fun i u p q1 f=>iQ (h2.2 i u p q1 f) c⟩,d,e⟩
theorem Told.C{a:Nat}{Q:Nat->Int->Prop}(h:Told w a v n Q)(b:Below w.heap.size w w'):Told w' a v n Q:=by
 obtain⟨vs,P,h1,h2,c,d⟩:=h;exact⟨vs,P,iJ h1 b (Av _),⟨h2.1,fun i u p q1 e=>iJ (h2.2 i u p q1 e) b (Av _)⟩,c,d⟩
def jm(r:gR)(x:Int):Prop:=∃ i c,r.K[i]? = gh c/\c.op=16/\jI r i x/\x ∉ c.O
def Beh(r:gR)(i:Nat)(c:gP)(p:Int):Prop:=(jI r i p/\(c.op=272->∀ a,c.args[0]? = gh a->p≠a))\/p∈c.O
def cVr(r:gR)(o p:Int):Prop:=∃ i c,r.K[i]? = gh c/\o∈c.O/\Beh r i c p
def cVs(r:gR)(a b:Int):Prop:=a∈r.params/\(b∈r.params\/Live r 0 b)
def jc(r:gR)(a b:Int):Prop:=a≠b/\((cVr r a b\/cVs r a b)\/(cVr r b a\/cVs r b a))
abbrev j7:=Int->Int->Prop
def iT(S:List Nat)(w w':AQ):Prop:=w.heap.size<=w'.heap.size/\∀ k,k<w.heap.size->k ∉ S->w'.heap[k]? = w.heap[k]?
theorem iT.refl(S:List Nat)(w:AQ):iT S w w:=⟨Av _,fun _ _ _=>rfl⟩
theorem iT.trans{S:List Nat}{a b c:AQ}(h:iT S a b)(k:iT S b c):iT S a c:=⟨Nat.le_trans h.1 k.1,fun j hj hn=>(k.2 j (Nat.lt_of_lt_of_le hj h.1) hn).trans (h.2 j hj hn)⟩
theorem iT.grown{S:List Nat}{b:Nat}(h:w.grownBy w' (gh b))(a:b∈S):iT S w w':=⟨h.size,fun k c hn=>h.block k c (fun e=>by injection e with e;subst e;exact hn a)⟩
theorem cQc{S:List Nat}{cs:Array AX}(h:gO w g t cs)(a:iT S w w')(hg:g ∉ S):gO w' g t cs:=(a.2 g h.lt hg).trans h
def kT(r:gR):j7:=fun a b=>cVr r a b\/cVs r a b
def oS(r:gR)(k:Nat):j7:=fun x y=>∃ i c,i<k/\r.K[i]? = gh c/\x∈c.O/\Beh r i c y
def od(r:gR)(k:Nat)(c:gP)(j:Nat):j7:=fun x y=>oS r k x y\/(x∈c.O.take j/\Beh r k c y)
def pM(r:gR)(k:Nat)(c:gP)(j:Nat)(o:Int)(z:Nat):j7:=fun x y=>od r k c j x y\/(x=o/\((jI r k y/\(c.op=272->∀ a,c.args[0]? = gh a->y≠a))\/y∈c.O.take z))
def oe(r:gR)(k:Nat):j7:=fun x y=>oS r r.K.length x y\/(x∈r.params.take k/\(y∈r.params\/Live r 0 y))
def pN(r:gR)(k:Nat)(a:Int)(j:Nat):j7:=fun x y=>oe r k x y\/(x=a/\y∈r.params.take j)
theorem sQ{y:Int}(h:l[j]? = gh x):y∈l.take (j+1)↔y∈l.take j\/y=x:=by
 obtain⟨a,e⟩:=gw h;rw[Ax a,e];simp
theorem pO{y:Int}(h:l.length<=j):y∈l.take j↔y∈l:=by rw[Ak h]
theorem dXz{r:gR}{c:gP}(hc:r.K[k]? = gh c)(hj:c.O.length<=j)(x y:Int)(h:oS r (k+1) x y):od r k c j x y:=by
 obtain⟨i,d,h1,h2,a,b⟩:=h;by_cases e:i=k
 ·subst e;rw[hc]at h2;injection h2 with h2;subst h2;exact fT ⟨(pO hj).2 a,b⟩
 ·exact fS ⟨i,d,fu,h2,a,b⟩
theorem cVt{r:gR}{c:gP}(x y:Int)(h:od r k c 0 x y):oS r k x y:=by
 rcases h with h|⟨h,_⟩
 ·exact h
 ·simp at h
theorem eQe{r:gR}{z:Nat}{c:gP}{o p:Int}(b:c.O[z]? = gh p)(x y:Int)(h:pM r k c j o (z+1) x y):pM r k c j o z x y\/(x=o/\y=p):=by
 rcases h with h|⟨h1,h2|h2⟩
 ·exact fS (fS h)
 ·exact fS (fT ⟨h1,fS h2⟩)
 ·rcases(sQ b).1 h2 with a|a
  ·exact fS (fT ⟨h1,fT a⟩)
  ·exact fT ⟨h1,a⟩
theorem dZa{r:gR}{z:Nat}{c:gP}{o:Int}(hj:c.O[j]? = gh o)(b:c.O.length<=z)(x y:Int)(h:od r k c (j+1) x y):pM r k c j o z x y:=by
 rcases h with h|⟨h1,h2⟩
 ·exact fS (fS h)
 ·rcases(sQ hj).1 h1 with a|a
  ·exact fS (fT ⟨a,h2⟩)
  ·rcases h2 with h2|h2
   ·exact fT ⟨a,fS h2⟩
   ·exact fT ⟨a,fT ((pO b).2 h2)⟩
theorem cVu{r:gR}(x y:Int)(h:oe r 0 x y):oS r r.K.length x y:=by
 rcases h with h|⟨h,_⟩
 ·exact h
 ·simp at h
theorem cVv{r:gR}(x y:Int)(h:pN r k a 0 x y):oe r k x y:=by
 rcases h with h|⟨_,h⟩
 ·exact h
 ·simp at h
theorem eQf{r:gR}{b:Int}(hj:r.params[j]? = gh b)(x y:Int)(h:pN r k a (j+1) x y):pN r k a j x y\/(x=a/\y=b):=by
 rcases h with h|⟨h1,h2⟩
 ·exact fS (fS h)
 ·rcases(sQ hj).1 h2 with c|c
  ·exact fS (fT ⟨h1,c⟩)
  ·exact fT ⟨h1,c⟩
theorem eQg{r:gR}(a:r.params.length<=k)(x y:Int)(h:kT r x y):oe r k x y:=by
 rcases h with⟨i,c,h1,h2,b⟩|⟨h1,h2⟩
 ·exact fS ⟨i,c,(gw h1).1,h1,h2,b⟩
 ·exact fT ⟨(pO a).2 h1,h2⟩
theorem vK{n:Int}(h:within n l=gj)(a:x∈l):0<=x/\x<n:=by
 have:=List.all_eq_true.1 h x a
 simpa using this
theorem dZb{e:ia}{r:gR}{c:gP}(h:codeOk e r c=gj)(b:c.op=272):c.args.length=1:=by
 unfold codeOk at h;rw[b]at h;unfold iV at h;simp only[show((272:Int)=256)=False by simp,if_false,if_true]at h
 split at h
 ·cases h
 ·rename_i i o a
  split at a
  ·injection a with a;injection a with h1 h2;subst h1;simp only[Bool.and_eq_true,decide_eq_true_eq]at h
   simpa using h.1.1
  ·cases a
def LL(w:AQ)(v:AX)(P:List (List Int)):Prop:=∃ A c vs,v = fG A P.length c/\Src w A P.length vs/\∀ (i:Nat) u p,vs[i]? = gh u->P[i]? = gh p->IR w u p
theorem LL.at{w:AQ}{A:Option Addr}{n c:Nat}{P:List (List Int)}(h:LL w (fG A n c) P){i:Nat}{p:List Int}(hp:P[i]? = gh p):∃ b o B k,A=gh ⟨b,o,fU⟩/\b<w.heap.size/\w.cell? ⟨b,o+i,fU⟩=gh (fG B p.length k)/\IR w (fG B p.length k) p:=by
 obtain⟨A',c',vs,e,h1,h2⟩:=h;injection e with d e2 f;subst d;subst f;have hi:=(gw hp).1;obtain⟨b,o,e,g⟩:=h1.addr fu;subst e;have hc:=h1.at_ hi;have j:i<vs.length:=(by rw[h1.1];exact hi);have a:=h2 i _ p (Aj j) hp;obtain⟨B,k,e⟩:=a.I;rw[e]at hc a;exact⟨b,o,B,k,rfl,g,hc,a⟩
theorem cJa(w:AQ)(a b:Nat):(w.drewN a).drewN b=w.drewN (a+b):=by
 simp[World.drewN];omega
def lA:List (List Int):=[[],[],[0],[1]]
theorem Told.ll{Q:Nat->Int->Prop}(h:Told w base v n Q){L:List (List Int)}(hl:L.length=n)(f:∀ (i:Nat) p,L[i]? = gh p->jj p (Q i)):LL w v L:=by
 obtain⟨vs,P,h1,h2,g,j⟩:=h
 have e:P=L:=by
  apply List.ext_getElem?;intro i;by_cases hi:i<n
  ·have a:=Aj (show i<P.length by omega);have b:=Aj (show i<L.length by omega);rw[a,b,(j i _ a).one (f i _ b)]
  ·rw[Aq fu,Aq fu]
 subst e;subst g;obtain⟨A,c,rfl,_⟩:=fJ h1;refine⟨A,c,vs,rfl,Src.mf h1,fun i u p q1 l=>?_⟩;have d:=h2.2 i u p q1 l;obtain⟨B,k,rfl,_⟩:=fJ d;exact⟨B,k,rfl,Src.mf d⟩
theorem kT.range{e:ia}{r:gR}(hc:iq e r){a b:Int}(h:kT r a b):(0<=a/\a<r.M)/\0<=b/\b<r.M:=by
 rcases h with⟨i,c,h1,h2,d⟩|⟨h1,h2⟩
 ·have hp:=xJ (hc.K c (Az h1));refine⟨hp.2.1 a h2,?_⟩;rcases d with⟨d,_⟩|d
  ·exact d.range hc
  ·exact hp.2.1 b d
 ·refine⟨vK hc.pin h1,?_⟩;rcases h2 with h2|h2
  ·exact vK hc.pin h2
  ·exact h2.range hc
theorem jc.range{e:ia}{r:gR}(hc:iq e r){a b:Int}(h:jc r a b):0<=b/\b<r.M:=by
 rcases h.2 with h|h
 ·exact(kT.range hc h).2
 ·exact(kT.range hc h).1
theorem jc.symm{r:gR}{a b:Int}(h:jc r a b):jc r b a:=⟨fun e=>h.1 e.symm,h.2.symm⟩
theorem jj.small{e:ia}{r:gR}(hc:iq e r){p:List Int}{Q:Int->Prop}(h:jj p Q)(a:∀ x,Q x->0<=x/\x<r.M):p.length<=4096:=by
 have h1:=hc.p1;have h2:=hc.p2;have:=bZx (m:=r.M.toNat) (h.1.imp (fun h=>fu)) (fun x b=>by have:=a x ((h.2 x).1 b);omega);omega
theorem Told.lists{Q:Nat->Int->Prop}(h:Told w base v n Q):∃ P,LL w v P/\P.length=n/\∀ (i:Nat) p,P[i]? = gh p->jj p (Q i):=by
 have c:=h;obtain⟨vs,P,h1,h2,a,b⟩:=h;exact⟨P,c.ll a b,a,b⟩
end Go.Proofs.YtabibkpfgmolkaaGreatDoor
namespace Go.Proofs.YtabibkpfgmolkaaGreatDoor
variable {w w':AQ}{n k j g base:Nat}{l D:List Int}{x op a:Int}{t:TypeId}{v:AX}
def mQ(n:Int)(l:List Int)(u:Bool):Bool:=within n l && (!u || decide l.Nodup)
theorem bXp{n:Int}(a:l[k]? = gh x)(h:within n (l.take k)=gj)(b:0<=x)(h1:x<n):within n (l.take (k+1))=gj:=by
 obtain⟨c,e⟩:=gw a;rw[Ax c,e];unfold within at h ⊢;rw[List.all_append,h];simp;exact⟨b,h1⟩
theorem aKu{n:Int}(a:x∈l)(h:¬(0<=x/\x<n)):within n l=gm:=by
 rw[Bool.eq_false_iff];intro b;exact h (vK b a)
theorem cWa(d:l[k]? = gh x)(h:(l.take k).Nodup)(hn:x ∉ l.take k):(l.take (k+1)).Nodup:=by
 obtain⟨f,e⟩:=gw d;rw[Ax f,e,List.nodup_append];exact⟨h,fz,fun a ha b c e2=>by simp at c;subst c;rw[e2]at ha;exact hn ha⟩
theorem eQl(hj:l[j]? = gh x)(a:l[k]? = gh x)(h:j<k):decide l.Nodup=gm:=by
 rw[decide_eq_false_iff_not];intro hn;obtain⟨h1,b⟩:=gw hj;obtain⟨h2,e2⟩:=gw a;exact(List.pairwise_iff_getElem.1 hn j k h1 h2 h) (b.trans e2.symm)
def fQy(b:Bool)(w:AQ)(a:Ending)(w':AQ):Prop:=a = fR (fH b)/\∃ m,w'=w.drewN m
theorem aJo(u:Bool)(p:Int)(v:AX)(l:List Int)(w:AQ)(hs:IR w v l)(L:l.length<=9223372036854775806):AZ fZ 80 #[v,fF fN p,fH u] w (fQy (mQ p l u) w):=by
 obtain⟨A,c,rfl⟩:=hs.I;have q:=fQ hs;obtain⟨n,hn⟩:=fX l.length;rw[hn]at q L ⊢;have f:=fQ hn;clear hs hn;cases u
 all_goals
  go_in;go_wp2
 ·go_loopw [7] (fun i wr=>∃ k:Nat,k<=n/\i = fF fN k/\Hid (within p (l.take k)=gj)/\Hid (∃ m,wr=w.drewN m)) (fun i _=>n - (intOf i).toNat)
  case atStart=>exact⟨0,fu,rfl,fQ (by simp[within]),fQ ⟨0,rfl⟩⟩
  case round=>
   obtain⟨k,M,rfl,o,IM⟩:=hrel;obtain⟨m,rfl⟩:=IM.out;clear IM;by_cases t:k<n
   ·have z:decide ((k:Int)<n)=gj:=fw;have N:(k:Int)<n:=fu;obtain⟨x,d⟩:∃ x,l[k]? = gh x:=⟨_,Aj (by rw[f.out];exact t)⟩;obtain⟨ab,O,rfl,P,Q⟩:=q.cell d;have b:=fQ d;clear d;by_cases e:x<0
    ·have B:decide (x<0)=gj:=fw;have a:=fQ (show mQ p l gm=gm by unfold mQ;rw[aKu (Az b.out) fu];rfl);clear e;go_wp2;go_ret;exact⟨by rw[a.out];rfl,_,rfl⟩
    ·have B:decide (x<0)=gm:=fw;by_cases h1:x<p
     ·have C:decide (p<=x)=gm:=fw;have a:=fQ (bXp b.out o.out fu h1);clear e h1;go_wp2_with fail;go_loopw [8] (fun i wr=>i = fF fN 0/\Hid (∃ m,wr=w.drewN m)) (fun _ _=>0)
      case atStart=>exact⟨rfl,fQ ⟨_,rfl⟩⟩
      case round=>
       obtain⟨rfl,IM⟩:=hrel;obtain⟨m2,rfl⟩:=IM.out;clear IM;by_cases D:0<k
       ·have E:decide (0<k)=gj:=gD D;clear D;go_wp2;exact⟨⟨k+1,fu,fz,a,fQ ⟨_,rfl⟩⟩,fB⟩
       ·have E:decide (0<k)=gm:=gE D;have F:decide ((0:Int)<(k:Int))=gm:=fw;have r:k=0:=fu;subst r;go_wp2;exact⟨⟨0+1,fu,fz,a,fQ ⟨_,rfl⟩⟩,fB⟩
     ·have C:decide (p<=x)=gj:=fw;have a:=fQ (show mQ p l gm=gm by unfold mQ;rw[aKu (Az b.out) fu];rfl);clear e h1;go_wp2;go_ret;exact⟨by rw[a.out];rfl,_,rfl⟩
   ·have z:decide ((k:Int)<n)=gm:=by simp;omega
    have a:=fQ (show mQ p l gm=gj by
     have:=o.out;rw[Ak (by rw[f.out];omega)]at this
     unfold mQ;rw[this];rfl)
    go_wp2;go_ret;exact⟨by rw[a.out];rfl,_,rfl⟩
 ·go_loopw [7] (fun i wr=>∃ k:Nat,k<=n/\i = fF fN k/\Hid (within p (l.take k)=gj)/\Hid ((l.take k).Nodup)/\Hid (∃ m,wr=w.drewN m)) (fun i _=>n - (intOf i).toNat)
  case atStart=>exact⟨0,fu,rfl,fQ (by simp[within]),fQ fz,fQ ⟨0,rfl⟩⟩
  case round=>
   obtain⟨k,M,rfl,o,J,IM⟩:=hrel;obtain⟨m,rfl⟩:=IM.out;clear IM;by_cases t:k<n
   ·have z:decide ((k:Int)<n)=gj:=fw;have N:(k:Int)<n:=fu;obtain⟨x,d⟩:∃ x,l[k]? = gh x:=⟨_,Aj (by rw[f.out];exact t)⟩;obtain⟨ab,O,rfl,P,Q⟩:=q.cell d;have b:=fQ d;clear d;by_cases e:x<0
    ·have B:decide (x<0)=gj:=fw;have a:=fQ (show mQ p l gj=gm by unfold mQ;rw[aKu (Az b.out) fu];rfl);clear e;go_wp2;go_ret;exact⟨by rw[a.out];rfl,_,rfl⟩
    ·have B:decide (x<0)=gm:=fw;by_cases h1:x<p
     ·have C:decide (p<=x)=gm:=fw;have a:=fQ (bXp b.out o.out fu h1);clear e h1;go_wp2_with fail;go_loopw [8] (fun i wr=>∃ j:Nat,j<=k/\i = fF fN j/\Hid (x ∉ l.take j)/\Hid (∃ m,wr=w.drewN m)) (fun i _=>k - (intOf i).toNat)
      case atStart=>exact⟨0,fu,rfl,fQ fz,fQ ⟨_,rfl⟩⟩
      case round=>
       obtain⟨j,hj,rfl,s,IM⟩:=hrel;obtain⟨m2,rfl⟩:=IM.out;clear IM;by_cases G:j<k
       ·have r:(j:Int)<n:=fu;obtain⟨y,H⟩:∃ y,l[j]? = gh y:=⟨_,Aj (by rw[f.out];omega)⟩;obtain⟨ar,au,I,al,an⟩:=q.cell H;injection I with I;injection I with R e2;subst R;subst e2;have K:=fQ H;clear H;by_cases g:y=x
        ·have S:(y == x)=gj:=(by simp[g]);have T:=fQ (show mQ p l gj=gm by unfold mQ;rw[eQl (g ▸ K.out) b.out G];simp);clear g;go_wp2_with fail;go_quiet (fail);go_wp2;go_ret;exact⟨by rw[T.out];rfl,_,cJa _ _ _⟩
        ·have S:(y == x)=gm:=by simp[g]
         have U:=fQ (show x ∉ l.take (j+1) by
          rw[sQ K.out];rintro(h|h)
          ·exact s.out h
          ·exact g h.symm)
         clear g s;go_wp2_with fail;go_quiet (fail);go_wp2;exact⟨⟨j+1,fu,fz,U,fQ ⟨_,rfl⟩⟩,fB⟩
       ·have E:decide (j<k)=gm:=gE G;have F:decide ((j:Int)<(k:Int))=gm:=fw;have r:j=k:=fu;subst r;have V:=fQ (cWa b.out J.out s.out);clear s;go_wp2;exact⟨⟨j+1,fu,fz,a,V,fQ ⟨_,rfl⟩⟩,fB⟩
     ·have C:decide (p<=x)=gj:=fw;have a:=fQ (show mQ p l gj=gm by unfold mQ;rw[aKu (Az b.out) fu];rfl);clear e h1;go_wp2;go_ret;exact⟨by rw[a.out];rfl,_,rfl⟩
   ·have z:decide ((k:Int)<n)=gm:=by simp;omega
    have a:=fQ (show mQ p l gj=gj by
     have:=o.out;rw[Ak (by rw[f.out];omega)]at this;have h2:=J.out;rw[Ak (by rw[f.out];omega)]at h2
     unfold mQ;rw[this,gD h2];rfl)
    go_wp2;go_ret;exact⟨by rw[a.out];rfl,_,rfl⟩
theorem eQm(op:Int)(w:AQ):AZ fZ 82 #[fF fN op] w fun e w'=>e = fR (fH (decide (273<=op/\op<=277)))/\w=w':=by
 by_cases h1:273<=op
 ·by_cases h2:op<=277
  ·have a:=fQ (show decide (273<=op/\op<=277)=gj from gD ⟨h1,h2⟩);have b:decide (273<=op)=gj:=gD h1;have c:decide (op<=277)=gj:=gD h2;clear h1 h2;go_in;go_wp2;go_ret;exact⟨by rw[a.out];rfl,rfl⟩
  ·have a:=fQ (show decide (273<=op/\op<=277)=gm from gE (fun h=>h2 h.2));have b:decide (273<=op)=gj:=gD h1;have c:decide (op<=277)=gm:=gE h2;clear h1 h2;go_in;go_wp2;go_ret;exact⟨by rw[a.out];rfl,rfl⟩
 ·have a:=fQ (show decide (273<=op/\op<=277)=gm from gE (fun h=>h1 h.1));have b:decide (273<=op)=gm:=gE h1;clear h1;go_in;go_wp2;go_ret;exact⟨by rw[a.out];rfl,rfl⟩
def ju(F:Option (List Int×List Int))(w:AQ)(b:Ending)(w':AQ):Prop:=
 ∃ (a vo:AX) (ok:Bool) (i o:List Int),b = fR (fI #[a,vo,fH ok])/\IR w' a i/\IR w' vo o/\(F=fU->ok=gm)/\(∀ x,F=gh x->ok=gj/\x=(i,o))/\Below w.heap.size w w'
theorem ju.no{F:Option (List Int×List Int)}{a vo:AX}{i o:List Int}(hF:F=fU)(h1:IR w' a i)(h2:IR w' vo o)(b:Below w.heap.size w w'):ju F w (fR (fI #[a,vo,fH gm])) w':=
 ⟨a,vo,gm,i,o,rfl,h1,h2,fun _=>rfl,(fun x h=>by rw[hF]at h;cases h),b⟩
theorem ju.yes{F:Option (List Int×List Int)}{a vo:AX}{i o:List Int}(hF:F=gh (i,o))(h1:IR w' a i)(h2:IR w' vo o)(b:Below w.heap.size w w'):ju F w (fR (fI #[a,vo,fH gj])) w':=
 ⟨a,vo,gj,i,o,rfl,h1,h2,(fun h=>by rw[hF]at h;cases h),(fun x h=>by rw[hF]at h;injection h with h;exact⟨rfl,h.symm⟩),b⟩
theorem nm(h:n=0):((n:Int) == 0)=gj:=by simp[h]
theorem nn(h:n≠0):((n:Int) == 0)=gm:=by simp[h]
theorem fVm(h:n<=8589934592):decide ((n:Int)<=8589934592)=gj:=gD fu
theorem fVn(h:¬n<=8589934592):decide ((n:Int)<=8589934592)=gm:=gE fu
theorem fXa(h:n<=4294967295):decide ((n:Int)<4294967296)=gj:=gD fu
theorem fXb(h:¬n<=4294967295):decide ((n:Int)<4294967296)=gm:=gE fu
theorem IR.fYm{A:Option Addr}{c:Nat}(h:w.ownsRow base t 1 (fG A l.length c) l.length (ix l)):IR w (fG A l.length c) l:=⟨A,c,rfl,Src.mf h⟩
theorem cWc(e:ia)(s:iu)(l:AX)(op:Int)(n:Nat)(hn:n<18446744073709551616)(w:AQ)(he:iG w l e)(m:op=258)(hg:(gQ op).isSome=gm)(o:acc op=fU):
  AZ fZ 112 #[l,fM #[fF fN op,fF fO (n:Int),fG fU 0 0,fG fU 0 0],fF fN 0] w (ju (if n=0 then gh ([],[])else fU) w):=by
 obtain⟨va,vb,vd,rfl,h1,h2,p⟩:=he;obtain⟨d,cs,rfl,_⟩:=h1.len;obtain⟨f,cg,rfl⟩:=h2.I;have H3:=fQ p;obtain⟨g,h,rfl,_⟩:=p;have q:=fQ (j8 w (fP #[fG d e.R.length cs,fF fN e.G,fG f e.E.length cg,fG g e.a3.length h,fH e.L] 26) (fP #[fF fN op,fF fO (n:Int),fG fU 0 0,fG fU 0 0] 164));have r:=fQ ((gO.a4 w 26 #[fG d e.R.length cs,fF fN e.G,fG f e.E.length cg,fG g e.a3.length h,fH e.L]).alloc (fP #[fF fN op,fF fO (n:Int),fG fU 0 0,fG fU 0 0] 164));have t:=fQ (gO.X (w.alloc (fP #[fG d e.R.length cs,fF fN e.G,fG f e.E.length cg,fG g e.a3.length h,fH e.L] 26)) (N:=w.heap.size+1) 164 #[fF fN op,fF fO (n:Int),fG fU 0 0,fG fU 0 0] fz);clear h1 h2;have y:=fQ (show(gQ op).isSome=gm from hg);have z:=fQ (show fV op = fI #[fF fN 0,fF fN 0,fH gm,fH gm] by unfold fV;rw[o]);have ai:(op == 256)=gm:=fw;have aj:(op == 258)=gj:=(by simp[m]);clear hg o m;obtain⟨FF,i⟩:∃ F:Option (List Int×List Int),(if n=0 then gh ([],[])else fU)=F:=⟨_,rfl⟩;rw[i];have u:=fQ i;clear i;go_in;go_wp2_with fail;refine(kV op _).mono ?_;rintro A w1 ⟨A1,c1,rfl,v,c⟩;rw[y.out];have x:=fQ (q.trans (c.mono q.out.size));have b:=fQ (r.C c r.lt);have j:=fQ (t.C c t.lt);clear c v;have f0:=j.cell 0;have f1:=j.cell 1;simp at f0 f1;have e0:=b.cell 0;have e2:=b.cell 2;have B:=b.cell 3;have C:=b.cell 4;simp at e0 e2 B C;go_wp2_with fail;refine gu (gK op _) ?_;rw[z.out];by_cases a:n=0
 ·have D:=nm a;have k:=fQ (u.symm.trans (gz a));clear a;go_wp2_with fail;go_quiet (fail)
  all_goals
   go_wp2;go_ret3;exact ju.yes k.out (IR.nil _) (IR.nil _) (fK x.out _)
 ·have D:=nn a;have k:=fQ (u.symm.trans (gy a));clear a;go_wp2_with fail;go_quiet (fail)
  all_goals
   go_wp2;go_ret3;exact ju.no k.out (IR.nil _) (IR.nil _) (fK x.out _)
theorem dZi(e:ia)(s:iu)(m:AX)(op:Int)(n:Nat)(hn:n<18446744073709551616)(w:AQ)(he:iG w m e)(o:op≠256)(p:op≠258)(hg:(gQ op).isSome=gj)(q:acc op=fU):
  AZ fZ 112 #[m,fM #[fF fN op,fF fO (n:Int),fG fU 0 0,fG fU 0 0],fF fN 0] w (ju (if n=0 then gh (gJ op,[mX op])else fU) w):=by
 obtain⟨va,vb,vd,rfl,h1,h2,r⟩:=he;obtain⟨f,cs,rfl,_⟩:=h1.len;obtain⟨g,cg,rfl⟩:=h2.I;have H3:=fQ r;obtain⟨h,i,rfl,_⟩:=r;have t:=fQ (j8 w (fP #[fG f e.R.length cs,fF fN e.G,fG g e.E.length cg,fG h e.a3.length i,fH e.L] 26) (fP #[fF fN op,fF fO (n:Int),fG fU 0 0,fG fU 0 0] 164));have u:=fQ ((gO.a4 w 26 #[fG f e.R.length cs,fF fN e.G,fG g e.E.length cg,fG h e.a3.length i,fH e.L]).alloc (fP #[fF fN op,fF fO (n:Int),fG fU 0 0,fG fU 0 0] 164));have v:=fQ (gO.X (w.alloc (fP #[fG f e.R.length cs,fF fN e.G,fG g e.E.length cg,fG h e.a3.length i,fH e.L] 26)) (N:=w.heap.size+1) 164 #[fF fN op,fF fO (n:Int),fG fU 0 0,fG fU 0 0] fz);clear h1 h2;have A:=fQ (show(gQ op).isSome=gj from hg);have B:=fQ (show fV op = fI #[fF fN 0,fF fN 0,fH gm,fH gm] by unfold fV;rw[q]);have ak:(op == 256)=gm:=(by simp[o]);have al:(op == 258)=gm:=(by simp[p]);clear hg q o p;obtain⟨FF,j⟩:∃ F:Option (List Int×List Int),(if n=0 then gh (gJ op,[mX op])else fU)=F:=⟨_,rfl⟩;rw[j];have x:=fQ j;clear j;go_in;go_wp2_with fail;refine(kV op _).mono ?_;rintro C w1 ⟨A1,c1,rfl,y,c⟩;rw[A.out];have d:=fQ (t.trans (c.mono t.out.size));have b:=fQ (u.C c u.lt);have k:=fQ (v.C c v.lt);have z:=fQ y;clear c y;have f0:=k.cell 0;have f1:=k.cell 1;simp at f0 f1;have y1:=k.lt;have e0:=b.cell 0;have e2:=b.cell 2;have D:=b.cell 3;have E:=b.cell 4;simp at e0 e2 D E;go_wp2_with fail;refine gu (gK op _) ?_;rw[B.out];by_cases a:n=0
 ·have G:=nm a;have l:=fQ (x.symm.trans (gz a));clear a;go_wp2_with fail;go_region
  all_goals
   go_wp2;go_ret3;exact ju.yes l.out (((IR.fYm z.out).alloc _).drew) ((IR.one (gO.a4 _ _ _)).drew) ((d.alloc d.out.size _).drew)
 ·have G:=nn a;have l:=fQ (x.symm.trans (gy a));clear a;go_wp2_with fail;go_region
  all_goals
   go_wp2;go_ret3;exact ju.no l.out (((IR.fYm z.out).alloc _).drew) ((IR.one (gO.a4 _ _ _)).drew) ((d.alloc d.out.size _).drew)
theorem eQo(e:ia)(s:iu)(q:AX)(op:Int)(n:Nat)(hn:n<18446744073709551616)(w:AQ)(he:iG w q e)(r:op=35)(hg:(gQ op).isSome=gm)(t:acc op=fU)(u:e.a3.length=e.E.length):
  AZ fZ 112 #[q,fM #[fF fN op,fF fO (n:Int),fG fU 0 0,fG fU 0 0],fF fN 0] w (ju ((e.E[n]?).map fun g=>([],[g])) w):=by
 obtain⟨va,vb,vd,rfl,h1,h2,v⟩:=he;obtain⟨d,cs,rfl,_⟩:=h1.len;obtain⟨f,cg,rfl⟩:=h2.I;have y:=fQ h2;have H3:=fQ v;obtain⟨h,i,rfl,_⟩:=v;have z:=fQ (j8 w (fP #[fG d e.R.length cs,fF fN e.G,fG f e.E.length cg,fG h e.a3.length i,fH e.L] 26) (fP #[fF fN op,fF fO (n:Int),fG fU 0 0,fG fU 0 0] 164));have A:=fQ ((gO.a4 w 26 #[fG d e.R.length cs,fF fN e.G,fG f e.E.length cg,fG h e.a3.length i,fH e.L]).alloc (fP #[fF fN op,fF fO (n:Int),fG fU 0 0,fG fU 0 0] 164));have B:=fQ (gO.X (w.alloc (fP #[fG d e.R.length cs,fF fN e.G,fG f e.E.length cg,fG h e.a3.length i,fH e.L] 26)) (N:=w.heap.size+1) 164 #[fF fN op,fF fO (n:Int),fG fU 0 0,fG fU 0 0] fz);clear h1 h2;have J:=fQ (show(gQ op).isSome=gm from hg);have K:=fQ (show fV op = fI #[fF fN 0,fF fN 0,fH gm,fH gm] by unfold fV;rw[t]);have ak:(op == 256)=gm:=fw;have al:(op == 258)=gm:=fw;have ar:(op == 27)=gm:=fw;have au:(op == 35)=gj:=(by simp[r]);clear hg t r u;obtain⟨C,j⟩:∃ F:Option (List Int×List Int),((e.E[n]?).map fun g=>([],[g]))=F:=⟨_,rfl⟩;rw[j];have D:=fQ j;clear j;go_in;go_wp2_with fail;refine(kV op _).mono ?_;rintro L w1 ⟨A1,c1,rfl,E,c⟩;rw[J.out];have a:=fQ (z.trans (c.mono z.out.size));have b:=fQ (A.C c A.lt);have k:=fQ (B.C c B.lt);have HR:=fQ E;clear c E;have f0:=k.cell 0;have f1:=k.cell 1;simp at f0 f1;have y1:=k.lt;have e0:=b.cell 0;have e2:=b.cell 2;have M:=b.cell 3;have O:=b.cell 4;simp at e0 e2 M O;go_wp2_with fail;refine gu (gK op _) ?_;rw[K.out];have hl:=y.kj;by_cases l:n<e.E.length
 ·obtain⟨x,m⟩:∃ x,e.E[n]? = gh x:=⟨_,Aj l⟩;have G:¬e.E.length<=n:=fu;have t3:(n:Int)<(e.E.length:Int):=fu;obtain⟨H,go,rfl,Q,I⟩:=y.ir.cell m;have d0:=(a.cell (p:=⟨H,_,fU⟩) Q).trans I;have o:=fQ (show C=gh ([],[x]) by rw[<-D.out,m];rfl);clear m I l;go_wp2;go_ret3;exact ju.yes o.out (IR.nil _) (IR.one (gO.a4 _ _ _)) (a.alloc a.out.size _)
 ·have G:e.E.length<=n:=fu;have o:=fQ (show C=fU by rw[<-D.out,Aq G];try rfl);clear l;go_wp2;go_ret3;exact ju.no o.out (IR.nil _) (IR.nil _) a.out
theorem eQp(e:ia)(s:iu)(u:AX)(op:Int)(n:Nat)(hn:n<18446744073709551616)(w:AQ)(he:iG w u e)(v:op=36)(hg:(gQ op).isSome=gm)(z:acc op=fU)(A:e.a3.length=e.E.length):
  AZ fZ 112 #[u,fM #[fF fN op,fF fO (n:Int),fG fU 0 0,fG fU 0 0],fF fN 0] w (ju (match e.E[n]?,e.a3[n]? with|gh g,gh gj=>gh ([g],[])|_,_=>fU) w):=by
 obtain⟨va,vb,vd,rfl,h1,h2,B⟩:=he;obtain⟨h,cs,rfl,_⟩:=h1.len;obtain⟨i,cg,rfl⟩:=h2.I;have C:=fQ h2;have Q:=fQ B;obtain⟨j,k,rfl,_⟩:=B;have D:=fQ (j8 w (fP #[fG h e.R.length cs,fF fN e.G,fG i e.E.length cg,fG j e.a3.length k,fH e.L] 26) (fP #[fF fN op,fF fO (n:Int),fG fU 0 0,fG fU 0 0] 164));have E:=fQ ((gO.a4 w 26 #[fG h e.R.length cs,fF fN e.G,fG i e.E.length cg,fG j e.a3.length k,fH e.L]).alloc (fP #[fF fN op,fF fO (n:Int),fG fU 0 0,fG fU 0 0] 164));have G:=fQ (gO.X (w.alloc (fP #[fG h e.R.length cs,fF fN e.G,fG i e.E.length cg,fG j e.a3.length k,fH e.L] 26)) (N:=w.heap.size+1) 164 #[fF fN op,fF fO (n:Int),fG fU 0 0,fG fU 0 0] fz);clear h1 h2;have R:=fQ (show(gQ op).isSome=gm from hg);have S:=fQ (show fV op = fI #[fF fN 0,fF fN 0,fH gm,fH gm] by unfold fV;rw[z]);have H:=fQ A;have ao:(op == 256)=gm:=fw;have aq:(op == 258)=gm:=fw;have ay:(op == 27)=gm:=fw;have az:(op == 35)=gm:=fw;have aA:(op == 36)=gj:=(by simp[v]);clear hg z v A;obtain⟨I,l⟩:∃ F:Option (List Int×List Int),(match e.E[n]?,e.a3[n]? with|gh g,gh gj=>gh ([g],[])|_,_=>fU)=F:=⟨_,rfl⟩;rw[l];have J:=fQ l;clear l;go_in;go_wp2_with fail;refine(kV op _).mono ?_;rintro T w1 ⟨A1,c1,rfl,K,d⟩;rw[R.out];have a:=fQ (D.trans (d.mono D.out.size));have b:=fQ (E.C d E.lt);have m:=fQ (G.C d G.lt);have HR:=fQ K;clear d K;have f0:=m.cell 0;have f1:=m.cell 1;simp at f0 f1;have y1:=m.lt;have e0:=b.cell 0;have e2:=b.cell 2;have o:=b.cell 3;have U:=b.cell 4;simp at e0 e2 o U;have y2:=b.lt;go_wp2_with fail;refine gu (gK op _) ?_;rw[S.out];have hl:=C.kj;by_cases c:n<e.E.length
 ·obtain⟨x,q⟩:∃ x,e.E[n]? = gh x:=⟨_,Aj c⟩;have L:¬e.E.length<=n:=fu;have t3:(n:Int)<(e.E.length:Int):=fu;obtain⟨M,go,rfl,W,O⟩:=C.ir.cell q;have d0:=(a.cell (p:=⟨M,_,fU⟩) W).trans O;obtain⟨y,r⟩:∃ y,e.a3[n]? = gh y:=⟨_,Aj (by rw[H.out];exact c)⟩;obtain⟨aD,aE,e',t,_⟩:=Q.out;injection e' with X _ o;subst X;subst o;have P:n<e.a3.length:=(by rw[H.out];exact c);have aw:(n:Int)<(e.a3.length:Int):=fu;obtain⟨mb,mo,rfl,Y⟩:=t.addr fu;have c1:=t.at_ P;rw[bVd P,(gw r).2]at c1;have d1:=(a.cell (p:=⟨mb,_,fU⟩) Y).trans c1;have aF:mb<w1.heap.size:=(by have:=a.out.size;omega);have f:=fQ (show I=if y=gj then gh ([x],[])else fU by rw[<-J.out,q,r];cases y <;> rfl);clear q r O c1 t c;go_wp2_with fail;go_region
  all_goals
   go_wp2;go_ret3
   cases y with
   | true=>exact ju.yes (f.trans (gz rfl)) (IR.one (gO.a4 _ _ _)).drew (IR.nil _) (a.alloc a.out.size _).drew
   | false=>exact ju.no (f.trans (gy fz)) (IR.one (gO.a4 _ _ _)).drew (IR.nil _) (a.alloc a.out.size _).drew
 ·have L:e.E.length<=n:=fu;have f:=fQ (show I=fU by rw[<-J.out,Aq L];try rfl);clear c;go_wp2;go_ret3;exact ju.no f.out (IR.nil _) (IR.nil _) a.out
theorem eQq(e:ia)(s:iu)(t:AX)(op:Int)(n:Nat)(hn:n<18446744073709551616)(w:AQ)(he:iG w t e)(u:op=16)(hg:(gQ op).isSome=gm)(v:acc op=fU):
  AZ fZ 112 #[t,fM #[fF fN op,fF fO (n:Int),fG fU 0 0,fG fU 0 0],fF fN 0] w (ju ((e.R[n]?).map fun g=>(g.a1,g.out)) w):=by
 obtain⟨va,vb,vd,rfl,h1,h2,y⟩:=he;obtain⟨d,cs,rfl,_⟩:=h1.len;obtain⟨f,cg,rfl⟩:=h2.I;have H1:=fQ h1;have H3:=fQ y;obtain⟨h,i,rfl,_⟩:=y;have z:=fQ (j8 w (fP #[fG d e.R.length cs,fF fN e.G,fG f e.E.length cg,fG h e.a3.length i,fH e.L] 26) (fP #[fF fN op,fF fO (n:Int),fG fU 0 0,fG fU 0 0] 164));have A:=fQ ((gO.a4 w 26 #[fG d e.R.length cs,fF fN e.G,fG f e.E.length cg,fG h e.a3.length i,fH e.L]).alloc (fP #[fF fN op,fF fO (n:Int),fG fU 0 0,fG fU 0 0] 164));have B:=fQ (gO.X (w.alloc (fP #[fG d e.R.length cs,fF fN e.G,fG f e.E.length cg,fG h e.a3.length i,fH e.L] 26)) (N:=w.heap.size+1) 164 #[fF fN op,fF fO (n:Int),fG fU 0 0,fG fU 0 0] fz);clear h1 h2;have J:=fQ (show(gQ op).isSome=gm from hg);have K:=fQ (show fV op = fI #[fF fN 0,fF fN 0,fH gm,fH gm] by unfold fV;rw[v]);have ak:(op == 256)=gm:=fw;have al:(op == 258)=gm:=fw;have ao:(op == 27)=gm:=fw;have aq:(op == 35)=gm:=fw;have ar:(op == 36)=gm:=fw;have g16:(op == 16)=gj:=(by simp[u]);clear hg v u;obtain⟨C,j⟩:∃ F:Option (List Int×List Int),((e.R[n]?).map fun g=>(g.a1,g.out))=F:=⟨_,rfl⟩;rw[j];have D:=fQ j;clear j;go_in;go_wp2_with fail;refine(kV op _).mono ?_;rintro L w1 ⟨A1,c1,rfl,E,c⟩;rw[J.out];have a:=fQ (z.trans (c.mono z.out.size));have b:=fQ (A.C c A.lt);have k:=fQ (B.C c B.lt);have HR:=fQ E;clear c E;have f0:=k.cell 0;have f1:=k.cell 1;simp at f0 f1;have y1:=k.lt;have e0:=b.cell 0;have e2:=b.cell 2;have M:=b.cell 3;have O:=b.cell 4;simp at e0 e2 M O;go_wp2_with fail;refine gu (gK op _) ?_;rw[K.out];have hl:=H1.kj;by_cases l:n<e.R.length
 ·obtain⟨x,m⟩:∃ x,e.R[n]? = gh x:=⟨_,Aj l⟩;have G:¬e.R.length<=n:=fu;have t3:(n:Int)<(e.R.length:Int):=fu;obtain⟨o,go,p,q,rfl,H,I,c1,s0,s1⟩:=H1.a2 m;obtain⟨pA,pc,rfl⟩:=s0.I;obtain⟨qA,qc,rfl⟩:=s1.I;have d0:=(a.cell (p:=⟨o,_,fU⟩) H).trans I;have d1:=(a.cell (p:=⟨o,_,fU⟩) H).trans c1;have r:=fQ (show C=gh (x.a1,x.out) by rw[<-D.out,m];rfl);have Q:=fQ s0.ir;have R:=fQ s1.ir;clear m I c1 s0 s1 l;go_wp2_with fail;go_quiet (fail);go_wp2;go_ret3;exact ju.yes r.out ((Q.C a.out (Av _)).drewN _) ((R.C a.out (Av _)).drewN _) (fK a.out _)
 ·have G:e.R.length<=n:=fu;have r:=fQ (show C=fU by rw[<-D.out,Aq G];try rfl);clear l;go_wp2;go_ret3;exact ju.no r.out (IR.nil _) (IR.nil _) a.out
theorem bYa(e:ia)(s:iu)(m:AX)(op:Int)(n:Nat)(hn:n<18446744073709551616)(w:AQ)(he:iG w m e)(o:op≠256)(p:op≠258)(q:op≠27)(r:op≠35)(t:op≠36)(u:op≠16)(hg:(gQ op).isSome=gm)(v:e.L=gm)(x:acc op=fU):
  AZ fZ 112 #[m,fM #[fF fN op,fF fO (n:Int),fG fU 0 0,fG fU 0 0],fF fN 0] w (ju (fU) w):=by
 obtain⟨va,vb,vd,rfl,h1,h2,y⟩:=he;obtain⟨c,cs,rfl,_⟩:=h1.len;obtain⟨d,cg,rfl⟩:=h2.I;have H3:=fQ y;obtain⟨f,g,rfl,_⟩:=y;have h:=fQ (j8 w (fP #[fG c e.R.length cs,fF fN e.G,fG d e.E.length cg,fG f e.a3.length g,fH e.L] 26) (fP #[fF fN op,fF fO (n:Int),fG fU 0 0,fG fU 0 0] 164));have i:=fQ ((gO.a4 w 26 #[fG c e.R.length cs,fF fN e.G,fG d e.E.length cg,fG f e.a3.length g,fH e.L]).alloc (fP #[fF fN op,fF fO (n:Int),fG fU 0 0,fG fU 0 0] 164));have j:=fQ (gO.X (w.alloc (fP #[fG c e.R.length cs,fF fN e.G,fG d e.E.length cg,fG f e.a3.length g,fH e.L] 26)) (N:=w.heap.size+1) 164 #[fF fN op,fF fO (n:Int),fG fU 0 0,fG fU 0 0] fz);clear h1 h2;have A:=fQ (show(gQ op).isSome=gm from hg);have B:=fQ (show fV op = fI #[fF fN 0,fF fN 0,fH gm,fH gm] by unfold fV;rw[x]);have aq:(op == 256)=gm:=(by simp[o]);have ar:(op == 258)=gm:=(by simp[p]);have aw:(op == 27)=gm:=(by simp[q]);have ax:(op == 35)=gm:=(by simp[r]);have ay:(op == 36)=gm:=(by simp[t]);have g16:(op == 16)=gm:=(by simp[u]);rw[v]at h i j ⊢;clear v;clear hg x o p q r t u;obtain⟨FF,k⟩:∃ F:Option (List Int×List Int),(fU)=F:=⟨_,rfl⟩;rw[k];have C:=fQ k;clear k;go_in;go_wp2_with fail;refine(kV op _).mono ?_;rintro D w1 ⟨A1,c1,rfl,z,b⟩;rw[A.out];have E:=fQ (h.trans (b.mono h.out.size));have a:=fQ (i.C b i.lt);have l:=fQ (j.C b j.lt);clear b z;have f0:=l.cell 0;have f1:=l.cell 1;simp at f0 f1;have e0:=a.cell 0;have e2:=a.cell 2;have G:=a.cell 3;have H:=a.cell 4;simp at e0 e2 G H;go_wp2_with fail;refine gu (gK op _) ?_;rw[B.out];go_wp2;go_ret3;exact ju.no C.symm (IR.nil _) (IR.nil _) E.out
theorem bYb(e:ia)(s:iu)(o:AX)(op:Int)(n:Nat)(hn:n<18446744073709551616)(w:AQ)(he:iG w o e)(p:op≠256)(q:op≠258)(r:op≠27)(t:op≠35)(u:op≠36)(v:op≠16)(hg:(gQ op).isSome=gm)(x:e.L=gm)(k wd:Int)(st B:Bool)(y:acc op=gh (k,wd,st,B)):
  AZ fZ 112 #[o,fM #[fF fN op,fF fO (n:Int),fG fU 0 0,fG fU 0 0],fF fN 0] w (ju (fU) w):=by
 obtain⟨va,vb,vd,rfl,h1,h2,z⟩:=he;obtain⟨c,cs,rfl,_⟩:=h1.len;obtain⟨d,cg,rfl⟩:=h2.I;have H3:=fQ z;obtain⟨f,g,rfl,_⟩:=z;have h:=fQ (j8 w (fP #[fG c e.R.length cs,fF fN e.G,fG d e.E.length cg,fG f e.a3.length g,fH e.L] 26) (fP #[fF fN op,fF fO (n:Int),fG fU 0 0,fG fU 0 0] 164));have i:=fQ ((gO.a4 w 26 #[fG c e.R.length cs,fF fN e.G,fG d e.E.length cg,fG f e.a3.length g,fH e.L]).alloc (fP #[fF fN op,fF fO (n:Int),fG fU 0 0,fG fU 0 0] 164));have j:=fQ (gO.X (w.alloc (fP #[fG c e.R.length cs,fF fN e.G,fG d e.E.length cg,fG f e.a3.length g,fH e.L] 26)) (N:=w.heap.size+1) 164 #[fF fN op,fF fO (n:Int),fG fU 0 0,fG fU 0 0] fz);clear h1 h2;have C:=fQ (show(gQ op).isSome=gm from hg);have D:=fQ (show fV op = fI #[fF fN k,fF fN wd,fH st,fH gj] by unfold fV;rw[y]);have aq:(op == 256)=gm:=(by simp[p]);have ar:(op == 258)=gm:=(by simp[q]);have aw:(op == 27)=gm:=(by simp[r]);have ax:(op == 35)=gm:=(by simp[t]);have ay:(op == 36)=gm:=(by simp[u]);have g16:(op == 16)=gm:=(by simp[v]);rw[x]at h i j ⊢;clear x;clear hg y p q r t u v;obtain⟨FF,l⟩:∃ F:Option (List Int×List Int),(fU)=F:=⟨_,rfl⟩;rw[l];have E:=fQ l;clear l;go_in;go_wp2_with fail;refine(kV op _).mono ?_;rintro G w1 ⟨A1,c1,rfl,A,b⟩;rw[C.out];have H:=fQ (h.trans (b.mono h.out.size));have a:=fQ (i.C b i.lt);have m:=fQ (j.C b j.lt);clear b A;have f0:=m.cell 0;have f1:=m.cell 1;simp at f0 f1;have e0:=a.cell 0;have e2:=a.cell 2;have I:=a.cell 3;have J:=a.cell 4;simp at e0 e2 I J;go_wp2_with fail;refine gu (gK op _) ?_;rw[D.out];go_wp2;go_ret3;exact ju.no E.symm (IR.nil _) (IR.nil _) H.out
theorem dZj(e:ia)(s:iu)(q:AX)(op:Int)(n:Nat)(hn:n<18446744073709551616)(w:AQ)(he:iG w q e)(r:op=257)(hg:(gQ op).isSome=gm)(t:e.L=gj)(u:acc op=fU):
  AZ fZ 112 #[q,fM #[fF fN op,fF fO (n:Int),fG fU 0 0,fG fU 0 0],fF fN 0] w (ju (if n<=8589934592 then gh ([127],[])else fU) w):=by
 obtain⟨va,vb,vd,rfl,h1,h2,v⟩:=he;obtain⟨f,cs,rfl,_⟩:=h1.len;obtain⟨g,cg,rfl⟩:=h2.I;have H3:=fQ v;obtain⟨h,i,rfl,_⟩:=v;have j:=fQ (j8 w (fP #[fG f e.R.length cs,fF fN e.G,fG g e.E.length cg,fG h e.a3.length i,fH e.L] 26) (fP #[fF fN op,fF fO (n:Int),fG fU 0 0,fG fU 0 0] 164));have k:=fQ ((gO.a4 w 26 #[fG f e.R.length cs,fF fN e.G,fG g e.E.length cg,fG h e.a3.length i,fH e.L]).alloc (fP #[fF fN op,fF fO (n:Int),fG fU 0 0,fG fU 0 0] 164));have l:=fQ (gO.X (w.alloc (fP #[fG f e.R.length cs,fF fN e.G,fG g e.E.length cg,fG h e.a3.length i,fH e.L] 26)) (N:=w.heap.size+1) 164 #[fF fN op,fF fO (n:Int),fG fU 0 0,fG fU 0 0] fz);clear h1 h2;have z:=fQ (show(gQ op).isSome=gm from hg);have A:=fQ (show fV op = fI #[fF fN 0,fF fN 0,fH gm,fH gm] by unfold fV;rw[u]);have aj:(op == 256)=gm:=fw;have ak:(op == 258)=gm:=fw;have an:(op == 27)=gm:=fw;have ao:(op == 35)=gm:=fw;have aq:(op == 36)=gm:=fw;have g16:(op == 16)=gm:=fw;have al:(op == 257)=gj:=(by simp[r]);have ar:(op == 63)=gm:=fw;have kF:(op == 64)=gm:=fw;rw[t]at j k l ⊢;clear t;clear hg u r;obtain⟨FF,m⟩:∃ F:Option (List Int×List Int),(if n<=8589934592 then gh ([127],[])else fU)=F:=⟨_,rfl⟩;rw[m];have x:=fQ m;clear m;go_in;go_wp2_with fail;refine(kV op _).mono ?_;rintro B w1 ⟨A1,c1,rfl,y,c⟩;rw[z.out];have d:=fQ (j.trans (c.mono j.out.size));have b:=fQ (k.C c k.lt);have o:=fQ (l.C c l.lt);clear c y;have f0:=o.cell 0;have f1:=o.cell 1;simp at f0 f1;have y1:=o.lt;have e0:=b.cell 0;have e2:=b.cell 2;have C:=b.cell 3;have D:=b.cell 4;simp at e0 e2 C D;go_wp2_with fail;refine gu (gK op _) ?_;rw[A.out];by_cases a:n<=8589934592
 ·have E:=fVm a;have p:=fQ (x.symm.trans (gz a));clear a;go_wp2_with fail;go_region
  all_goals
   go_wp2;go_ret3;exact ju.yes p.out ((IR.one (gO.a4 _ _ _)).drew) (IR.nil _) ((d.alloc d.out.size _).drew)
 ·have E:=fVn a;have p:=fQ (x.symm.trans (gy a));clear a;go_wp2_with fail;go_region
  all_goals
   go_wp2;go_ret3;exact ju.no p.out ((IR.one (gO.a4 _ _ _)).drew) (IR.nil _) ((d.alloc d.out.size _).drew)
theorem bKr(e:ia)(s:iu)(r:AX)(op:Int)(n:Nat)(hn:n<18446744073709551616)(w:AQ)(he:iG w r e)(t:op≠256)(u:op≠258)(v:op≠27)(x:op≠35)(y:op≠36)(z:op≠16)(A:op≠257)(hg:(gQ op).isSome=gm)(B:e.L=gj)(k wd:Int)(H:Bool)(C:acc op=gh (k,wd,gj,H)):
  AZ fZ 112 #[r,fM #[fF fN op,fF fO (n:Int),fG fU 0 0,fG fU 0 0],fF fN 0] w (ju (if n<=4294967295 then gh ([127,k],[])else fU) w):=by
 obtain⟨va,vb,vd,rfl,h1,h2,D⟩:=he;obtain⟨f,cs,rfl,_⟩:=h1.len;obtain⟨g,cg,rfl⟩:=h2.I;have H3:=fQ D;obtain⟨h,i,rfl,_⟩:=D;have j:=fQ (j8 w (fP #[fG f e.R.length cs,fF fN e.G,fG g e.E.length cg,fG h e.a3.length i,fH e.L] 26) (fP #[fF fN op,fF fO (n:Int),fG fU 0 0,fG fU 0 0] 164));have l:=fQ ((gO.a4 w 26 #[fG f e.R.length cs,fF fN e.G,fG g e.E.length cg,fG h e.a3.length i,fH e.L]).alloc (fP #[fF fN op,fF fO (n:Int),fG fU 0 0,fG fU 0 0] 164));have m:=fQ (gO.X (w.alloc (fP #[fG f e.R.length cs,fF fN e.G,fG g e.E.length cg,fG h e.a3.length i,fH e.L] 26)) (N:=w.heap.size+1) 164 #[fF fN op,fF fO (n:Int),fG fU 0 0,fG fU 0 0] fz);clear h1 h2;have I:=fQ (show(gQ op).isSome=gm from hg);have J:=fQ (show fV op = fI #[fF fN k,fF fN wd,fH gj,fH gj] by unfold fV;rw[C]);have au:(op == 256)=gm:=(by simp[t]);have aw:(op == 258)=gm:=(by simp[u]);have ay:(op == 27)=gm:=(by simp[v]);have az:(op == 35)=gm:=(by simp[x]);have aA:(op == 36)=gm:=(by simp[y]);have g16:(op == 16)=gm:=(by simp[z]);have ax:(op == 257)=gm:=(by simp[A]);rw[B]at j l m ⊢;clear B;clear hg C t u v x y z A;obtain⟨FF,o⟩:∃ F:Option (List Int×List Int),(if n<=4294967295 then gh ([127,k],[])else fU)=F:=⟨_,rfl⟩;rw[o];have E:=fQ o;clear o;go_in;go_wp2_with fail;refine(kV op _).mono ?_;rintro K w1 ⟨A1,c1,rfl,G,c⟩;rw[I.out];have d:=fQ (j.trans (c.mono j.out.size));have b:=fQ (l.C c l.lt);have p:=fQ (m.C c m.lt);clear c G;have f0:=p.cell 0;have f1:=p.cell 1;simp at f0 f1;have y1:=p.lt;have e0:=b.cell 0;have e2:=b.cell 2;have L:=b.cell 3;have M:=b.cell 4;simp at e0 e2 L M;go_wp2_with fail;refine gu (gK op _) ?_;rw[J.out];by_cases a:n<=4294967295
 ·have O:=fXa a;have q:=fQ (E.symm.trans (gz a));clear a;go_wp2_with fail;go_region
  all_goals
   go_wp2;go_ret3;exact ju.yes q.out ((IR.two (gO.a4 _ _ _)).drew) (IR.nil _) ((d.alloc d.out.size _).drew)
 ·have O:=fXb a;have q:=fQ (E.symm.trans (gy a));clear a;go_wp2_with fail;go_region
  all_goals
   go_wp2;go_ret3;exact ju.no q.out ((IR.two (gO.a4 _ _ _)).drew) (IR.nil _) ((d.alloc d.out.size _).drew)
theorem bJf(e:ia)(s:iu)(r:AX)(op:Int)(n:Nat)(hn:n<18446744073709551616)(w:AQ)(he:iG w r e)(t:op≠256)(u:op≠258)(v:op≠27)(x:op≠35)(y:op≠36)(z:op≠16)(A:op≠257)(hg:(gQ op).isSome=gm)(B:e.L=gj)(k wd:Int)(H:Bool)(C:acc op=gh (k,wd,gm,H)):
  AZ fZ 112 #[r,fM #[fF fN op,fF fO (n:Int),fG fU 0 0,fG fU 0 0],fF fN 0] w (ju (if n<=4294967295 then gh ([127],[k])else fU) w):=by
 obtain⟨va,vb,vd,rfl,h1,h2,D⟩:=he;obtain⟨g,cs,rfl,_⟩:=h1.len;obtain⟨h,cg,rfl⟩:=h2.I;have H3:=fQ D;obtain⟨i,j,rfl,_⟩:=D;have l:=fQ (j8 w (fP #[fG g e.R.length cs,fF fN e.G,fG h e.E.length cg,fG i e.a3.length j,fH e.L] 26) (fP #[fF fN op,fF fO (n:Int),fG fU 0 0,fG fU 0 0] 164));have m:=fQ ((gO.a4 w 26 #[fG g e.R.length cs,fF fN e.G,fG h e.E.length cg,fG i e.a3.length j,fH e.L]).alloc (fP #[fF fN op,fF fO (n:Int),fG fU 0 0,fG fU 0 0] 164));have o:=fQ (gO.X (w.alloc (fP #[fG g e.R.length cs,fF fN e.G,fG h e.E.length cg,fG i e.a3.length j,fH e.L] 26)) (N:=w.heap.size+1) 164 #[fF fN op,fF fO (n:Int),fG fU 0 0,fG fU 0 0] fz);clear h1 h2;have I:=fQ (show(gQ op).isSome=gm from hg);have J:=fQ (show fV op = fI #[fF fN k,fF fN wd,fH gm,fH gj] by unfold fV;rw[C]);have au:(op == 256)=gm:=(by simp[t]);have aw:(op == 258)=gm:=(by simp[u]);have ay:(op == 27)=gm:=(by simp[v]);have az:(op == 35)=gm:=(by simp[x]);have aA:(op == 36)=gm:=(by simp[y]);have g16:(op == 16)=gm:=(by simp[z]);have ax:(op == 257)=gm:=(by simp[A]);rw[B]at l m o ⊢;clear B;clear hg C t u v x y z A;obtain⟨FF,p⟩:∃ F:Option (List Int×List Int),(if n<=4294967295 then gh ([127],[k])else fU)=F:=⟨_,rfl⟩;rw[p];have E:=fQ p;clear p;go_in;go_wp2_with fail;refine(kV op _).mono ?_;rintro K w1 ⟨A1,c1,rfl,G,f⟩;rw[I.out];have a:=fQ (l.trans (f.mono l.out.size));have c:=fQ (m.C f m.lt);have q:=fQ (o.C f o.lt);clear f G;have f0:=q.cell 0;have f1:=q.cell 1;simp at f0 f1;have y1:=q.lt;have e0:=c.cell 0;have e2:=c.cell 2;have L:=c.cell 3;have M:=c.cell 4;simp at e0 e2 L M;have y2:=c.lt;go_wp2_with fail;refine gu (gK op _) ?_;rw[J.out];by_cases b:n<=4294967295
 ·have O:=fXa b;have d:=fQ (E.symm.trans (gz b));clear b;go_wp2_with fail;go_region
  all_goals
   go_wp2;go_ret3
   first
    | exact ju.yes d.out (gO.alloc (gO.a4 _ _ _) _ |> IR.one).drew (IR.one (gO.X _ _ _ fz)).drew ((a.alloc a.out.size _).alloc (by simp;have:=a.out.size;omega) _).drew
    | exact ju.yes d.out (IR.one (gO.X _ _ _ fz)).drew (gO.alloc (gO.a4 _ _ _) _ |> IR.one).drew ((a.alloc a.out.size _).alloc (by simp;have:=a.out.size;omega) _).drew
 ·have O:=fXb b;have d:=fQ (E.symm.trans (gy b));clear b;go_wp2_with fail;go_region
  all_goals
   go_wp2;go_ret3
   first
    | exact ju.no d.out (gO.alloc (gO.a4 _ _ _) _ |> IR.one).drew (IR.one (gO.X _ _ _ fz)).drew ((a.alloc a.out.size _).alloc (by simp;have:=a.out.size;omega) _).drew
    | exact ju.no d.out (IR.one (gO.X _ _ _ fz)).drew (gO.alloc (gO.a4 _ _ _) _ |> IR.one).drew ((a.alloc a.out.size _).alloc (by simp;have:=a.out.size;omega) _).drew
theorem eQr(e:ia)(s:iu)(q:AX)(op:Int)(n:Nat)(hn:n<18446744073709551616)(w:AQ)(he:iG w q e)(r:op=63)(hg:(gQ op).isSome=gm)(t:e.L=gj)(u:acc op=fU):
  AZ fZ 112 #[q,fM #[fF fN op,fF fO (n:Int),fG fU 0 0,fG fU 0 0],fF fN 0] w (ju (if n=0 then gh ([],[127])else fU) w):=by
 obtain⟨va,vb,vd,rfl,h1,h2,v⟩:=he;obtain⟨f,cs,rfl,_⟩:=h1.len;obtain⟨g,cg,rfl⟩:=h2.I;have H3:=fQ v;obtain⟨h,i,rfl,_⟩:=v;have j:=fQ (j8 w (fP #[fG f e.R.length cs,fF fN e.G,fG g e.E.length cg,fG h e.a3.length i,fH e.L] 26) (fP #[fF fN op,fF fO (n:Int),fG fU 0 0,fG fU 0 0] 164));have k:=fQ ((gO.a4 w 26 #[fG f e.R.length cs,fF fN e.G,fG g e.E.length cg,fG h e.a3.length i,fH e.L]).alloc (fP #[fF fN op,fF fO (n:Int),fG fU 0 0,fG fU 0 0] 164));have l:=fQ (gO.X (w.alloc (fP #[fG f e.R.length cs,fF fN e.G,fG g e.E.length cg,fG h e.a3.length i,fH e.L] 26)) (N:=w.heap.size+1) 164 #[fF fN op,fF fO (n:Int),fG fU 0 0,fG fU 0 0] fz);clear h1 h2;have z:=fQ (show(gQ op).isSome=gm from hg);have A:=fQ (show fV op = fI #[fF fN 0,fF fN 0,fH gm,fH gm] by unfold fV;rw[u]);have aj:(op == 256)=gm:=fw;have ak:(op == 258)=gm:=fw;have an:(op == 27)=gm:=fw;have ao:(op == 35)=gm:=fw;have aq:(op == 36)=gm:=fw;have g16:(op == 16)=gm:=fw;have al:(op == 257)=gm:=fw;have ar:(op == 63)=gj:=(by simp[r]);have kF:(op == 64)=gm:=fw;rw[t]at j k l ⊢;clear t;clear hg u r;obtain⟨FF,m⟩:∃ F:Option (List Int×List Int),(if n=0 then gh ([],[127])else fU)=F:=⟨_,rfl⟩;rw[m];have x:=fQ m;clear m;go_in;go_wp2_with fail;refine(kV op _).mono ?_;rintro B w1 ⟨A1,c1,rfl,y,c⟩;rw[z.out];have d:=fQ (j.trans (c.mono j.out.size));have b:=fQ (k.C c k.lt);have o:=fQ (l.C c l.lt);clear c y;have f0:=o.cell 0;have f1:=o.cell 1;simp at f0 f1;have y1:=o.lt;have e0:=b.cell 0;have e2:=b.cell 2;have C:=b.cell 3;have D:=b.cell 4;simp at e0 e2 C D;go_wp2_with fail;refine gu (gK op _) ?_;rw[A.out];by_cases a:n=0
 ·have E:=nm a;have p:=fQ (x.symm.trans (gz a));clear a;go_wp2_with fail;go_region
  all_goals
   go_wp2;go_ret3;exact ju.yes p.out (IR.nil _) ((IR.one (gO.a4 _ _ _)).drew) ((d.alloc d.out.size _).drew)
 ·have E:=nn a;have p:=fQ (x.symm.trans (gy a));clear a;go_wp2_with fail;go_region
  all_goals
   go_wp2;go_ret3;exact ju.no p.out (IR.nil _) ((IR.one (gO.a4 _ _ _)).drew) ((d.alloc d.out.size _).drew)
theorem eQs(e:ia)(s:iu)(q:AX)(op:Int)(n:Nat)(hn:n<18446744073709551616)(w:AQ)(he:iG w q e)(r:op=64)(hg:(gQ op).isSome=gm)(t:e.L=gj)(u:acc op=fU):
  AZ fZ 112 #[q,fM #[fF fN op,fF fO (n:Int),fG fU 0 0,fG fU 0 0],fF fN 0] w (ju (if n=0 then gh ([127],[127])else fU) w):=by
 obtain⟨va,vb,vd,rfl,h1,h2,v⟩:=he;obtain⟨g,cs,rfl,_⟩:=h1.len;obtain⟨h,cg,rfl⟩:=h2.I;have H3:=fQ v;obtain⟨i,j,rfl,_⟩:=v;have k:=fQ (j8 w (fP #[fG g e.R.length cs,fF fN e.G,fG h e.E.length cg,fG i e.a3.length j,fH e.L] 26) (fP #[fF fN op,fF fO (n:Int),fG fU 0 0,fG fU 0 0] 164));have l:=fQ ((gO.a4 w 26 #[fG g e.R.length cs,fF fN e.G,fG h e.E.length cg,fG i e.a3.length j,fH e.L]).alloc (fP #[fF fN op,fF fO (n:Int),fG fU 0 0,fG fU 0 0] 164));have m:=fQ (gO.X (w.alloc (fP #[fG g e.R.length cs,fF fN e.G,fG h e.E.length cg,fG i e.a3.length j,fH e.L] 26)) (N:=w.heap.size+1) 164 #[fF fN op,fF fO (n:Int),fG fU 0 0,fG fU 0 0] fz);clear h1 h2;have z:=fQ (show(gQ op).isSome=gm from hg);have A:=fQ (show fV op = fI #[fF fN 0,fF fN 0,fH gm,fH gm] by unfold fV;rw[u]);have aj:(op == 256)=gm:=fw;have ak:(op == 258)=gm:=fw;have an:(op == 27)=gm:=fw;have ao:(op == 35)=gm:=fw;have aq:(op == 36)=gm:=fw;have g16:(op == 16)=gm:=fw;have al:(op == 257)=gm:=fw;have ar:(op == 63)=gm:=fw;have kF:(op == 64)=gj:=(by simp[r]);rw[t]at k l m ⊢;clear t;clear hg u r;obtain⟨FF,o⟩:∃ F:Option (List Int×List Int),(if n=0 then gh ([127],[127])else fU)=F:=⟨_,rfl⟩;rw[o];have x:=fQ o;clear o;go_in;go_wp2_with fail;refine(kV op _).mono ?_;rintro B w1 ⟨A1,c1,rfl,y,f⟩;rw[z.out];have a:=fQ (k.trans (f.mono k.out.size));have c:=fQ (l.C f l.lt);have p:=fQ (m.C f m.lt);clear f y;have f0:=p.cell 0;have f1:=p.cell 1;simp at f0 f1;have y1:=p.lt;have e0:=c.cell 0;have e2:=c.cell 2;have C:=c.cell 3;have D:=c.cell 4;simp at e0 e2 C D;have y2:=c.lt;go_wp2_with fail;refine gu (gK op _) ?_;rw[A.out];by_cases b:n=0
 ·have E:=nm b;have d:=fQ (x.symm.trans (gz b));clear b;go_wp2_with fail;go_region
  all_goals
   go_wp2;go_ret3
   first
    | exact ju.yes d.out (gO.alloc (gO.a4 _ _ _) _ |> IR.one).drew (IR.one (gO.X _ _ _ fz)).drew ((a.alloc a.out.size _).alloc (by simp;have:=a.out.size;omega) _).drew
    | exact ju.yes d.out (IR.one (gO.X _ _ _ fz)).drew (gO.alloc (gO.a4 _ _ _) _ |> IR.one).drew ((a.alloc a.out.size _).alloc (by simp;have:=a.out.size;omega) _).drew
 ·have E:=nn b;have d:=fQ (x.symm.trans (gy b));clear b;go_wp2_with fail;go_region
  all_goals
   go_wp2;go_ret3
   first
    | exact ju.no d.out (gO.alloc (gO.a4 _ _ _) _ |> IR.one).drew (IR.one (gO.X _ _ _ fz)).drew ((a.alloc a.out.size _).alloc (by simp;have:=a.out.size;omega) _).drew
    | exact ju.no d.out (IR.one (gO.X _ _ _ fz)).drew (gO.alloc (gO.a4 _ _ _) _ |> IR.one).drew ((a.alloc a.out.size _).alloc (by simp;have:=a.out.size;omega) _).drew
theorem cWd(e:ia)(s:iu)(m:AX)(op:Int)(n:Nat)(hn:n<18446744073709551616)(w:AQ)(he:iG w m e)(o:op≠256)(p:op≠258)(q:op≠27)(r:op≠35)(t:op≠36)(u:op≠16)(v:op≠257)(x:op≠63)(mr:op≠64)(hg:(gQ op).isSome=gm)(y:e.L=gj)(z:acc op=fU):
  AZ fZ 112 #[m,fM #[fF fN op,fF fO (n:Int),fG fU 0 0,fG fU 0 0],fF fN 0] w (ju (fU) w):=by
 obtain⟨va,vb,vd,rfl,h1,h2,A⟩:=he;obtain⟨c,cs,rfl,_⟩:=h1.len;obtain⟨d,cg,rfl⟩:=h2.I;have H3:=fQ A;obtain⟨f,g,rfl,_⟩:=A;have h:=fQ (j8 w (fP #[fG c e.R.length cs,fF fN e.G,fG d e.E.length cg,fG f e.a3.length g,fH e.L] 26) (fP #[fF fN op,fF fO (n:Int),fG fU 0 0,fG fU 0 0] 164));have i:=fQ ((gO.a4 w 26 #[fG c e.R.length cs,fF fN e.G,fG d e.E.length cg,fG f e.a3.length g,fH e.L]).alloc (fP #[fF fN op,fF fO (n:Int),fG fU 0 0,fG fU 0 0] 164));have j:=fQ (gO.X (w.alloc (fP #[fG c e.R.length cs,fF fN e.G,fG d e.E.length cg,fG f e.a3.length g,fH e.L] 26)) (N:=w.heap.size+1) 164 #[fF fN op,fF fO (n:Int),fG fU 0 0,fG fU 0 0] fz);clear h1 h2;have C:=fQ (show(gQ op).isSome=gm from hg);have D:=fQ (show fV op = fI #[fF fN 0,fF fN 0,fH gm,fH gm] by unfold fV;rw[z]);have au:(op == 256)=gm:=(by simp[o]);have aw:(op == 258)=gm:=(by simp[p]);have az:(op == 27)=gm:=(by simp[q]);have aA:(op == 35)=gm:=(by simp[r]);have aB:(op == 36)=gm:=(by simp[t]);have g16:(op == 16)=gm:=(by simp[u]);have ax:(op == 257)=gm:=(by simp[v]);have aC:(op == 63)=gm:=(by simp[x]);have kF:(op == 64)=gm:=(by simp[mr]);rw[y]at h i j ⊢;clear y;clear hg z o p q r t u v x mr;obtain⟨FF,k⟩:∃ F:Option (List Int×List Int),(fU)=F:=⟨_,rfl⟩;rw[k];have E:=fQ k;clear k;go_in;go_wp2_with fail;refine(kV op _).mono ?_;rintro G w1 ⟨A1,c1,rfl,B,b⟩;rw[C.out];have H:=fQ (h.trans (b.mono h.out.size));have a:=fQ (i.C b i.lt);have l:=fQ (j.C b j.lt);clear b B;have f0:=l.cell 0;have f1:=l.cell 1;simp at f0 f1;have e0:=a.cell 0;have e2:=a.cell 2;have I:=a.cell 3;have J:=a.cell 4;simp at e0 e2 I J;go_wp2_with fail;refine gu (gK op _) ?_;rw[D.out];go_wp2;go_ret3;exact ju.no E.symm (IR.nil _) (IR.nil _) H.out
theorem dZk{x:Int×Int×Bool×Bool}(h:acc op=gh x):40<=op/\op<=62:=by
 unfold acc at h;obtain⟨r,a,_⟩:=Option.map_eq_some_iff.1 h;have h1:=AJ a;have h2:=Ay a;have b:∀ r∈oy,40<=r.1/\r.1<=62:=fy;have h4:=b r h2;simp at h1;omega
theorem dZl{g:Int×Int×Int×Int}(h:gQ op=gh g):69<=op:=by
 unfold gQ at h;have h1:=AJ h;have h2:=Ay h;have a:∀ r∈uV,69<=r.1:=fy;have h4:=a g h2;unfold mC at h1;simp at h1;omega
theorem rB(h:op<40\/62<op):acc op=fU:=by
 cases ha:acc op with
 | none=>rfl
 | some x=>have:=dZk ha;omega
theorem cQi:∀ op ∈ [(256:Int),257,258],(gQ op).isSome=gm:=fy
theorem dZm{e:ia}{s:iu}(h1:op≠256)(h2:op<272\/277<op)(a:op≠258)(b:op≠27)(c:op≠16)(d:op≠35)(f:op≠36)(hg:(gQ op).isSome=gm):iV e s op n=mW e.L op n:=by
 unfold iV;simp only[show op≠272 by omega,show op≠273 by omega,show op≠274 by omega,show op≠275 by omega,show op≠276 by omega,show op≠277 by omega,h1,a,b,c,d,f,hg,if_false,or_self,Bool.false_eq_true]
theorem dZn(e:ia)(s:iu)(a:AX)(op:Int)(n:Nat)(hn:n<18446744073709551616)(w:AQ)(he:iG w a e)(r:e.a3.length=e.E.length)(d:op≠256)(m:op≠27)(t:op<272\/277<op):
  AZ fZ 112 #[a,fM #[fF fN op,fF fO (n:Int),fG fU 0 0,fG fU 0 0],fF fN 0] w (ju (iV e s op n) w):=by
 by_cases c:op=258
 ·have h:=cWc e s a op n hn w he c (by rw[c];exact cQi 258 fz) (rB fu);subst c;exact h
 cases hg:(gQ op).isSome with
 | true=>
  obtain⟨g,u⟩:=Option.isSome_iff_exists.1 hg;have an:=dZl u;have h:=dZi e s a op n hn w he d c hg (rB fu)
  have b:iV e s op n=if n=0 then gh (gJ op,[mX op])else fU:=by
   unfold iV;simp only[show op≠272 by omega,show op≠273 by omega,show op≠274 by omega,show op≠275 by omega,show op≠276 by omega,show op≠277 by omega,d,c,m,show op≠16 by omega,show op≠35 by omega,show op≠36 by omega,hg,if_false,or_self,if_true]
  rw[b];exact h
 | false=>
  by_cases f:op=35
  ·have h:=eQo e s a op n hn w he f hg (rB fu) r;subst f;exact h
  by_cases i:op=36
  ·have h:=eQp e s a op n hn w he i hg (rB fu) r;subst i;exact h
  by_cases j:op=16
  ·have h:=eQq e s a op n hn w he j hg (rB fu);subst j;exact h
  rw[dZm d t c m j f i hg]
  cases l:e.L with
  | false=>
   have b:mW gm op n=fU:=(by simp[mW]);rw[b]
   cases ha:acc op with
   | none=>exact bYa e s a op n hn w he d c m f i j hg l ha
   | some x=>
    obtain⟨k,wd,st,p⟩:=x;exact bYb e s a op n hn w he d c m f i j hg l k wd st p ha
  | true=>
   by_cases o:op=257
   ·have h:=dZj e s a op n hn w he o hg l (rB fu);have b:mW gj op n=if n<=8589934592 then gh ([127],[])else fU:=(by simp[mW,o]);rw[b];exact h
   cases ha:acc op with
   | some x=>
    obtain⟨k,wd,st,p⟩:=x;have b:mW gj op n=if n<=4294967295 then gh (if st then([127,k],[])else([127],[k]))else fU:=(by simp[mW,o,ha]);rw[b]
    cases st with
    | true=>exact bKr e s a op n hn w he d c m f i j o hg l k wd p ha
    | false=>exact bJf e s a op n hn w he d c m f i j o hg l k wd p ha
   | none=>
    by_cases q:op=63
    ·have h:=eQr e s a op n hn w he q hg l ha;have b:mW gj op n=if n=0 then gh ([],[127])else fU:=(by subst q;simp[mW,ha]);rw[b];exact h
    by_cases mr:op=64
    ·have h:=eQs e s a op n hn w he mr hg l ha;have b:mW gj op n=if n=0 then gh ([127],[127])else fU:=(by subst mr;simp[mW,ha]);rw[b];exact h
    have b:mW gj op n=fU:=(by simp[mW,o,ha,q,mr]);rw[b];exact cWd e s a op n hn w he d c m f i j o q mr hg l ha
theorem dZo(e:ia)(s:iu)(c:gP)(h vs vc:AX)(w:AQ)(he:iG w h e)(hs:jq w vs s)(hc:jz w vc c)(i:e.a3.length=e.E.length)(j:c.op=272):
  AZ fZ 86 #[h,vs,vc] w (ju (if c.n=0 then gh ([0],[0])else fU) w):=by
 have HE:=fQ he;obtain⟨va,vb,vd,rfl,h1,h2,o⟩:=he;obtain⟨r,cs,rfl,_⟩:=h1.len;obtain⟨t,cg,rfl⟩:=h2.I;obtain⟨u,v,rfl,_⟩:=o;obtain⟨p,q,rfl,k,f⟩:=hs;obtain⟨x,y,rfl⟩:=k.I;obtain⟨z,A,rfl⟩:=f.I;obtain⟨p,q,tt,rfl,l,s1,s2,s3⟩:=hc;obtain⟨B,C,rfl⟩:=s1.I;obtain⟨D,E,rfl⟩:=s2.I;obtain⟨G,tc,rfl⟩:=s3.I;have a:=fQ (mh w (fP #[fG r e.R.length cs,fF fN e.G,fG t e.E.length cg,fG u e.a3.length v,fH e.L] 26) (fP #[fG x s.a1.length y,fG z s.out.length A] 62) (fP #[fF fN c.op,fF fO (c.n:Int),fG B c.args.length C,fG D c.O.length E,fG G c.to.length tc] 86));clear h1 h2 k f s1 s2 s3 l i;have ag:(c.op == 272)=gj:=(by simp[j]);clear j;obtain⟨FF,g⟩:∃ F:Option (List Int×List Int),(if c.n=0 then gh ([0],[0])else fU)=F:=⟨_,rfl⟩;rw[g];have m:=fQ g;clear g;go_in;by_cases b:c.n=0
 ·have H:=nm b;have d:=fQ (m.symm.trans (gz b));clear b;go_wp2_with fail;go_region
  all_goals
   go_wp2;go_ret3
   first
    | (refine ju.yes d.out (IR.drew (IR.one (gO.alloc (gO.X _ _ _ ?_) _))) (IR.drew (IR.one (gO.X _ _ _ ?_))) (Aw ((a.alloc a.out.size _).alloc ?_ _)) <;> ((try simp);(try omega);done))
    | (refine ju.yes d.out (IR.drew (IR.one (gO.X _ _ _ ?_))) (IR.drew (IR.one (gO.alloc (gO.X _ _ _ ?_) _))) (Aw ((a.alloc a.out.size _).alloc ?_ _)) <;> ((try simp);(try omega);done))
 ·have H:=nn b;have d:=fQ (m.symm.trans (gy b));clear b;go_wp2_with fail;go_region
  all_goals
   go_wp2;go_ret3
   first
    | (refine ju.no d.out (IR.drew (IR.one (gO.alloc (gO.X _ _ _ ?_) _))) (IR.drew (IR.one (gO.X _ _ _ ?_))) (Aw ((a.alloc a.out.size _).alloc ?_ _)) <;> ((try simp);(try omega);done))
    | (refine ju.no d.out (IR.drew (IR.one (gO.X _ _ _ ?_))) (IR.drew (IR.one (gO.alloc (gO.X _ _ _ ?_) _))) (Aw ((a.alloc a.out.size _).alloc ?_ _)) <;> ((try simp);(try omega);done))
theorem dZp(e:ia)(s:iu)(c:gP)(g vs vc:AX)(w:AQ)(he:iG w g e)(hs:jq w vs s)(hc:jz w vc c)(h:e.a3.length=e.E.length)(i:c.op=273):
  AZ fZ 86 #[g,vs,vc] w (ju (if c.n=0 then gh ([],[])else fU) w):=by
 have HE:=fQ he;obtain⟨va,vb,vd,rfl,h1,h2,o⟩:=he;obtain⟨r,cs,rfl,_⟩:=h1.len;obtain⟨t,cg,rfl⟩:=h2.I;obtain⟨u,v,rfl,_⟩:=o;obtain⟨p,q,rfl,j,b⟩:=hs;obtain⟨x,y,rfl⟩:=j.I;obtain⟨z,A,rfl⟩:=b.I;obtain⟨p,q,tt,rfl,k,s1,s2,s3⟩:=hc;obtain⟨B,C,rfl⟩:=s1.I;obtain⟨D,E,rfl⟩:=s2.I;obtain⟨G,tc,rfl⟩:=s3.I;have l:=fQ (mh w (fP #[fG r e.R.length cs,fF fN e.G,fG t e.E.length cg,fG u e.a3.length v,fH e.L] 26) (fP #[fG x s.a1.length y,fG z s.out.length A] 62) (fP #[fF fN c.op,fF fO (c.n:Int),fG B c.args.length C,fG D c.O.length E,fG G c.to.length tc] 86));clear h1 h2 j b s1 s2 s3 k h;have ag:(c.op == 272)=gm:=fw;have ah:(c.op == 273)=gj:=(by simp[i]);clear i;obtain⟨FF,d⟩:∃ F:Option (List Int×List Int),(if c.n=0 then gh ([],[])else fU)=F:=⟨_,rfl⟩;rw[d];have m:=fQ d;clear d;go_in;by_cases a:c.n=0
 ·have H:=nm a;have f:=fQ (m.symm.trans (gz a));clear a;go_wp2_with fail;go_quiet (fail)
  all_goals
   go_wp2;go_ret3;exact ju.yes f.out (IR.nil _) (IR.nil _) (fK l.out _)
 ·have H:=nn a;have f:=fQ (m.symm.trans (gy a));clear a;go_wp2_with fail;go_quiet (fail)
  all_goals
   go_wp2;go_ret3;exact ju.no f.out (IR.nil _) (IR.nil _) (fK l.out _)
theorem dZq(e:ia)(s:iu)(c:gP)(g vs vc:AX)(w:AQ)(he:iG w g e)(hs:jq w vs s)(hc:jz w vc c)(h:e.a3.length=e.E.length)(i:c.op=277):
  AZ fZ 86 #[g,vs,vc] w (ju (if c.n=0 then gh ([],[])else fU) w):=by
 have HE:=fQ he;obtain⟨va,vb,vd,rfl,h1,h2,o⟩:=he;obtain⟨r,cs,rfl,_⟩:=h1.len;obtain⟨t,cg,rfl⟩:=h2.I;obtain⟨u,v,rfl,_⟩:=o;obtain⟨p,q,rfl,j,b⟩:=hs;obtain⟨x,y,rfl⟩:=j.I;obtain⟨z,A,rfl⟩:=b.I;obtain⟨p,q,tt,rfl,k,s1,s2,s3⟩:=hc;obtain⟨B,C,rfl⟩:=s1.I;obtain⟨D,E,rfl⟩:=s2.I;obtain⟨G,tc,rfl⟩:=s3.I;have l:=fQ (mh w (fP #[fG r e.R.length cs,fF fN e.G,fG t e.E.length cg,fG u e.a3.length v,fH e.L] 26) (fP #[fG x s.a1.length y,fG z s.out.length A] 62) (fP #[fF fN c.op,fF fO (c.n:Int),fG B c.args.length C,fG D c.O.length E,fG G c.to.length tc] 86));clear h1 h2 j b s1 s2 s3 k h;have ag:(c.op == 272)=gm:=fw;have ah:(c.op == 273)=gm:=fw;have ai:(c.op == 277)=gj:=(by simp[i]);clear i;obtain⟨FF,d⟩:∃ F:Option (List Int×List Int),(if c.n=0 then gh ([],[])else fU)=F:=⟨_,rfl⟩;rw[d];have m:=fQ d;clear d;go_in;by_cases a:c.n=0
 ·have H:=nm a;have f:=fQ (m.symm.trans (gz a));clear a;go_wp2_with fail;go_quiet (fail)
  all_goals
   go_wp2;go_ret3;exact ju.yes f.out (IR.nil _) (IR.nil _) (fK l.out _)
 ·have H:=nn a;have f:=fQ (m.symm.trans (gy a));clear a;go_wp2_with fail;go_quiet (fail)
  all_goals
   go_wp2;go_ret3;exact ju.no f.out (IR.nil _) (IR.nil _) (fK l.out _)
theorem dZr(e:ia)(s:iu)(c:gP)(h vs vc:AX)(w:AQ)(he:iG w h e)(hs:jq w vs s)(hc:jz w vc c)(i:e.a3.length=e.E.length)(j:c.op=274):
  AZ fZ 86 #[h,vs,vc] w (ju (if c.n=0 then gh ([127],[])else fU) w):=by
 have HE:=fQ he;obtain⟨va,vb,vd,rfl,h1,h2,o⟩:=he;obtain⟨r,cs,rfl,_⟩:=h1.len;obtain⟨t,cg,rfl⟩:=h2.I;obtain⟨u,v,rfl,_⟩:=o;obtain⟨p,q,rfl,k,d⟩:=hs;obtain⟨x,y,rfl⟩:=k.I;obtain⟨z,A,rfl⟩:=d.I;obtain⟨p,q,tt,rfl,l,s1,s2,s3⟩:=hc;obtain⟨B,C,rfl⟩:=s1.I;obtain⟨D,E,rfl⟩:=s2.I;obtain⟨G,tc,rfl⟩:=s3.I;have b:=fQ (mh w (fP #[fG r e.R.length cs,fF fN e.G,fG t e.E.length cg,fG u e.a3.length v,fH e.L] 26) (fP #[fG x s.a1.length y,fG z s.out.length A] 62) (fP #[fF fN c.op,fF fO (c.n:Int),fG B c.args.length C,fG D c.O.length E,fG G c.to.length tc] 86));clear h1 h2 k d s1 s2 s3 l i;have ag:(c.op == 272)=gm:=fw;have ah:(c.op == 273)=gm:=fw;have ai:(c.op == 277)=gm:=fw;have aj:(c.op == 274)=gj:=(by simp[j]);clear j;obtain⟨FF,f⟩:∃ F:Option (List Int×List Int),(if c.n=0 then gh ([127],[])else fU)=F:=⟨_,rfl⟩;rw[f];have m:=fQ f;clear f;go_in;by_cases a:c.n=0
 ·have H:=nm a;have g:=fQ (m.symm.trans (gz a));clear a;go_wp2_with fail;go_region
  all_goals
   go_wp2;go_ret3;exact ju.yes g.out ((IR.one (gO.X _ _ _ fz)).drew) (IR.nil _) ((b.alloc b.out.size _).drew)
 ·have H:=nn a;have g:=fQ (m.symm.trans (gy a));clear a;go_wp2_with fail;go_region
  all_goals
   go_wp2;go_ret3;exact ju.no g.out ((IR.one (gO.X _ _ _ fz)).drew) (IR.nil _) ((b.alloc b.out.size _).drew)
theorem dZs(e:ia)(s:iu)(c:gP)(h vs vc:AX)(w:AQ)(he:iG w h e)(hs:jq w vs s)(hc:jz w vc c)(i:e.a3.length=e.E.length)(j:c.op=275):
  AZ fZ 86 #[h,vs,vc] w (ju (if c.n=0 then gh ([127],[])else fU) w):=by
 have HE:=fQ he;obtain⟨va,vb,vd,rfl,h1,h2,o⟩:=he;obtain⟨r,cs,rfl,_⟩:=h1.len;obtain⟨t,cg,rfl⟩:=h2.I;obtain⟨u,v,rfl,_⟩:=o;obtain⟨p,q,rfl,k,d⟩:=hs;obtain⟨x,y,rfl⟩:=k.I;obtain⟨z,A,rfl⟩:=d.I;obtain⟨p,q,tt,rfl,l,s1,s2,s3⟩:=hc;obtain⟨B,C,rfl⟩:=s1.I;obtain⟨D,E,rfl⟩:=s2.I;obtain⟨G,tc,rfl⟩:=s3.I;have b:=fQ (mh w (fP #[fG r e.R.length cs,fF fN e.G,fG t e.E.length cg,fG u e.a3.length v,fH e.L] 26) (fP #[fG x s.a1.length y,fG z s.out.length A] 62) (fP #[fF fN c.op,fF fO (c.n:Int),fG B c.args.length C,fG D c.O.length E,fG G c.to.length tc] 86));clear h1 h2 k d s1 s2 s3 l i;have ag:(c.op == 272)=gm:=fw;have ah:(c.op == 273)=gm:=fw;have ai:(c.op == 277)=gm:=fw;have aj:(c.op == 274)=gm:=fw;have ak:(c.op == 275)=gj:=(by simp[j]);clear j;obtain⟨FF,f⟩:∃ F:Option (List Int×List Int),(if c.n=0 then gh ([127],[])else fU)=F:=⟨_,rfl⟩;rw[f];have m:=fQ f;clear f;go_in;by_cases a:c.n=0
 ·have H:=nm a;have g:=fQ (m.symm.trans (gz a));clear a;go_wp2_with fail;go_region
  all_goals
   go_wp2;go_ret3;exact ju.yes g.out ((IR.one (gO.X _ _ _ fz)).drew) (IR.nil _) ((b.alloc b.out.size _).drew)
 ·have H:=nn a;have g:=fQ (m.symm.trans (gy a));clear a;go_wp2_with fail;go_region
  all_goals
   go_wp2;go_ret3;exact ju.no g.out ((IR.one (gO.X _ _ _ fz)).drew) (IR.nil _) ((b.alloc b.out.size _).drew)
theorem dZt(e:ia)(s:iu)(c:gP)(h vs vc:AX)(w:AQ)(he:iG w h e)(hs:jq w vs s)(hc:jz w vc c)(i:e.a3.length=e.E.length)(j:c.op=276):
  AZ fZ 86 #[h,vs,vc] w (ju (if c.n=0 then gh (s.out,[])else fU) w):=by
 have HE:=fQ he;obtain⟨va,vb,vd,rfl,h1,h2,r⟩:=he;obtain⟨t,cs,rfl,_⟩:=h1.len;obtain⟨u,cg,rfl⟩:=h2.I;obtain⟨v,x,rfl,_⟩:=r;obtain⟨p,q,rfl,k,d⟩:=hs;obtain⟨y,z,rfl⟩:=k.I;obtain⟨A,B,rfl⟩:=d.I;have l:=fQ d.ir;obtain⟨p,q,tt,rfl,m,s1,s2,s3⟩:=hc;obtain⟨C,D,rfl⟩:=s1.I;obtain⟨E,G,rfl⟩:=s2.I;obtain⟨H,tc,rfl⟩:=s3.I;have b:=fQ (mh w (fP #[fG t e.R.length cs,fF fN e.G,fG u e.E.length cg,fG v e.a3.length x,fH e.L] 26) (fP #[fG y s.a1.length z,fG A s.out.length B] 62) (fP #[fF fN c.op,fF fO (c.n:Int),fG C c.args.length D,fG E c.O.length G,fG H c.to.length tc] 86));clear h1 h2 k d s1 s2 s3 m i;have ag:(c.op == 272)=gm:=fw;have ah:(c.op == 273)=gm:=fw;have ai:(c.op == 277)=gm:=fw;have aj:(c.op == 274)=gm:=fw;have ak:(c.op == 275)=gm:=fw;have al:(c.op == 276)=gj:=(by simp[j]);clear j;obtain⟨FF,f⟩:∃ F:Option (List Int×List Int),(if c.n=0 then gh (s.out,[])else fU)=F:=⟨_,rfl⟩;rw[f];have o:=fQ f;clear f;go_in;by_cases a:c.n=0
 ·have I:=nm a;have g:=fQ (o.symm.trans (gz a));clear a;go_wp2_with fail;go_quiet (fail)
  all_goals
   go_wp2;go_ret3;exact ju.yes g.out ((l.C b.out (Av _)).drewN _) (IR.nil _) (fK b.out _)
 ·have I:=nn a;have g:=fQ (o.symm.trans (gy a));clear a;go_wp2_with fail;go_quiet (fail)
  all_goals
   go_wp2;go_ret3;exact ju.no g.out ((l.C b.out (Av _)).drewN _) (IR.nil _) (fK b.out _)
theorem eQt(e:ia)(s:iu)(c:gP)(h vs vc:AX)(w:AQ)(he:iG w h e)(hs:jq w vs s)(hc:jz w vc c)(i:e.a3.length=e.E.length)(j:c.op=27):
  AZ fZ 86 #[h,vs,vc] w (ju (if c.n=0 then gh ([0,0,127],[0])else fU) w):=by
 have HE:=fQ he;obtain⟨va,vb,vd,rfl,h1,h2,o⟩:=he;obtain⟨r,cs,rfl,_⟩:=h1.len;obtain⟨t,cg,rfl⟩:=h2.I;obtain⟨u,v,rfl,_⟩:=o;obtain⟨p,q,rfl,k,f⟩:=hs;obtain⟨x,y,rfl⟩:=k.I;obtain⟨z,A,rfl⟩:=f.I;obtain⟨p,q,tt,rfl,l,s1,s2,s3⟩:=hc;obtain⟨B,C,rfl⟩:=s1.I;obtain⟨D,E,rfl⟩:=s2.I;obtain⟨G,tc,rfl⟩:=s3.I;have a:=fQ (mh w (fP #[fG r e.R.length cs,fF fN e.G,fG t e.E.length cg,fG u e.a3.length v,fH e.L] 26) (fP #[fG x s.a1.length y,fG z s.out.length A] 62) (fP #[fF fN c.op,fF fO (c.n:Int),fG B c.args.length C,fG D c.O.length E,fG G c.to.length tc] 86));clear h1 h2 k f s1 s2 s3 l i;have ag:(c.op == 272)=gm:=fw;have ah:(c.op == 273)=gm:=fw;have ai:(c.op == 277)=gm:=fw;have aj:(c.op == 274)=gm:=fw;have ak:(c.op == 275)=gm:=fw;have al:(c.op == 276)=gm:=fw;have ar:(c.op == 27)=gj:=(by simp[j]);clear j;obtain⟨FF,g⟩:∃ F:Option (List Int×List Int),(if c.n=0 then gh ([0,0,127],[0])else fU)=F:=⟨_,rfl⟩;rw[g];have m:=fQ g;clear g;go_in;by_cases b:c.n=0
 ·have H:=nm b;have d:=fQ (m.symm.trans (gz b));clear b;go_wp2_with fail;go_region
  all_goals
   go_wp2;go_ret3
   first
    | (refine ju.yes d.out (IR.drew (IR.three (gO.alloc (gO.X _ _ _ ?_) _))) (IR.drew (IR.one (gO.X _ _ _ ?_))) (Aw ((a.alloc a.out.size _).alloc ?_ _)) <;> ((try simp);(try omega);done))
    | (refine ju.yes d.out (IR.drew (IR.three (gO.X _ _ _ ?_))) (IR.drew (IR.one (gO.alloc (gO.X _ _ _ ?_) _))) (Aw ((a.alloc a.out.size _).alloc ?_ _)) <;> ((try simp);(try omega);done))
 ·have H:=nn b;have d:=fQ (m.symm.trans (gy b));clear b;go_wp2_with fail;go_region
  all_goals
   go_wp2;go_ret3
   first
    | (refine ju.no d.out (IR.drew (IR.three (gO.alloc (gO.X _ _ _ ?_) _))) (IR.drew (IR.one (gO.X _ _ _ ?_))) (Aw ((a.alloc a.out.size _).alloc ?_ _)) <;> ((try simp);(try omega);done))
    | (refine ju.no d.out (IR.drew (IR.three (gO.X _ _ _ ?_))) (IR.drew (IR.one (gO.alloc (gO.X _ _ _ ?_) _))) (Aw ((a.alloc a.out.size _).alloc ?_ _)) <;> ((try simp);(try omega);done))
theorem dZu(e:ia)(s:iu)(c:gP)(d vs vc:AX)(w:AQ)(he:iG w d e)(hs:jq w vs s)(hc:jz w vc c)(f:e.a3.length=e.E.length)(g:c.op=256):
  AZ fZ 86 #[d,vs,vc] w (ju (gh ([],[0])) w):=by
 have HE:=fQ he;obtain⟨va,vb,vd,rfl,h1,h2,k⟩:=he;obtain⟨l,cs,rfl,_⟩:=h1.len;obtain⟨m,cg,rfl⟩:=h2.I;obtain⟨o,r,rfl,_⟩:=k;obtain⟨p,q,rfl,h,a⟩:=hs;obtain⟨t,u,rfl⟩:=h.I;obtain⟨v,x,rfl⟩:=a.I;obtain⟨p,q,tt,rfl,i,s1,s2,s3⟩:=hc;obtain⟨y,z,rfl⟩:=s1.I;obtain⟨A,B,rfl⟩:=s2.I;obtain⟨C,tc,rfl⟩:=s3.I;have j:=fQ (mh w (fP #[fG l e.R.length cs,fF fN e.G,fG m e.E.length cg,fG o e.a3.length r,fH e.L] 26) (fP #[fG t s.a1.length u,fG v s.out.length x] 62) (fP #[fF fN c.op,fF fO (c.n:Int),fG y c.args.length z,fG A c.O.length B,fG C c.to.length tc] 86));clear h1 h2 h a s1 s2 s3 i f;have af:(c.op == 272)=gm:=fw;have ag:(c.op == 273)=gm:=fw;have ah:(c.op == 277)=gm:=fw;have ai:(c.op == 274)=gm:=fw;have aj:(c.op == 275)=gm:=fw;have ak:(c.op == 276)=gm:=fw;have ar:(c.op == 27)=gm:=fw;have al:(c.op == 256)=gj:=(by simp[g]);clear g;obtain⟨FF,b⟩:∃ F:Option (List Int×List Int),(gh ([],[0]))=F:=⟨_,rfl⟩;rw[b];have D:=fQ b;clear b;go_in;go_wp2;go_ret3;exact ju.yes D.symm (IR.nil _) (IR.one (gO.X _ _ _ fz)) (j.alloc j.out.size _)
theorem dZv(e:ia)(s:iu)(c:gP)(j vs vc:AX)(w:AQ)(he:iG w j e)(hs:jq w vs s)(hc:jz w vc c)(k:e.a3.length=e.E.length)(l:c.op≠272)(m:c.op≠273)(r:c.op≠277)(t:c.op≠274)(u:c.op≠275)(v:c.op≠276)(a:c.op≠27)(b:c.op≠256):
  AZ fZ 86 #[j,vs,vc] w (ju (iV e s c.op c.n) w):=by
 have D:=fQ he;obtain⟨va,vb,vd,rfl,h1,h2,E⟩:=he;obtain⟨G,cs,rfl,_⟩:=h1.len;obtain⟨H,cg,rfl⟩:=h2.I;obtain⟨I,J,rfl,_⟩:=E;obtain⟨p,q,rfl,x,d⟩:=hs;obtain⟨K,L,rfl⟩:=x.I;obtain⟨M,N,rfl⟩:=d.I;obtain⟨p,q,tt,rfl,y,s1,s2,s3⟩:=hc;obtain⟨O,P,rfl⟩:=s1.I;obtain⟨Q,R,rfl⟩:=s2.I;obtain⟨S,tc,rfl⟩:=s3.I;have T:=fQ y;have U:=fQ k;have f:=fQ (mh w (fP #[fG G e.R.length cs,fF fN e.G,fG H e.E.length cg,fG I e.a3.length J,fH e.L] 26) (fP #[fG K s.a1.length L,fG M s.out.length N] 62) (fP #[fF fN c.op,fF fO (c.n:Int),fG O c.args.length P,fG Q c.O.length R,fG S c.to.length tc] 86));clear h1 h2 x d s1 s2 s3 y k;have V:=fQ (dZn e s _ c.op c.n T.1 _ (D.C f.out (Av _)) U.out b a fu);have aw:(c.op == 272)=gm:=(by simp[l]);have ax:(c.op == 273)=gm:=(by simp[m]);have ay:(c.op == 277)=gm:=(by simp[r]);have az:(c.op == 274)=gm:=(by simp[t]);have aA:(c.op == 275)=gm:=(by simp[u]);have aB:(c.op == 276)=gm:=(by simp[v]);have aE:(c.op == 27)=gm:=(by simp[a]);have aC:(c.op == 256)=gm:=(by simp[b]);clear l m r t u v a b;obtain⟨FF,g⟩:∃ F:Option (List Int×List Int),(iV e s c.op c.n)=F:=⟨_,rfl⟩;rw[g];have W:=fQ g;clear g;go_in;go_wp2_with fail;have h:=V.out;rw[W.out]at h;refine h.mono ?_;rintro en w1 ⟨X,vo,ok,i,o,rfl,q1,z,A,B,C⟩;have Y:=fQ q1;have Z:=fQ z;have Q3:=fQ A;have Q4:=fQ B;have Q5:=fQ (f.trans (C.mono f.out.size));clear q1 z A B C h;go_wp2;go_ret3;exact⟨X,vo,ok,i,o,rfl,Y.out,Z.out,Q3.out,Q4.out,Q5.out⟩
theorem bVn(e:ia)(s:iu)(c:gP)(a vs vc:AX)(w:AQ)(he:iG w a e)(hs:jq w vs s)(hc:jz w vc c)(b:e.a3.length=e.E.length):
  AZ fZ 86 #[a,vs,vc] w (ju (iV e s c.op c.n) w):=by
 by_cases d:c.op=272
 ·have h:=dZo e s c a vs vc w he hs hc b d;rw[d];exact h
 by_cases f:c.op=273
 ·have h:=dZp e s c a vs vc w he hs hc b f;rw[f];exact h
 by_cases g:c.op=277
 ·have h:=dZq e s c a vs vc w he hs hc b g;rw[g];exact h
 by_cases i:c.op=274
 ·have h:=dZr e s c a vs vc w he hs hc b i;rw[i];exact h
 by_cases j:c.op=275
 ·have h:=dZs e s c a vs vc w he hs hc b j;rw[j];exact h
 by_cases k:c.op=276
 ·have h:=dZt e s c a vs vc w he hs hc b k;rw[k];exact h
 by_cases l:c.op=27
 ·have h:=eQt e s c a vs vc w he hs hc b l;rw[l];exact h
 by_cases m:c.op=256
 ·have h:=dZu e s c a vs vc w he hs hc b m;rw[m];exact h
 exact dZv e s c a vs vc w he hs hc b d f g i j k l m
def wY(c:gP):Bool:=if c.op=273\/c.op=274 then decide (c.to.length=1)else if c.op=275 then decide (1<=c.to.length)else decide (c.to.length=0)
theorem eQn{e:ia}{r:gR}{c:gP}(he:iH e=gj)(hs:je r.a2=gj):codeOk e r c=gj ↔
  ((c.args.length<=8/\c.O.length<=8/\c.to.length<=65)/\∃ i o,iV e r.a2 c.op c.n=gh (i,o)/\i.length=c.args.length/\o.length=c.O.length /\
   mQ r.M c.args gm=gj/\mQ r.M c.O gj=gj/\mQ r.K.length c.to gm=gj/\wY c=gj):=by
 unfold codeOk
 cases hf:iV e r.a2 c.op c.n with
 | none=>simp
 | some x=>
  obtain⟨i,o⟩:=x;have hl:=qG he hs hf;simp only[Bool.and_eq_true,decide_eq_true_eq,mQ,Bool.not_false,Bool.true_or,Bool.and_true,Bool.not_true,Bool.false_or]
  have p:(vQ c.op<=c.to.length/\(c.to.length:Int)<=sW c.op)↔(c.to.length<=65/\wY c=gj):=by
   unfold vQ sW wY;by_cases a:c.op=273\/c.op=274
   ·have s:c.op=273\/c.op=274\/c.op=275:=fu;rw[gz s,gz a,gz a,decide_eq_true_eq];omega
   ·by_cases b:c.op=275
    ·rw[gz fu,gy a,gz b,gy a,gz b,decide_eq_true_eq];omega
    ·rw[gy fu,gy a,gy b,gy a,gy b,decide_eq_true_eq];omega
  constructor
  ·rintro⟨⟨h1,h2,f,g⟩,h,j,k,l⟩;have d:=p.1 ⟨f,g⟩;exact⟨⟨fu,fu,d.1⟩,i,o,rfl,h1.symm,h2.symm,h,⟨j,k⟩,l,d.2⟩
  ·rintro⟨⟨h1,h2,f⟩,i',o',m,g,h,j,⟨k,l⟩,d,t⟩;injection m with m;injection m with u e2;subst u;subst e2;have q:=p.2 ⟨f,t⟩;exact⟨⟨g.symm,h.symm,q.1,q.2⟩,j,k,l,d⟩
end Go.Proofs.YtabibkpfgmolkaaGreatDoor

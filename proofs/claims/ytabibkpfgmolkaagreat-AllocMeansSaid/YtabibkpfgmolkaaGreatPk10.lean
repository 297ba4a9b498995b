/- Lemmas for the claim, part 10. Conditions: none. -/
import Derived.Test.YtabibkpfgmolkaaGreatPk04
import Derived.Deep.DeepCutAuto
set_option maxRecDepth 100000
set_option maxHeartbeats 16000000
set_option linter.unusedVariables false
set_option linter.unusedSimpArgs false
open Go.Lib renaming hid→fQ
open Go.Proofs.Tryz renaming prog→fZ
open Go.Proofs.Tryz
open Go.RowKit
open List renaming getElem?_eq_getElem→Aj,getD_eq_getElem?_getD→Ax,mem_of_getElem?→Az,replicate→Aw,getElem?_append_right→Ay,getElem?_toArray→AJ,length_set→AQ,getElem?_replicate→AZ,getElem?_map→AK,take_succ_eq_append_getElem→AV,take_of_length_le→AY,length_take→Aa
open Go.IntWalk renaming i64_in→Aq
open Nat renaming le_refl→Ak,sub_self→AW
open Array renaming replicate→AX
open Go renaming World→Ab
namespace Go.Proofs.YtabibkpfgmolkaaGreat
variable {D T:List Int}{i a b g j k P m q s n I f:Nat}{t:TypeId}{w w0 wr:Ab}{x y:Int}
structure Only (g:Nat) (w w':Ab):Prop where
 size:w'.heap.size=w.heap.size
 block:∀ k,k≠g->w'.heap[k]? = w.heap[k]?
 below:∀ N w0,N<=g->Below N w0 w->Below N w0 w'
theorem Only.refl(g:Nat)(w:Ab):Only g w w:=⟨rfl,fun _ _=>rfl,fun _ _ _ h=>h⟩
theorem Only.trans{g:Nat}{a b c:Ab}(h:Only g a b)(k:Only g b c):Only g a c:=⟨k.size.trans h.size,fun j hj=>(k.block j hj).trans (h.block j hj),fun N w0 d e=>k.below N w0 d (h.below N w0 d e)⟩
theorem Only.setCell{g:Nat}{a w:Ab}(h:Only g a w)(i:Nat)(u:Value):Only g a (w.setCell ⟨g,i,none⟩ u):=
 ⟨by rw[<-h.size];simp,fun k b=>(heap_setCell_other w ⟨g,i,none⟩ k u b).trans (h.block k b),fun N w0 c d=>(h.below N w0 c d).setCell (p:=⟨g,i,none⟩) c u⟩
theorem Only.drewN{g:Nat}{a w:Ab}(h:Only g a w)(n:Nat):Only g a (w.drewN n):=⟨h.size,h.block,fun N w0 b c=>fK (h.below N w0 b c) n⟩
theorem Only.blk{w':Ab}{cs:Array Value}(h:Only g w w')(a:Blk w k t cs)(b:k≠g):Blk w' k t cs:=(h.block k b).trans a
theorem bJx{a b:Int}(hi:D[i]? = some a)(hj:D[j]? = some b):((D.set i b).set j a).Perm D:=by
 obtain⟨h1,d⟩:=List.getElem?_eq_some_iff.1 hi;obtain⟨h2,e2⟩:=List.getElem?_eq_some_iff.1 hj;have h:=Array.swap_perm (xs:=D.toArray) (i:=i) (j:=j) (by simpa using h1) (by simpa using h2);have c:=h.toList;simp only[Array.toList_swap]at c;subst d;subst e2
 simpa using c
def SP(t:TypeId)(w0:Ab)(g:Nat)(a:List Int)(wr:Ab):Prop:=∃ D,D.Perm a/\Blk wr g t (i64s D).toArray/\Only g w0 wr
theorem dKs(D:List Int)(i:Nat)(x:Int):(i64s D).toArray.setIfInBounds i (.int .i64 x)=(i64s (D.set i x)).toArray:=by simp[i64s,List.map_set]
theorem qK(h:Blk w g t (i64s D).toArray)(i:Nat)(x:Int):Blk (w.setCell ⟨g,i,none⟩ (.int .i64 x)) g t (i64s (D.set i x)).toArray:=by
 have:=heap_setCell_same w g i _ t (.int .i64 x) h;unfold Blk;rw[this,dKs]
theorem mV{a:Int}(h:Blk w g t (i64s D).toArray)(hi:D[i]? = some a):w.cell? ⟨g,i,none⟩=some (.int .i64 a):=by
 rw[h.cell i];simp[i64s,hi]
theorem sY(h:Blk w g t (i64s D).toArray)(hi:i<D.length):∃ u,w.cell? ⟨g,i,none⟩=some u:=
 ⟨_,mV h (Aj hi)⟩
theorem SP.len{b:List Int}(h:D.Perm b)(hP:b.length=P)(hi:i<P):∃ a,D[i]? = some a/\a∈b:=by
 have hl:=h.length_eq;have:=Aj (l:=D) (i:=i) (by omega);exact⟨_,this,h.mem_iff.1 (Az this)⟩
def swp(D:List Int)(i j:Nat):List Int:=(D.set i (D.getD j 0)).set j (D.getD i 0)
theorem cVw{a b:Int}(hi:D[i]? = some a)(hj:D[j]? = some b):(D.set i b).set j a=swp D i j:=by
 unfold swp;rw[Ax,Ax,hi,hj];rfl
theorem eQe{a b:Int}(hi:D[i]? = some a)(hj:D[j]? = some b):(D.set j a).set i b=swp D i j:=by
 rw[<-cVw hi hj];by_cases e:i=j
 ·subst e;rw[hi]at hj;injection hj with hj;subst hj;rfl
 ·rw[List.set_comm _ _ e]
def swR(a b:Nat):Nat->Nat->List Int->List Int
 | 0,_,D=>D
 | r+1,k,D=>swR a b r (k+1) (swp D (a+k) (b+k))
theorem bWd(hk:k<n)(h:swR a b (n - k) k D=T):swR a b (n - (k+1)) (k+1) (swp D (a+k) (b+k))=T:=by
 rw[show n - k=(n - (k+1))+1 by omega]at h;exact h
theorem eQf(hk:¬k<n)(h:swR a b (n - k) k D=T):D=T:=by
 rw[show n - k=0 by omega]at h;exact h
def bQt(m:Nat):Nat->Nat->Nat->List Int->List Int
 | 0,_,_,D=>D
 | f+1,i,j,D=>if i=j then swR (m - i) m i 0 D else if j<i then bQt m f (i - j) j (swR (m - i) m j 0 D)else bQt m f i (j - i) (swR (m - i) (m+j - i) i 0 D)
def bWe(a m b:Nat)(D:List Int):List Int:=bQt m (m - a+(b - m)) (m - a) (b - m) D
def RotI(m i j:Nat)(D T:List Int):Prop:=∃ f,i+j<=f/\bQt m f i j D=T
theorem RotI.start(a m b:Nat)(D:List Int):RotI m (m - a) (b - m) D (bWe a m b D):=⟨_,Ak _,rfl⟩
theorem RotI.eq(h:RotI m i i D T)(hi:0<i):swR (m - i) m i 0 D=T:=by
 obtain⟨f,hf,h⟩:=h;obtain⟨f,rfl⟩:∃ q,f=q+1:=⟨f - 1,by omega⟩;rw[bQt,if_pos rfl]at h;exact h
theorem RotI.gt(h:RotI m i j D T)(hj:0<j)(a:j<i):RotI m (i - j) j (swR (m - i) m j 0 D) T:=by
 obtain⟨f,hf,h⟩:=h;obtain⟨f,rfl⟩:∃ q,f=q+1:=⟨f - 1,by omega⟩;rw[bQt,if_neg (by omega),if_pos a]at h;exact⟨f,by omega,h⟩
theorem RotI.lt(h:RotI m i j D T)(hi:0<i)(aa:i<j):RotI m i (j - i) (swR (m - i) (m+j - i) i 0 D) T:=by
 obtain⟨f,hf,h⟩:=h;obtain⟨f,rfl⟩:∃ q,f=q+1:=⟨f - 1,by omega⟩;rw[bQt,if_neg (by omega),if_neg (by omega)]at h;exact⟨f,by omega,h⟩
def aXc(K:Int->Int->Int)(a:Nat):Nat->List Int->List Int
 | 0,D=>D
 | q+1,D=>if a<q+1/\K (D.getD (q+1) 0) (D.getD q 0)<0 then aXc K a q (swp D (q+1) q)else D
def aZe(K:Int->Int->Int)(a:Nat):Nat->Nat->List Int->List Int
 | 0,_,D=>D
 | r+1,k,D=>aZe K a r (k+1) (aXc K a k D)
def bQu(K:Int->Int->Int)(a b:Nat)(D:List Int):List Int:=aZe K a (b - (a+1)) (a+1) D
theorem cVx{K:Int->Int->Int}(hk:k<b)(h:aZe K a (b - k) k D=T):aZe K a (b - (k+1)) (k+1) (aXc K a k D)=T:=by
 rw[show b - k=(b - (k+1))+1 by omega]at h;exact h
theorem dKt{K:Int->Int->Int}(hk:¬k<b)(h:aZe K a (b - k) k D=T):D=T:=by
 rw[show b - k=0 by omega]at h;exact h
theorem cVy{K:Int->Int->Int}(hq:a<q+1)(b:D[q+1]? = some x)(c:D[q]? = some y)(d:K x y<0):aXc K a (q+1) D=aXc K a q (swp D (q+1) q):=by
 rw[aXc,if_pos ⟨hq,by rw[Ax,Ax,b,c];exact d⟩]
theorem cVz{K:Int->Int->Int}(b:D[q+1]? = some x)(c:D[q]? = some y)(d:¬K x y<0):aXc K a (q+1) D=D:=by
 rw[aXc,if_neg (fun h=>d (by rw[Ax,Ax,b,c]at h;exact h.2))]
theorem dKu{K:Int->Int->Int}(hq:¬a<q):aXc K a q D=D:=by
 cases q with
 | zero=>rfl
 | succ q=>rw[aXc,if_neg (fun h=>hq h.1)]
def bsF(t:Nat->Bool):Nat->Nat->Nat->Nat
 | 0,i,_=>i
 | f+1,i,j=>if i<j then(if t ((i+j) / 2)=true then bsF t f ((i+j) / 2+1) j else bsF t f i ((i+j) / 2))else i
def bsV(t:Nat->Bool)(i j:Nat):Nat:=bsF t (j - i) i j
def BSI(t:Nat->Bool)(I i j:Nat):Prop:=∃ f,j - i<=f/\bsF t f i j=I
theorem BSI.start(t:Nat->Bool)(i j:Nat):BSI t (bsV t i j) i j:=⟨_,Ak _,rfl⟩
theorem BSI.up{t:Nat->Bool}{h:Nat}(q:BSI t I i j)(a:(i+j) / 2=h)(b:i<j)(c:t h=true):BSI t I (h+1) j:=by
 obtain⟨f,hf,e⟩:=q;obtain⟨f,rfl⟩:∃ q,f=q+1:=⟨f - 1,by omega⟩;subst a;rw[bsF,if_pos b,if_pos c]at e;exact⟨f,by omega,e⟩
theorem BSI.dn{t:Nat->Bool}{h:Nat}(q:BSI t I i j)(a:(i+j) / 2=h)(b:i<j)(c:t h=false):BSI t I i h:=by
 obtain⟨f,hf,e⟩:=q;obtain⟨f,rfl⟩:∃ q,f=q+1:=⟨f - 1,by omega⟩;subst a;rw[bsF,if_pos b,if_neg (by rw[c];decide)]at e;exact⟨f,by omega,e⟩
theorem BSI.done{t:Nat->Bool}(q:BSI t I i i):i=I:=by
 obtain⟨f,_,e⟩:=q
 cases f with
 | zero=>exact e
 | succ f=>rw[bsF,if_neg (Nat.lt_irrefl i)]at e;exact e
def aQh(K:Int->Int->Int)(D:List Int)(i j:Nat):Bool:=decide (K (D.getD i 0) (D.getD j 0)<0)
theorem aQr{K:Int->Int->Int}(a:D[i]? = some x)(b:D[j]? = some y):aQh K D i j=decide (K x y<0):=by
 unfold aQh;rw[Ax,Ax,a,b];rfl
def upS:Nat->Nat->List Int->List Int
 | 0,_,D=>D
 | r+1,k,D=>upS r (k+1) (swp D k (k+1))
theorem dKv(hk:k<n)(h:upS (n - k) k D=T):upS (n - (k+1)) (k+1) (swp D k (k+1))=T:=by
 rw[show n - k=(n - (k+1))+1 by omega]at h;exact h
theorem eQg(hk:¬k<n)(h:upS (n - k) k D=T):D=T:=by
 rw[show n - k=0 by omega]at h;exact h
def dnS(i:Nat):Nat->List Int->List Int
 | 0,D=>D
 | k+1,D=>if i<k+1 then dnS i k (swp D (k+1) k)else D
theorem dKw(a:i<k)(h:dnS i k D=T):dnS i (k - 1) (swp D k (k - 1))=T:=by
 obtain⟨k,rfl⟩:∃ q,k=q+1:=⟨k - 1,by omega⟩;rw[dnS,if_pos a]at h;exact h
theorem eQh(a:¬i<k)(h:dnS i k D=T):D=T:=by
 cases k with
 | zero=>exact h
 | succ k=>rw[dnS,if_neg a]at h;exact h
def bJb(K:Int->Int->Int)(a m b:Nat)(D:List Int):Nat:=
 if(a+b) / 2<m then bsV (fun c=>!aQh K D ((a+b) / 2+m - 1 - c) c) ((a+b) / 2+m - b) ((a+b) / 2)else bsV (fun c=>!aQh K D ((a+b) / 2+m - 1 - c) c) a m
def aQi(K:Int->Int->Int):Nat->Nat->Nat->Nat->List Int->List Int
 | 0,_,_,_,D=>D
 | f+1,a,m,b,D=>
  if m - a=1 then upS (bsV (fun h=>aQh K D h a) m b - 1 - a) a D
  else if b - m=1 then dnS (bsV (fun h=>!aQh K D m h) a m) m D
  else
   let s:=bJb K a m b D
   let e:=(a+b) / 2+m - s
   let c:=if s<m/\m<e then bWe s m e D else D
   let d:=if a<s/\s<(a+b) / 2 then aQi K f a s ((a+b) / 2) c else c
   if(a+b) / 2<e/\e<b then aQi K f ((a+b) / 2) e b d else d
def aXm(K:Int->Int->Int)(f mid e b:Nat)(D:List Int):List Int:=if mid<e/\e<b then aQi K f mid e b D else D
def aXn(K:Int->Int->Int)(f a s mid e b:Nat)(D:List Int):List Int:=aXm K f mid e b (if a<s/\s<mid then aQi K f a s mid D else D)
def aZv(K:Int->Int->Int)(f a m s mid e b:Nat)(D:List Int):List Int:=aXn K f a s mid e b (if s<m/\m<e then bWe s m e D else D)
theorem dKx{K:Int->Int->Int}(h:m - a=1):aQi K (f+1) a m b D=upS (bsV (fun h=>aQh K D h a) m b - 1 - a) a D:=by
 rw[aQi,if_pos h]
theorem dKy{K:Int->Int->Int}(h:¬m - a=1)(h2:b - m=1):aQi K (f+1) a m b D=dnS (bsV (fun h=>!aQh K D m h) a m) m D:=by
 rw[aQi,if_neg h,if_pos h2]
theorem bWf{K:Int->Int->Int}{mid e:Nat}(h:¬m - a=1)(h2:¬b - m=1)(hs:bJb K a m b D=s)(c:(a+b) / 2=mid)(he:mid+m - s=e):aQi K (f+1) a m b D=aZv K f a m s mid e b D:=by
 rw[aQi,if_neg h,if_neg h2];subst hs;subst c;subst he;rfl
def stB(K:Int->Int->Int)(P:Nat):Nat->Nat->List Int->List Int
 | 0,a,D=>bQu K a P D
 | f+1,a,D=>if a+20<=P then stB K P f (a+20) (bQu K a (a+20) D)else bQu K a P D
def StBI(K:Int->Int->Int)(P a:Nat)(D T:List Int):Prop:=∃ f,P<=a+f/\stB K P f a D=T
theorem StBI.start(K:Int->Int->Int)(P:Nat)(D:List Int):StBI K P 0 D (stB K P P 0 D):=⟨P,by omega,rfl⟩
theorem StBI.step{K:Int->Int->Int}(h:StBI K P a D T)(c:a+20=b)(hle:b<=P):StBI K P b (bQu K a b D) T:=by
 obtain⟨f,hf,e⟩:=h;subst c;obtain⟨f,rfl⟩:∃ q,f=q+1:=⟨f - 1,by omega⟩;rw[stB,if_pos hle]at e;exact⟨f,by omega,e⟩
theorem StBI.last{K:Int->Int->Int}(h:StBI K P a D T)(c:a+20=b)(hle:¬b<=P):bQu K a P D=T:=by
 obtain⟨f,hf,e⟩:=h;subst c
 cases f with
 | zero=>exact e
 | succ f=>rw[stB,if_neg hle]at e;exact e
def mgP(K:Int->Int->Int)(P s:Nat):Nat->Nat->List Int->List Int
 | 0,_,D=>D
 | f+1,a,D=>if a+2*s<=P then mgP K P s f (a+2*s) (aQi K (a+2*s - a) a (a+s) (a+2*s) D)else if a+s<P then aQi K (P - a) a (a+s) P D else D
def MgI(K:Int->Int->Int)(P s a:Nat)(D T:List Int):Prop:=∃ f,P<=a+f/\mgP K P s f a D=T
theorem MgI.step{K:Int->Int->Int}(h:MgI K P s a D T)(hs:20<=s)(hq:2*s=q)(c:a+q=b)(d:a+s=m)(hle:b<=P):MgI K P s b (aQi K (b - a) a m b D) T:=by
 obtain⟨f,hf,e⟩:=h;subst hq;subst c;subst d;obtain⟨f,rfl⟩:∃ q,f=q+1:=⟨f - 1,by omega⟩;rw[mgP,if_pos hle]at e;exact⟨f,by omega,e⟩
theorem MgI.last{K:Int->Int->Int}(h:MgI K P s a D T)(hs:20<=s)(hq:2*s=q)(c:a+q=b)(d:a+s=m)(hle:¬b<=P)(g:m<P):aQi K (P - a) a m P D=T:=by
 obtain⟨f,hf,e⟩:=h;subst hq;subst c;subst d;obtain⟨f,rfl⟩:∃ q,f=q+1:=⟨f - 1,by omega⟩;rw[mgP,if_neg hle,if_pos g]at e;exact e
theorem MgI.done{K:Int->Int->Int}(h:MgI K P s a D T)(hq:2*s=q)(c:a+q=b)(d:a+s=m)(hle:¬b<=P)(g:¬m<P):D=T:=by
 obtain⟨f,hf,e⟩:=h;subst hq;subst c;subst d
 cases f with
 | zero=>exact e
 | succ f=>rw[mgP,if_neg hle,if_neg g]at e;exact e
def mgA(K:Int->Int->Int)(P:Nat):Nat->Nat->List Int->List Int
 | 0,_,D=>D
 | f+1,s,D=>if s<P then mgA K P f (2*s) (mgP K P s P 0 D)else D
def MgAI(K:Int->Int->Int)(P s:Nat)(D T:List Int):Prop:=∃ f,P<=s+f/\mgA K P f s D=T
theorem MgAI.step{K:Int->Int->Int}(h:MgAI K P s D T)(hs:20<=s)(hq:2*s=q)(a:s<P):MgAI K P q (mgP K P s P 0 D) T:=by
 obtain⟨f,hf,e⟩:=h;subst hq;obtain⟨f,rfl⟩:∃ q,f=q+1:=⟨f - 1,by omega⟩;rw[mgA,if_pos a]at e;exact⟨f,by omega,e⟩
theorem MgAI.done{K:Int->Int->Int}(h:MgAI K P s D T)(a:¬s<P):D=T:=by
 obtain⟨f,hf,e⟩:=h
 cases f with
 | zero=>exact e
 | succ f=>rw[mgA,if_neg a]at e;exact e
def bJc(K:Int->Int->Int)(P:Nat)(D:List Int):List Int:=mgA K P P 20 (stB K P P 0 D)
theorem MgAI.start{K:Int->Int->Int}{E:List Int}(h:stB K P P 0 D=E):MgAI K P 20 E (bJc K P D):=⟨P,by omega,by rw[<-h];rfl⟩
theorem MgI.start(K:Int->Int->Int)(P s:Nat)(D:List Int):MgI K P s 0 D (mgP K P s P 0 D):=⟨P,by omega,rfl⟩
def SX(t:TypeId)(w0:Ab)(g:Nat)(a:List Int)(F:List Int->Prop)(wr:Ab):Prop:=∃ D,D.Perm a/\F D/\Blk wr g t (i64s D).toArray/\Only g w0 wr
theorem SX.drewN{t:TypeId}{w0 wr:Ab}{g:Nat}{a:List Int}{F:List Int->Prop}(h:SX t w0 g a F wr)(n:Nat):SX t w0 g a F (wr.drewN n):=by
 obtain⟨D,h1,hF,h2,b⟩:=h;exact⟨D,h1,hF,h2,b.drewN n⟩
theorem SX.start{F:List Int->Prop}(h:Blk w g t (i64s D).toArray)(hF:F D):SX t w g D F w:=⟨D,.refl _,hF,h,Only.refl _ _⟩
theorem SX.imp{a:List Int}{F G:List Int->Prop}(h:SX t w0 g a F wr)(b:∀ D,F D->G D):SX t w0 g a G wr:=by
 obtain⟨D,h1,hF,h2,c⟩:=h;exact⟨D,h1,b D hF,h2,c⟩
theorem SX.swap{c:List Int}{F:List Int->Prop}{a b:Int}(hp:D.Perm c)(hF:F (swp D i j))(h:Blk wr g t (i64s D).toArray)(d:Only g w0 wr)(hi:D[i]? = some a)(hj:D[j]? = some b):
  SX t w0 g c F ((wr.setCell ⟨g,i,none⟩ (.int .i64 b)).setCell ⟨g,j,none⟩ (.int .i64 a)):=
 ⟨_,(bJx hi hj).trans hp,by rw[cVw hi hj];exact hF,qK (qK h i b) j a,(d.setCell _ _).setCell _ _⟩
theorem SX.fQr{c:List Int}{F:List Int->Prop}{a b:Int}(hp:D.Perm c)(hF:F (swp D i j))(h:Blk wr g t (i64s D).toArray)(d:Only g w0 wr)(hi:D[i]? = some a)(hj:D[j]? = some b):
  SX t w0 g c F ((wr.setCell ⟨g,j,none⟩ (.int .i64 a)).setCell ⟨g,i,none⟩ (.int .i64 b)):=
 ⟨_,(bJx hj hi).trans hp,by rw[eQe hi hj];exact hF,qK (qK h j a) i b,(d.setCell _ _).setCell _ _⟩
def SoT(g:Nat)(a T:List Int)(w:Ab)(b:Ending)(w':Ab):Prop:=b = .returned (.tuple #[])/\T.Perm a/\Blk w' g 3 (i64s T).toArray/\Only g w w'
theorem bJd(H:Value)(g P c a b n:Nat)(e:List Int)(w:Ab)(h:Blk w g 3 (i64s e).toArray)(t:e.length=P)(ha:a+n<=P)(hb:b+n<=P)(af:P<=4096):
  Calls fZ 155 #[.slice (some ⟨g,0,none⟩) P c,.int .i64 (a:Int),.int .i64 (b:Int),.int .i64 (n:Int),H] w (SoT g e (swR a b n 0 e) w):=by
 obtain⟨T,q⟩:=fX (swR a b n 0 e);rw[q];have u:=fQ (SX.start (F:=fun D=>swR a b (n - 0) 0 D=T) h q);have j:=fQ t;clear h t q;go_in;go_wp2;go_loopw [10] (fun i wr=>∃ k:Nat,k<=n/\i = .int .i64 k/\Hid (SX 3 w g e (fun D=>swR a b (n - k) k D=T) wr)) (fun i _=>n - (intOf i).toNat)
 case atStart=>exact⟨0,by omega,rfl,u⟩
 case round=>
  clear u;obtain⟨k,hk,rfl,r⟩:=hrel;by_cases s:k<n
  ·have I:decide ((k:Int)<n)=true:=(by simp;omega);obtain⟨D,hp,hF,d,f⟩:=r.out;obtain⟨x,l,_⟩:=SP.len hp j.out (show a+k<P by omega);obtain⟨y,m,_⟩:=SP.len hp j.out (show b+k<P by omega);have c1:=mV d l;have J:=mV d m;have K:=frozen_of_row wr g (a+k) _ _ d;have L:=frozen_of_row wr g (b+k) _ _ d;have y1:=d.lt;have w1:IntKind.i64.wrap ((a:Int)+(k:Int))=((a+k:Nat):Int):=(by rw[show(a:Int)+(k:Int)=((a+k:Nat):Int) by omega];exact Aq _ (by omega));have M:IntKind.i64.wrap ((b:Int)+(k:Int))=((b+k:Nat):Int):=(by rw[show(b:Int)+(k:Int)=((b+k:Nat):Int) by omega];exact Aq _ (by omega));have N:((a+k:Nat):Int)<(P:Int):=(by omega);have O:((b+k:Nat):Int)<(P:Int):=(by omega);have y2:=qK d (a+k) y;have y3:=qK d (b+k) x;have v:=frozen_of_row _ g (b+k) _ _ y2;have z:=frozen_of_row _ g (a+k) _ _ y3;obtain⟨u3,A⟩:=sY y2 (show b+k<(D.set (a+k) y).length by rw[AQ,hp.length_eq,j.out];omega);obtain⟨u4,B⟩:=sY y3 (show a+k<(D.set (b+k) x).length by rw[AQ,hp.length_eq,j.out];omega);have o:=fQ (SX.swap (F:=fun D=>swR a b (n - (k+1)) (k+1) D=T) hp (bWd s hF) d f l m);have p:=fQ (SX.fQr (F:=fun D=>swR a b (n - (k+1)) (k+1) D=T) hp (bWd s hF) d f l m);obtain⟨i1,C⟩:∃ i,a+k=i:=⟨_,rfl⟩;obtain⟨j1,E⟩:∃ i,b+k=i:=⟨_,rfl⟩;rw[C]at c1 K w1 N A B v z o p;rw[E]at J L M O A B v z o p;clear l m hp hF d f C E r y2 y3;obtain⟨G,rfl⟩:∃ G:Ab,G=wr:=⟨_,rfl⟩;go_wp2_with fail;go_region
   all_goals
    go_wp2
    first
     | exact⟨⟨k+1,by omega,by simp,fQ (o.out.drewN _)⟩,by simp[intOf];omega⟩
     | exact⟨⟨k+1,by omega,by simp,fQ (p.out.drewN _)⟩,by simp[intOf];omega⟩
     | exact⟨⟨k+1,by omega,by simp,fQ o.out.drew⟩,by simp[intOf];omega⟩
     | exact⟨⟨k+1,by omega,by simp,fQ p.out.drew⟩,by simp[intOf];omega⟩
     | trace_state
  ·have I:decide ((k:Int)<n)=false:=(by simp;omega);go_wp2;go_end0;obtain⟨D,hp,hF,d,f⟩:=r.out;obtain rfl:=eQf s hF;exact⟨rfl,hp,d,f⟩
theorem dYp(f:Value)(g P c a m b:Nat)(d:List Int)(w:Ab)(h:Blk w g 3 (i64s d).toArray)(z:d.length=P)(ha:a<m)(hm:m<b)(hb:b<=P)(l:P<=4096):
  Calls fZ 136 #[.slice (some ⟨g,0,none⟩) P c,.int .i64 (a:Int),.int .i64 (m:Int),.int .i64 (b:Int),f] w (SoT g d (bWe a m b d) w):=by
 obtain⟨T,n⟩:=fX (bWe a m b d);rw[n];have o:=fQ (SX.start (F:=fun D=>RotI m (m - a) (b - m) D T) h (n ▸ RotI.start a m b d));have G:=fQ z;obtain⟨i0,H⟩:∃ i,m - a=i:=⟨_,rfl⟩;obtain⟨k,I⟩:∃ j,b - m=j:=⟨_,rfl⟩;rw[H,I]at o;have w1:IntKind.i64.wrap ((m:Int) - (a:Int))=(i0:Int):=(by rw[show(m:Int) - (a:Int)=(i0:Int) by omega];exact Aq _ (by omega));have p:IntKind.i64.wrap ((b:Int) - (m:Int))=(k:Int):=(by rw[show(b:Int) - (m:Int)=(k:Int) by omega];exact Aq _ (by omega));clear h z n;go_in;go_wp2;go_loopw [10,11] (fun iv r wr=>∃ i j:Nat,0<i/\0<j/\i<=i0/\j<=k/\iv = .int .i64 i/\r = .int .i64 j/\Hid (SX 3 w g d (fun D=>RotI m i j D T) wr)) (fun iv r _=>(intOf iv+intOf r).toNat)
 case atStart=>exact⟨i0,k,by omega,by omega,by omega,by omega,rfl,rfl,o⟩
 case round=>
  clear o w1 p;obtain⟨i,j,hi,hj,al,an,rfl,rfl,A⟩:=hrel;obtain⟨D,hp,hF,B,C⟩:=A.out;have s:=fQ hp;have t:=fQ B;have u:=fQ C;have v:=fQ (hp.length_eq.trans G.out);have w1:IntKind.i64.wrap ((m:Int) - (i:Int))=((m - i:Nat):Int):=(by rw[show(m:Int) - (i:Int)=((m - i:Nat):Int) by omega];exact Aq _ (by omega));have x:=fQ hF;clear hp hF B C A;by_cases J:i=j
  ·subst J;have K:((i:Int) != (i:Int))=false:=(by simp);go_wp2_with fail;refine(bJd f g P c (m - i) m i D _ t.out v.out (by omega) (by omega) l).mono ?_;have L:=fQ (RotI.eq x.out hi);rw[L.out];rintro E y ⟨rfl,hs⟩;have e:=fQ hs;clear hs;go_wp2;go_end0;exact⟨rfl,e.out.1.trans s.out,e.out.2.1,u.out.trans e.out.2.2⟩
  ·have K:((i:Int) != (j:Int))=true:=(by simp;omega);by_cases M:j<i
   ·have N:decide ((j:Int)<(i:Int))=true:=(by simp;omega);have O:decide (j<i)=true:=(by simp;omega);have p:IntKind.i64.wrap ((i:Int) - (j:Int))=((i - j:Nat):Int):=(by rw[show(i:Int) - (j:Int)=((i - j:Nat):Int) by omega];exact Aq _ (by omega));go_wp2_with fail;refine(bJd f g P c (m - i) m j D _ t.out v.out (by omega) (by omega) l).mono ?_;rintro E y ⟨rfl,hs⟩;have e:=fQ (show SX 3 w g d (fun D=>RotI m (i - j) j D T) y from⟨_,hs.1.trans s.out,RotI.gt x.out hj M,hs.2.1,u.out.trans hs.2.2⟩);clear hs;go_wp2;exact⟨⟨i - j,j,by omega,by omega,by omega,by omega,rfl,rfl,e⟩,by simp[intOf];omega⟩
   ·have N:decide ((j:Int)<(i:Int))=false:=(by simp;omega);have O:decide (j<i)=false:=(by simp;omega);have p:IntKind.i64.wrap ((j:Int) - (i:Int))=((j - i:Nat):Int):=(by rw[show(j:Int) - (i:Int)=((j - i:Nat):Int) by omega];exact Aq _ (by omega));obtain⟨q,hq⟩:=fX (m+j);have y:IntKind.i64.wrap ((m:Int)+(j:Int))=(q:Int):=(by rw[show(m:Int)+(j:Int)=(q:Int) by omega];exact Aq _ (by omega));have w4:IntKind.i64.wrap ((q:Int) - (i:Int))=((q - i:Nat):Int):=(by rw[show(q:Int) - (i:Int)=((q - i:Nat):Int) by omega];exact Aq _ (by omega));go_wp2_with fail;refine(bJd f g P c (m - i) (q - i) i D _ t.out v.out (by omega) (by omega) l).mono ?_;rintro E Q ⟨rfl,hs⟩;have e:=fQ (show SX 3 w g d (fun D=>RotI m i (j - i) D T) Q from⟨_,hs.1.trans s.out,(by have h:=RotI.lt x.out hi (show i<j by omega);rw[hq]at h;exact h),hs.2.1,u.out.trans hs.2.2⟩);clear hs;go_wp2;exact⟨⟨i,j - i,by omega,by omega,by omega,by omega,rfl,rfl,e⟩,by simp[intOf];omega⟩
def CmpOk(K:Int->Int->Int)(b g:Nat)(a:List Int)(w0:Ab):Prop:=∀ wr,Only g w0 wr->∀ x y,x∈a->y∈a ->
 Calls fZ 55 #[.int .i64 x,.int .i64 y,.pointer (some ⟨b,0,none⟩)] wr fun e w'=>e = .returned (.int .i64 (K x y))/\∃ m,w'=wr.drewN m
theorem CmpOk.on{K:Int->Int->Int}{b:List Int}(h:CmpOk K a g b w0)(c:Only g w0 wr)(hp:D.Perm b):CmpOk K a g D wr:=
 fun w' d x y e f=>h w' (c.trans d) x y (hp.mem_iff.1 e) (hp.mem_iff.1 f)
theorem CmpOk.at{K:Int->Int->Int}{a:List Int}(h:CmpOk K b g a w0)(c:Only g w0 wr)(d:x∈a)(f:y∈a)(n:Nat):
  Calls fZ 55 #[.int .i64 x,.int .i64 y,.pointer (some ⟨b,0,none⟩)] (wr.drewN n) fun e w'=>e = .returned (.int .i64 (K x y))/\∃ m,w'=wr.drewN m:=Calls.quiet_of (h _ (c.drewN n) x y d f)
theorem dYq(K:Int->Int->Int)(I g P c a b:Nat)(m:List Int)(w:Ab)(h:Blk w g 3 (i64s m).toArray)(J:m.length=P)(hb:b<=P)(hab:a<=b)(ar:P<=4096)(L:CmpOk K I g m w):
  Calls fZ 110 #[.slice (some ⟨g,0,none⟩) P c,.int .i64 (a:Int),.int .i64 (b:Int),.func (.func 55) #[] #[.pointer (some ⟨I,0,none⟩)]] w (SoT g m (bQu K a b m) w):=by
 obtain⟨T,u⟩:=fX (bQu K a b m);rw[u];have M:=fQ (SX.start (F:=fun D=>aZe K a (b - (a+1)) (a+1) D=T) h u);have r:=fQ J;have HK:=fQ L;clear h J L u;go_in;go_wp2;go_loopw [8] (fun i wr=>∃ k:Nat,a<k/\k<=b+1/\i = .int .i64 k/\Hid (SX 3 w g m (fun D=>aZe K a (b - k) k D=T) wr)) (fun i _=>b+1 - (intOf i).toNat)
 case atStart=>exact⟨a+1,by omega,by omega,by simp,M⟩
 case round=>
  clear M;obtain⟨k,au,av,rfl,o⟩:=hrel;by_cases N:k<b
  ·have t1:decide ((k:Int)<b)=true:=(by simp;omega);go_wp2_with fail;go_loopw [9] (fun j wr=>∃ q:Nat,a<=q/\q<=k/\j = .int .i64 q/\Hid (SX 3 w g m (fun D=>aZe K a (b - (k+1)) (k+1) (aXc K a q D)=T) wr)) (fun j _=>(intOf j).toNat)
   case atStart=>exact⟨k,by omega,by omega,rfl,fQ (o.out.imp (fun D h=>cVx N h))⟩
   case round=>
    clear o;obtain⟨q,an,ao,rfl,o⟩:=hrel;by_cases z:a<q
    ·have O:decide ((a:Int)<q)=true:=(by simp;omega);have Q:decide (a<q)=true:=(by simp;omega);obtain⟨d,rfl⟩:∃ d,q=d+1:=⟨q - 1,by omega⟩;obtain⟨D,hp,hF,e,f⟩:=o.out;obtain⟨x,l,R⟩:=SP.len hp r.out (show d+1<P by omega);obtain⟨y,n,S⟩:=SP.len hp r.out (show d<P by omega);have c1:=mV e l;have U:=mV e n;have y1:=e.lt;have w1:IntKind.i64.wrap (((d+1:Nat):Int) - 1)=(d:Int):=(by rw[show((d+1:Nat):Int) - 1=(d:Int) by omega];exact Aq _ (by omega));have t3:((d+1:Nat):Int)<(P:Int):=(by omega);have t4:((d:Nat):Int)<(P:Int):=(by omega);have s:=fQ (HK.out.at f R S);obtain⟨v,A⟩:=fX (K x y);rw[A]at s;obtain⟨q1,B⟩:∃ q1,d+1=q1:=⟨_,rfl⟩;rw[B]at c1 w1 t3 O Q ⊢;have V:=fQ B;have C:=fQ l;have E:=fQ n;have W:=fQ hp;have G:=fQ e;have H:=fQ f;have X:=fQ A;have Y:=fQ hF;have HR:=fQ (show a<=d/\d<=k/\d<q1 by omega);have aq:=fQ z;clear l n R S hp e f A hF B z an ao o;by_cases p:v<0
     ·have t5:decide (v<0)=true:=by simpa using p
      have t:=fQ (show aZe K a (b - (k+1)) (k+1) (aXc K a d (swp D q1 d))=T from by
       have h1:=cVy (K:=K) aq.out C.out E.out (by rw[X.out];exact p);have h2:=Y.out;rw[h1,V.out]at h2
       exact h2)
      clear p;go_wp2_with fail;go_quiet ((go_at_call 55;exact s.out _));have e:=G.out.drewN nq;have f:=H.out.drewN nq;have l:=C.out;rw[V.out]at l;have n:=E.out;have hp:=W.out;generalize wr.drewN nq=Z at e f ⊢;clear s c1 U y1 G H;have c1:=mV e l;have U:=mV e n;have z1:=frozen_of_row Z g q1 _ _ e;have z2:=frozen_of_row Z g d _ _ e;have y1:=e.lt;have y2:=qK e q1 y;have y3:=qK e d x;have z3:=frozen_of_row _ g d _ _ y2;have z4:=frozen_of_row _ g q1 _ _ y3;obtain⟨u3,c3⟩:=sY y2 (show d<(D.set q1 y).length by rw[AQ,hp.length_eq,r.out];omega);obtain⟨u4,c4⟩:=sY y3 (show q1<(D.set d x).length by rw[AQ,hp.length_eq,r.out];omega);have HA:=fQ (SX.swap (F:=fun D=>aZe K a (b - (k+1)) (k+1) (aXc K a d D)=T) hp t.out e f l n);have HB:=fQ (SX.fQr (F:=fun D=>aZe K a (b - (k+1)) (k+1) (aXc K a d D)=T) hp t.out e f l n);clear l n hp e f y2 y3;go_wp2_with fail;go_region
      all_goals
       have hq:=HR.out;go_wp2
       first
        | exact⟨⟨d,by omega,by omega,rfl,fQ (HA.out.drewN _)⟩,by simp[intOf];omega⟩
        | exact⟨⟨d,by omega,by omega,rfl,fQ (HB.out.drewN _)⟩,by simp[intOf];omega⟩
        | exact⟨⟨d,by omega,by omega,rfl,fQ HA.out.drew⟩,by simp[intOf];omega⟩
        | exact⟨⟨d,by omega,by omega,rfl,fQ HB.out.drew⟩,by simp[intOf];omega⟩
        | trace_state
     ·have t5:decide (v<0)=false:=by simpa using p
      have t:=fQ (show aZe K a (b - (k+1)) (k+1) D=T from by
       have h1:=cVz (K:=K) (a:=a) C.out E.out (by rw[X.out];exact p);have h2:=Y.out;rw[h1]at h2
       exact h2)
      clear p;go_wp2_with fail;go_quiet ((go_at_call 55;exact s.out _));go_wp2;exact⟨⟨k+1,by omega,by omega,by simp,fQ ⟨D,W.out,t.out,G.out.drewN _,H.out.drewN _⟩⟩,by simp[intOf];omega⟩
    ·have O:decide ((a:Int)<q)=false:=(by simp;omega);have Q:decide (a<q)=false:=(by simp;omega);go_wp2_with fail;go_quiet (fail);go_wp2;exact⟨⟨k+1,by omega,by omega,by simp,fQ ((o.out.imp (fun D h=>by rw[dKu z]at h;exact h)).drewN _)⟩,by simp[intOf];omega⟩
  ·have t1:decide ((k:Int)<b)=false:=(by simp;omega);go_wp2;go_end0;obtain⟨D,hp,hF,e,f⟩:=o.out;obtain rfl:=dKt N hF;exact⟨rfl,hp,e,f⟩
theorem dYr(K:Int->Int->Int)(ba g P c:Nat)(aK:P<=4096):∀ (J a m b:Nat) (t:List Int) (w:Ab),b - a<=J->Blk w g 3 (i64s t).toArray->t.length=P->a<m->m<b->b<=P->CmpOk K ba g t w ->
  Calls fZ 111 #[.slice (some ⟨g,0,none⟩) P c,.int .i64 (a:Int),.int .i64 (m:Int),.int .i64 (b:Int),.func (.func 55) #[] #[.pointer (some ⟨ba,0,none⟩)]] w (SoT g t (aQi K J a m b t) w):=by
 intro J
 induction J with
 | zero=>intro a m b t w hsz h hP ha hm hb hk;omega
 | succ J ih=>
  intro a m b t w hsz h hP ha hm hb hk;have IH:=fQ ih;obtain⟨T,hT⟩:=fX (aQi K (J+1) a m b t);rw[hT];have aD:=fQ hT;have H0:=fQ h;have M:=fQ hP;have HK:=fQ hk;clear h hP hk ih hT;have w1:IntKind.i64.wrap ((m:Int) - (a:Int))=((m - a:Nat):Int):=(by rw[show(m:Int) - (a:Int)=((m - a:Nat):Int) by omega];exact Aq _ (by omega));have w2:IntKind.i64.wrap ((b:Int) - (m:Int))=((b - m:Nat):Int):=(by rw[show(b:Int) - (m:Int)=((b - m:Nat):Int) by omega];exact Aq _ (by omega));go_in;by_cases e1:m - a=1
  ·have t1:(((m - a:Nat):Int) == 1)=true:=(by rw[e1];rfl);go_wp2;obtain⟨I,X⟩:=fX (bsV (fun h=>aQh K t h a) m b);have HI:=fQ X;have ay:=fQ (show upS (I - 1 - a) a t=T from by rw[<-X,<-aD.out,dKx e1]);clear X;go_loopw [10,11] (fun iv Y wr=>∃ i j:Nat,m<=i/\i<=j/\j<=b/\iv = .int .i64 i/\Y = .int .i64 j/\Hid (Blk wr g 3 (i64s t).toArray/\Only g w wr/\BSI (fun h=>aQh K t h a) I i j)) (fun iv Y _=>(intOf Y - intOf iv).toNat)
   case atStart=>exact⟨_,_,by omega,by omega,by omega,rfl,rfl,fQ ⟨H0.out,Only.refl _ _,by rw[<-HI.out];exact BSI.start _ _ _⟩⟩
   case round=>
    clear H0;obtain⟨i,j,hi,aE,hj,rfl,rfl,d⟩:=hrel;by_cases aq:i<j
    ·have b1:decide ((i:Int)<j)=true:=(by simp;omega);have ao:decide (i<j)=true:=(by simp;omega);obtain⟨h,u⟩:=fX ((i+j) / 2);have b2:((i:Int)+(j:Int)) / 2=(h:Int):=(by omega);have aF:i<=h:=(by omega);have aG:h<j:=(by omega);skip;obtain⟨l,n,L⟩:=d.out;obtain⟨x,E,Z⟩:=SP.len (List.Perm.refl t) M.out (show h<P by omega);obtain⟨y,H,ak⟩:=SP.len (List.Perm.refl t) M.out (show a<P by omega);have HX:=fQ E;have HY:=fQ H;have z:=fQ l;have A:=fQ n;have ar:=fQ L;have c1:=mV l E;have c2:=mV l H;have y1:=l.lt;have b3:((h:Nat):Int)<(P:Int):=(by omega);have b4:((a:Nat):Int)<(P:Int):=(by omega);have HC:=fQ (HK.out.at n Z ak);obtain⟨v,hv⟩:=fX (K x y);rw[hv]at HC;have HV:=fQ hv;clear E H Z ak l n L hv d;by_cases C:v<0
     ·have b5:decide (v<0)=true:=(by simpa using C);have HT:=fQ (BSI.up ar.out u aq (by simp only[aQr HX.out HY.out];rw[HV.out];simpa using C));clear C u;go_wp2_with fail;go_quiet ((go_at_call 55;exact HC.out _));go_wp2;exact⟨⟨h+1,j,by omega,by omega,by omega,by simp,rfl,fQ ⟨z.out.drewN _,A.out.drewN _,HT.out⟩⟩,by simp[intOf];omega⟩
     ·have b5:decide (v<0)=false:=(by simpa using C);have HT:=fQ (BSI.dn ar.out u aq (by simp only[aQr HX.out HY.out];rw[HV.out];simpa using C));clear C u;go_wp2_with fail;go_quiet ((go_at_call 55;exact HC.out _));go_wp2;exact⟨⟨i,h,by omega,by omega,by omega,rfl,rfl,fQ ⟨z.out.drewN _,A.out.drewN _,HT.out⟩⟩,by simp[intOf];omega⟩
    ·have b1:decide ((i:Int)<j)=false:=(by simp;omega);have ao:decide (i<j)=false:=(by simp;omega);have al:i=j:=(by omega);subst al;obtain⟨l,n,L⟩:=d.out;have aw:=L.done;subst aw;clear L;obtain⟨i0,aM⟩:∃ i0,i=i0+1:=⟨i - 1,by omega⟩;subst aM;have b6:IntKind.i64.wrap (((i0+1:Nat):Int) - 1)=(i0:Int):=(by rw[show((i0+1:Nat):Int) - 1=(i0:Int) by omega];exact Aq _ (by omega));obtain⟨i1,aL⟩:=fX (i0+1);have aW:=fQ aL;have aH:=fQ (show upS (i0 - a) a t=T from ay.out);rw[aL]at b6 b1 ao hi hj ⊢;go_wp2_with fail;go_loopw [13] (fun kv wr=>∃ k:Nat,k<=i0/\kv = .int .i64 k/\Hid (SX 3 w g t (fun D=>upS (i0 - k) k D=T) wr)) (fun kv _=>i0 - (intOf kv).toNat)
     case atStart=>exact⟨a,by omega,rfl,fQ ⟨t,.refl _,aH.out,l,n⟩⟩
     case round=>
      clear d b1 ao l n;obtain⟨k,hk,rfl,d⟩:=hrel;by_cases az:k<i0
      ·have b1:decide ((k:Int)<(i0:Int))=true:=(by simp;omega);have ao:decide (k<i0)=true:=(by simp;omega);obtain⟨q,hq⟩:=fX (k+1);have b7:IntKind.i64.wrap ((k:Int)+1)=(q:Int):=(by rw[show(k:Int)+1=(q:Int) by omega];exact Aq _ (by omega));have aX:(k:Int)+1=(q:Int):=(by omega);obtain⟨D,hp,hF,l,n⟩:=d.out;obtain⟨x,E,Z⟩:=SP.len hp M.out (show k<P by omega);obtain⟨y,H,ak⟩:=SP.len hp M.out (show q<P by omega);have c1:=mV l E;have c2:=mV l H;have z1:=frozen_of_row wr g k _ _ l;have z2:=frozen_of_row wr g q _ _ l;have y1:=l.lt;have y2:=qK l k y;have y3:=qK l q x;have z3:=frozen_of_row _ g q _ _ y2;have z4:=frozen_of_row _ g k _ _ y3;obtain⟨u3,c3⟩:=sY y2 (show q<(D.set k y).length by rw[AQ,hp.length_eq,M.out];omega);obtain⟨u4,c4⟩:=sY y3 (show k<(D.set q x).length by rw[AQ,hp.length_eq,M.out];omega);have b8:((k:Nat):Int)<(P:Int):=(by omega);have b9:((q:Nat):Int)<(P:Int):=(by omega);have ax:=fQ (show(fun D=>upS (i0 - (k+1)) (k+1) D=T) (swp D k q)from by rw[<-hq];exact(by have h:=dKv az hF;exact h));rw[hq]at ax;have HA:=fQ (SX.swap (F:=fun D=>upS (i0 - q) q D=T) hp ax.out l n E H);have HB:=fQ (SX.fQr (F:=fun D=>upS (i0 - q) q D=T) hp ax.out l n E H);clear E H Z ak hp hF l n y2 y3 d;obtain⟨wo,rfl⟩:∃ wo:Ab,wo=wr:=⟨_,rfl⟩;go_wp2_with fail;go_region
       all_goals
        go_wp2
        first
         | exact⟨⟨q,by omega,by first | rfl | simp,fQ (HA.out.drewN _)⟩,by simp[intOf];omega⟩
         | exact⟨⟨q,by omega,by first | rfl | simp,fQ (HB.out.drewN _)⟩,by simp[intOf];omega⟩
         | exact⟨⟨q,by omega,by first | rfl | simp,fQ (HA.out.drew)⟩,by simp[intOf];omega⟩
         | exact⟨⟨q,by omega,by first | rfl | simp,fQ (HB.out.drew)⟩,by simp[intOf];omega⟩
         | trace_state
      ·have b1:decide ((k:Int)<(i0:Int))=false:=(by simp;omega);have ao:decide (k<i0)=false:=(by simp;omega);go_wp2;go_end0;obtain⟨D,hp,hF,l,n⟩:=d.out;obtain rfl:=eQg az hF;exact⟨rfl,hp,l,n⟩
  ·have t1:(((m - a:Nat):Int) == 1)=false:=(by rw[beq_eq_false_iff_ne];omega);have aY:((m - a) == 1)=false:=(by rw[beq_eq_false_iff_ne];omega);by_cases e2:b - m=1
   ·have t2:(((b - m:Nat):Int) == 1)=true:=(by rw[e2];rfl);go_wp2;obtain⟨I,X⟩:=fX (bsV (fun h=>!aQh K t m h) a m);have HI:=fQ X;have ay:=fQ (show dnS I m t=T from by rw[<-X,<-aD.out,dKy e1 e2]);clear X;go_loopw [14,15] (fun iv Y wr=>∃ i j:Nat,a<=i/\i<=j/\j<=m/\iv = .int .i64 i/\Y = .int .i64 j/\Hid (Blk wr g 3 (i64s t).toArray/\Only g w wr/\BSI (fun h=>!aQh K t m h) I i j)) (fun iv Y _=>(intOf Y - intOf iv).toNat)
    case atStart=>exact⟨_,_,by omega,by omega,by omega,rfl,rfl,fQ ⟨H0.out,Only.refl _ _,by rw[<-HI.out];exact BSI.start _ _ _⟩⟩
    case round=>
     clear H0;obtain⟨i,j,hi,aE,hj,rfl,rfl,d⟩:=hrel;by_cases aq:i<j
     ·have b1:decide ((i:Int)<j)=true:=(by simp;omega);have ao:decide (i<j)=true:=(by simp;omega);obtain⟨h,u⟩:=fX ((i+j) / 2);have b2:((i:Int)+(j:Int)) / 2=(h:Int):=(by omega);have aF:i<=h:=(by omega);have aG:h<j:=(by omega);skip;obtain⟨l,n,L⟩:=d.out;obtain⟨x,E,Z⟩:=SP.len (List.Perm.refl t) M.out (show m<P by omega);obtain⟨y,H,ak⟩:=SP.len (List.Perm.refl t) M.out (show h<P by omega);have HX:=fQ E;have HY:=fQ H;have z:=fQ l;have A:=fQ n;have ar:=fQ L;have c1:=mV l E;have c2:=mV l H;have y1:=l.lt;have b3:((m:Nat):Int)<(P:Int):=(by omega);have b4:((h:Nat):Int)<(P:Int):=(by omega);have HC:=fQ (HK.out.at n Z ak);obtain⟨v,hv⟩:=fX (K x y);rw[hv]at HC;have HV:=fQ hv;clear E H Z ak l n L hv d;by_cases C:v<0
      ·have b5:decide (v<0)=true:=(by simpa using C);have HT:=fQ (BSI.dn ar.out u aq (by simp only[aQr HX.out HY.out];rw[HV.out];simpa using C));clear C u;go_wp2_with fail;go_quiet ((go_at_call 55;exact HC.out _));go_wp2;exact⟨⟨i,h,by omega,by omega,by omega,rfl,rfl,fQ ⟨z.out.drewN _,A.out.drewN _,HT.out⟩⟩,by simp[intOf];omega⟩
      ·have b5:decide (v<0)=false:=(by simpa using C);have HT:=fQ (BSI.up ar.out u aq (by simp only[aQr HX.out HY.out];rw[HV.out];simpa using C));clear C u;go_wp2_with fail;go_quiet ((go_at_call 55;exact HC.out _));go_wp2;exact⟨⟨h+1,j,by omega,by omega,by omega,by simp,rfl,fQ ⟨z.out.drewN _,A.out.drewN _,HT.out⟩⟩,by simp[intOf];omega⟩
     ·have b1:decide ((i:Int)<j)=false:=(by simp;omega);have ao:decide (i<j)=false:=(by simp;omega);have al:i=j:=(by omega);subst al;obtain⟨l,n,L⟩:=d.out;have aw:=L.done;subst aw;clear L;have aH:=fQ (show dnS i m t=T from ay.out);go_wp2_with fail;go_loopw [17] (fun kv wr=>∃ k:Nat,i<=k/\k<=m/\kv = .int .i64 k/\Hid (SX 3 w g t (fun D=>dnS i k D=T) wr)) (fun kv _=>(intOf kv).toNat)
      case atStart=>exact⟨m,by omega,by omega,rfl,fQ ⟨t,.refl _,aH.out,l,n⟩⟩
      case round=>
       clear d b1 ao l n;obtain⟨k,hk,aZ,rfl,d⟩:=hrel;by_cases az:i<k
       ·have b1:decide ((i:Int)<(k:Int))=true:=(by simp;omega);have ao:decide (i<k)=true:=(by simp;omega);obtain⟨q,hq⟩:=fX (k - 1);have b7:IntKind.i64.wrap ((k:Int) - 1)=(q:Int):=(by rw[show(k:Int) - 1=(q:Int) by omega];exact Aq _ (by omega));obtain⟨D,hp,hF,l,n⟩:=d.out;obtain⟨x,E,Z⟩:=SP.len hp M.out (show k<P by omega);obtain⟨y,H,ak⟩:=SP.len hp M.out (show q<P by omega);have c1:=mV l E;have c2:=mV l H;have z1:=frozen_of_row wr g k _ _ l;have z2:=frozen_of_row wr g q _ _ l;have y1:=l.lt;have y2:=qK l k y;have y3:=qK l q x;have z3:=frozen_of_row _ g q _ _ y2;have z4:=frozen_of_row _ g k _ _ y3;obtain⟨u3,c3⟩:=sY y2 (show q<(D.set k y).length by rw[AQ,hp.length_eq,M.out];omega);obtain⟨u4,c4⟩:=sY y3 (show k<(D.set q x).length by rw[AQ,hp.length_eq,M.out];omega);have b8:((k:Nat):Int)<(P:Int):=(by omega);have b9:((q:Nat):Int)<(P:Int):=(by omega);have ax:=fQ (show(fun D=>dnS i (k - 1) D=T) (swp D k q)from by rw[<-hq];exact(dKw az hF));rw[hq]at ax;have HA:=fQ (SX.swap (F:=fun D=>dnS i q D=T) hp ax.out l n E H);have HB:=fQ (SX.fQr (F:=fun D=>dnS i q D=T) hp ax.out l n E H);clear E H Z ak hp hF l n y2 y3 d;obtain⟨wo,rfl⟩:∃ wo:Ab,wo=wr:=⟨_,rfl⟩;go_wp2_with fail;go_region
        all_goals
         go_wp2
         first
          | exact⟨⟨q,by omega,by omega,by first | rfl | simp,fQ (HA.out.drewN _)⟩,by simp[intOf];omega⟩
          | exact⟨⟨q,by omega,by omega,by first | rfl | simp,fQ (HB.out.drewN _)⟩,by simp[intOf];omega⟩
          | exact⟨⟨q,by omega,by omega,by first | rfl | simp,fQ (HA.out.drew)⟩,by simp[intOf];omega⟩
          | exact⟨⟨q,by omega,by omega,by first | rfl | simp,fQ (HB.out.drew)⟩,by simp[intOf];omega⟩
          | trace_state
       ·have b1:decide ((i:Int)<(k:Int))=false:=(by simp;omega);have ao:decide (i<k)=false:=(by simp;omega);go_wp2;go_end0;obtain⟨D,hp,hF,l,n⟩:=d.out;obtain rfl:=eQh az hF;exact⟨rfl,hp,l,n⟩
   ·have t2:(((b - m:Nat):Int) == 1)=false:=(by rw[beq_eq_false_iff_ne];omega);have a1:((b - m) == 1)=false:=(by rw[beq_eq_false_iff_ne];omega);obtain⟨mid,aA⟩:=fX ((a+b) / 2);obtain⟨N,aN⟩:=fX (mid+m);obtain⟨p,hp⟩:=fX (N - 1);have m1:((a:Int)+(b:Int)) / 2=(mid:Int):=(by omega);have m2:IntKind.i64.wrap ((mid:Int)+(m:Int))=(N:Int):=(by rw[show(mid:Int)+(m:Int)=(N:Int) by omega];exact Aq _ (by omega));have m3:IntKind.i64.wrap ((N:Int) - 1)=(p:Int):=(by rw[show(N:Int) - 1=(p:Int) by omega];exact Aq _ (by omega));have m4:a<mid:=(by omega);have m5:mid<b:=(by omega);have m6:a+b<=2*mid+1:=(by omega);have m7:2*mid<=a+b:=(by omega);have av:=fQ aA;have aC:=fQ aN;have ay:=fQ aD.out;clear aA;by_cases e3:mid<m
    ·have t3:decide ((mid:Int)<(m:Int))=true:=(by simp;omega);have aO:decide (mid<m)=true:=(by simp;omega);obtain⟨lo,aP⟩:=fX (N - b);have m8:IntKind.i64.wrap ((N:Int) - (b:Int))=(lo:Int):=(by rw[show(N:Int) - (b:Int)=(lo:Int) by omega];exact Aq _ (by omega));obtain⟨I,X⟩:=fX (bsV (fun c=>!aQh K t (N - 1 - c) c) lo mid);have HI:=fQ X
     have aI:=fQ (show bJb K a m b t=I from by
      unfold bJb;rw[av.out,aC.out,if_pos e3,aP]
      exact X)
     clear X;go_wp2_with fail;go_loopw [20,21] (fun iv Y wr=>∃ i j:Nat,lo<=i/\i<=j/\j<=mid/\iv = .int .i64 i/\Y = .int .i64 j/\Hid (Blk wr g 3 (i64s t).toArray/\Only g w wr/\BSI (fun c=>!aQh K t (N - 1 - c) c) I i j)) (fun iv Y _=>(intOf Y - intOf iv).toNat)
     case atStart=>exact⟨_,_,by omega,by omega,by omega,rfl,rfl,fQ ⟨H0.out,Only.refl _ _,by rw[<-HI.out];exact BSI.start _ _ _⟩⟩
     case round=>
      clear H0;obtain⟨i,j,hi,aE,hj,rfl,rfl,d⟩:=hrel;by_cases aq:i<j
      ·have b1:decide ((i:Int)<j)=true:=(by simp;omega);have ao:decide (i<j)=true:=(by simp;omega);obtain⟨h,u⟩:=fX ((i+j) / 2);have b2:((i:Int)+(j:Int)) / 2=(h:Int):=(by omega);have aF:i<=h:=(by omega);have aG:h<j:=(by omega);obtain⟨pc,aB⟩:=fX (N - 1 - h);have b6:IntKind.i64.wrap ((p:Int) - (h:Int))=(pc:Int):=(by rw[show(p:Int) - (h:Int)=(pc:Int) by omega];exact Aq _ (by omega));obtain⟨l,n,L⟩:=d.out;obtain⟨x,E,Z⟩:=SP.len (List.Perm.refl t) M.out (show pc<P by omega);obtain⟨y,H,ak⟩:=SP.len (List.Perm.refl t) M.out (show h<P by omega);have HX:=fQ E;have HY:=fQ H;have z:=fQ l;have A:=fQ n;have ar:=fQ L;have c1:=mV l E;have c2:=mV l H;have y1:=l.lt;have b3:((pc:Nat):Int)<(P:Int):=(by omega);have b4:((h:Nat):Int)<(P:Int):=(by omega);have HC:=fQ (HK.out.at n Z ak);obtain⟨v,hv⟩:=fX (K x y);rw[hv]at HC;have HV:=fQ hv;clear E H Z ak l n L hv d;by_cases C:v<0
       ·have b5:decide (v<0)=true:=(by simpa using C);have HT:=fQ (BSI.dn ar.out u aq (by simp only[aB,aQr HX.out HY.out];rw[HV.out];simpa using C));clear C u;go_wp2_with fail;go_quiet ((go_at_call 55;exact HC.out _));go_wp2;exact⟨⟨i,h,by omega,by omega,by omega,rfl,rfl,fQ ⟨z.out.drewN _,A.out.drewN _,HT.out⟩⟩,by simp[intOf];omega⟩
       ·have b5:decide (v<0)=false:=(by simpa using C);have HT:=fQ (BSI.up ar.out u aq (by simp only[aB,aQr HX.out HY.out];rw[HV.out];simpa using C));clear C u;go_wp2_with fail;go_quiet ((go_at_call 55;exact HC.out _));go_wp2;exact⟨⟨h+1,j,by omega,by omega,by omega,by simp,rfl,fQ ⟨z.out.drewN _,A.out.drewN _,HT.out⟩⟩,by simp[intOf];omega⟩
      ·have b1:decide ((i:Int)<j)=false:=(by simp;omega);have ao:decide (i<j)=false:=(by simp;omega);have al:i=j:=(by omega);subst al;obtain⟨l,n,L⟩:=d.out;have aw:=L.done;subst aw;clear L;obtain⟨o,aJ⟩:=fX (N - i);have b6:IntKind.i64.wrap ((N:Int) - (i:Int))=(o:Int):=(by rw[show(N:Int) - (i:Int)=(o:Int) by omega];exact Aq _ (by omega));have aQ:i<=m:=(by omega);have aR:i<=mid:=(by omega);have aS:o<=b:=(by omega);have aT:a<=i:=(by omega);have aU:mid<=o:=(by omega);have aV:m<=o:=(by omega);have au:=bWf (K:=K) (f:=J) (D:=t) (b:=b) (s:=i) (mid:=mid) (e:=o) e1 e2 aI.out av.out (by rw[aC.out];exact aJ);have r:=fQ (show SX 3 w g t (fun D=>aZv K J a m i mid o b D=T) wr from⟨t,.refl _,by show aZv K J a m i mid o b t=T;rw[<-au];exact ay.out,l,n⟩);clear d l n au;have d:=r;clear r;by_cases B:i<m
       case' neg=>
        have O:decide ((i:Int)<(m:Int))=false:=(by simp;omega);have Q:decide (i<m)=false:=(by simp;omega);have r:=fQ (d.out.imp (G:=fun D=>aXn K J a i mid o b D=T) (fun D h=>by rw[aZv,if_neg (fun u=>B u.1)]at h;exact h));clear d;have d:=r;clear r
       case' pos=>
        have O:decide ((i:Int)<(m:Int))=true:=(by simp;omega);have Q:decide (i<m)=true:=(by simp;omega);by_cases k2:m<o
        case' neg=>
         have R:decide ((m:Int)<(o:Int))=false:=(by simp;omega);have S:decide (m<o)=false:=(by simp;omega);have r:=fQ (d.out.imp (G:=fun D=>aXn K J a i mid o b D=T) (fun D h=>by rw[aZv,if_neg (fun u=>k2 u.2)]at h;exact h));clear d;have d:=r;clear r
        case' pos=>
         have R:decide ((m:Int)<(o:Int))=true:=(by simp;omega);have S:decide (m<o)=true:=(by simp;omega);obtain⟨D,hp,hF,l,n⟩:=d.out;have U:=fQ hF;have V:=fQ hp;have z:=fQ l;have A:=fQ n;have W:=fQ (hp.length_eq.trans M.out);have an:=fQ (HK.out.on n hp);clear hp hF l n;go_wp2_with fail;refine(dYp _ g P c i m o D _ z.out W.out B k2 (by omega) aK).mono ?_;rintro ex w3 ⟨rfl,hs⟩;have r:=fQ (show SX 3 w g t (fun D=>aXn K J a i mid o b D=T) w3 from⟨_,hs.1.trans V.out,(by have h:=U.out;rw[aZv,if_pos ⟨B,k2⟩]at h;exact h),hs.2.1,A.out.trans hs.2.2⟩);clear hs V z A W an U d;have d:=r;clear r O Q R S B k2
       all_goals
        by_cases B:a<i
        case' neg=>
         have O:decide ((a:Int)<(i:Int))=false:=(by simp;omega);have Q:decide (a<i)=false:=(by simp;omega);have r:=fQ (d.out.imp (G:=fun D=>aXm K J mid o b D=T) (fun D h=>by rw[aXn,if_neg (fun u=>B u.1)]at h;exact h));clear d;have d:=r;clear r
        case' pos=>
         have O:decide ((a:Int)<(i:Int))=true:=(by simp;omega);have Q:decide (a<i)=true:=(by simp;omega);by_cases k2:i<mid
         case' neg=>
          have R:decide ((i:Int)<(mid:Int))=false:=(by simp;omega);have S:decide (i<mid)=false:=(by simp;omega);have r:=fQ (d.out.imp (G:=fun D=>aXm K J mid o b D=T) (fun D h=>by rw[aXn,if_neg (fun u=>k2 u.2)]at h;exact h));clear d;have d:=r;clear r
         case' pos=>
          have R:decide ((i:Int)<(mid:Int))=true:=(by simp;omega);have S:decide (i<mid)=true:=(by simp;omega);obtain⟨D,hp,hF,l,n⟩:=d.out;have U:=fQ hF;have V:=fQ hp;have z:=fQ l;have A:=fQ n;have W:=fQ (hp.length_eq.trans M.out);have an:=fQ (HK.out.on n hp);clear hp hF l n;go_wp2_with fail;refine(IH.out a i mid D _ (by omega) z.out W.out B k2 (by omega) an.out).mono ?_;rintro ex w3 ⟨rfl,hs⟩;have r:=fQ (show SX 3 w g t (fun D=>aXm K J mid o b D=T) w3 from⟨_,hs.1.trans V.out,(by have h:=U.out;rw[aXn,if_pos ⟨B,k2⟩]at h;exact h),hs.2.1,A.out.trans hs.2.2⟩);clear hs V z A W an U d;have d:=r;clear r O Q R S B k2
        all_goals
         as_aux_lemma=>
          by_cases B:mid<o
          case' neg=>
           have O:decide ((mid:Int)<(o:Int))=false:=(by simp;omega);have Q:decide (mid<o)=false:=(by simp;omega);have r:=fQ (d.out.imp (G:=fun D=>D=T) (fun D h=>by rw[aXm,if_neg (fun u=>B u.1)]at h;exact h));clear d;have d:=r;clear r
          case' pos=>
           have O:decide ((mid:Int)<(o:Int))=true:=(by simp;omega);have Q:decide (mid<o)=true:=(by simp;omega);by_cases k2:o<b
           case' neg=>
            have R:decide ((o:Int)<(b:Int))=false:=(by simp;omega);have S:decide (o<b)=false:=(by simp;omega);have r:=fQ (d.out.imp (G:=fun D=>D=T) (fun D h=>by rw[aXm,if_neg (fun u=>k2 u.2)]at h;exact h));clear d;have d:=r;clear r
           case' pos=>
            have R:decide ((o:Int)<(b:Int))=true:=(by simp;omega);have S:decide (o<b)=true:=(by simp;omega);obtain⟨D,hp,hF,l,n⟩:=d.out;have U:=fQ hF;have V:=fQ hp;have z:=fQ l;have A:=fQ n;have W:=fQ (hp.length_eq.trans M.out);have an:=fQ (HK.out.on n hp);clear hp hF l n;go_wp2_with fail;refine(IH.out mid o b D _ (by omega) z.out W.out B k2 (by omega) an.out).mono ?_;rintro ex w3 ⟨rfl,hs⟩;have r:=fQ (show SX 3 w g t (fun D=>D=T) w3 from⟨_,hs.1.trans V.out,(by have h:=U.out;rw[aXm,if_pos ⟨B,k2⟩]at h;exact h),hs.2.1,A.out.trans hs.2.2⟩);clear hs V z A W an U d;have d:=r;clear r O Q R S B k2
          all_goals
           go_wp2;go_end0;obtain⟨D,hp,hF,l,n⟩:=d.out;obtain rfl:=hF;exact⟨rfl,hp,l,n⟩
    ·have t3:decide ((mid:Int)<(m:Int))=false:=(by simp;omega);have aO:decide (mid<m)=false:=(by simp;omega);obtain⟨I,X⟩:=fX (bsV (fun c=>!aQh K t (N - 1 - c) c) a m);have HI:=fQ X
     have aI:=fQ (show bJb K a m b t=I from by
      unfold bJb;rw[av.out,aC.out,if_neg e3]
      exact X)
     clear X;go_wp2_with fail;go_loopw [20,21] (fun iv Y wr=>∃ i j:Nat,a<=i/\i<=j/\j<=m/\iv = .int .i64 i/\Y = .int .i64 j/\Hid (Blk wr g 3 (i64s t).toArray/\Only g w wr/\BSI (fun c=>!aQh K t (N - 1 - c) c) I i j)) (fun iv Y _=>(intOf Y - intOf iv).toNat)
     case atStart=>exact⟨_,_,by omega,by omega,by omega,rfl,rfl,fQ ⟨H0.out,Only.refl _ _,by rw[<-HI.out];exact BSI.start _ _ _⟩⟩
     case round=>
      clear H0;obtain⟨i,j,hi,aE,hj,rfl,rfl,d⟩:=hrel;by_cases aq:i<j
      ·have b1:decide ((i:Int)<j)=true:=(by simp;omega);have ao:decide (i<j)=true:=(by simp;omega);obtain⟨h,u⟩:=fX ((i+j) / 2);have b2:((i:Int)+(j:Int)) / 2=(h:Int):=(by omega);have aF:i<=h:=(by omega);have aG:h<j:=(by omega);obtain⟨pc,aB⟩:=fX (N - 1 - h);have b6:IntKind.i64.wrap ((p:Int) - (h:Int))=(pc:Int):=(by rw[show(p:Int) - (h:Int)=(pc:Int) by omega];exact Aq _ (by omega));obtain⟨l,n,L⟩:=d.out;obtain⟨x,E,Z⟩:=SP.len (List.Perm.refl t) M.out (show pc<P by omega);obtain⟨y,H,ak⟩:=SP.len (List.Perm.refl t) M.out (show h<P by omega);have HX:=fQ E;have HY:=fQ H;have z:=fQ l;have A:=fQ n;have ar:=fQ L;have c1:=mV l E;have c2:=mV l H;have y1:=l.lt;have b3:((pc:Nat):Int)<(P:Int):=(by omega);have b4:((h:Nat):Int)<(P:Int):=(by omega);have HC:=fQ (HK.out.at n Z ak);obtain⟨v,hv⟩:=fX (K x y);rw[hv]at HC;have HV:=fQ hv;clear E H Z ak l n L hv d;by_cases C:v<0
       ·have b5:decide (v<0)=true:=(by simpa using C);have HT:=fQ (BSI.dn ar.out u aq (by simp only[aB,aQr HX.out HY.out];rw[HV.out];simpa using C));clear C u;go_wp2_with fail;go_quiet ((go_at_call 55;exact HC.out _));go_wp2;exact⟨⟨i,h,by omega,by omega,by omega,rfl,rfl,fQ ⟨z.out.drewN _,A.out.drewN _,HT.out⟩⟩,by simp[intOf];omega⟩
       ·have b5:decide (v<0)=false:=(by simpa using C);have HT:=fQ (BSI.up ar.out u aq (by simp only[aB,aQr HX.out HY.out];rw[HV.out];simpa using C));clear C u;go_wp2_with fail;go_quiet ((go_at_call 55;exact HC.out _));go_wp2;exact⟨⟨h+1,j,by omega,by omega,by omega,by simp,rfl,fQ ⟨z.out.drewN _,A.out.drewN _,HT.out⟩⟩,by simp[intOf];omega⟩
      ·have b1:decide ((i:Int)<j)=false:=(by simp;omega);have ao:decide (i<j)=false:=(by simp;omega);have al:i=j:=(by omega);subst al;obtain⟨l,n,L⟩:=d.out;have aw:=L.done;subst aw;clear L;obtain⟨o,aJ⟩:=fX (N - i);have b6:IntKind.i64.wrap ((N:Int) - (i:Int))=(o:Int):=(by rw[show(N:Int) - (i:Int)=(o:Int) by omega];exact Aq _ (by omega));have aQ:i<=m:=(by omega);have aR:i<=mid:=(by omega);have aS:o<=b:=(by omega);have aT:a<=i:=(by omega);have aU:mid<=o:=(by omega);have aV:m<=o:=(by omega);have au:=bWf (K:=K) (f:=J) (D:=t) (b:=b) (s:=i) (mid:=mid) (e:=o) e1 e2 aI.out av.out (by rw[aC.out];exact aJ);have r:=fQ (show SX 3 w g t (fun D=>aZv K J a m i mid o b D=T) wr from⟨t,.refl _,by show aZv K J a m i mid o b t=T;rw[<-au];exact ay.out,l,n⟩);clear d l n au;have d:=r;clear r;by_cases B:i<m
       case' neg=>
        have O:decide ((i:Int)<(m:Int))=false:=(by simp;omega);have Q:decide (i<m)=false:=(by simp;omega);have r:=fQ (d.out.imp (G:=fun D=>aXn K J a i mid o b D=T) (fun D h=>by rw[aZv,if_neg (fun u=>B u.1)]at h;exact h));clear d;have d:=r;clear r
       case' pos=>
        have O:decide ((i:Int)<(m:Int))=true:=(by simp;omega);have Q:decide (i<m)=true:=(by simp;omega);by_cases k2:m<o
        case' neg=>
         have R:decide ((m:Int)<(o:Int))=false:=(by simp;omega);have S:decide (m<o)=false:=(by simp;omega);have r:=fQ (d.out.imp (G:=fun D=>aXn K J a i mid o b D=T) (fun D h=>by rw[aZv,if_neg (fun u=>k2 u.2)]at h;exact h));clear d;have d:=r;clear r
        case' pos=>
         have R:decide ((m:Int)<(o:Int))=true:=(by simp;omega);have S:decide (m<o)=true:=(by simp;omega);obtain⟨D,hp,hF,l,n⟩:=d.out;have U:=fQ hF;have V:=fQ hp;have z:=fQ l;have A:=fQ n;have W:=fQ (hp.length_eq.trans M.out);have an:=fQ (HK.out.on n hp);clear hp hF l n;go_wp2_with fail;refine(dYp _ g P c i m o D _ z.out W.out B k2 (by omega) aK).mono ?_;rintro ex w3 ⟨rfl,hs⟩;have r:=fQ (show SX 3 w g t (fun D=>aXn K J a i mid o b D=T) w3 from⟨_,hs.1.trans V.out,(by have h:=U.out;rw[aZv,if_pos ⟨B,k2⟩]at h;exact h),hs.2.1,A.out.trans hs.2.2⟩);clear hs V z A W an U d;have d:=r;clear r O Q R S B k2
       all_goals
        by_cases B:a<i
        case' neg=>
         have O:decide ((a:Int)<(i:Int))=false:=(by simp;omega);have Q:decide (a<i)=false:=(by simp;omega);have r:=fQ (d.out.imp (G:=fun D=>aXm K J mid o b D=T) (fun D h=>by rw[aXn,if_neg (fun u=>B u.1)]at h;exact h));clear d;have d:=r;clear r
        case' pos=>
         have O:decide ((a:Int)<(i:Int))=true:=(by simp;omega);have Q:decide (a<i)=true:=(by simp;omega);by_cases k2:i<mid
         case' neg=>
          have R:decide ((i:Int)<(mid:Int))=false:=(by simp;omega);have S:decide (i<mid)=false:=(by simp;omega);have r:=fQ (d.out.imp (G:=fun D=>aXm K J mid o b D=T) (fun D h=>by rw[aXn,if_neg (fun u=>k2 u.2)]at h;exact h));clear d;have d:=r;clear r
         case' pos=>
          have R:decide ((i:Int)<(mid:Int))=true:=(by simp;omega);have S:decide (i<mid)=true:=(by simp;omega);obtain⟨D,hp,hF,l,n⟩:=d.out;have U:=fQ hF;have V:=fQ hp;have z:=fQ l;have A:=fQ n;have W:=fQ (hp.length_eq.trans M.out);have an:=fQ (HK.out.on n hp);clear hp hF l n;go_wp2_with fail;refine(IH.out a i mid D _ (by omega) z.out W.out B k2 (by omega) an.out).mono ?_;rintro ex w3 ⟨rfl,hs⟩;have r:=fQ (show SX 3 w g t (fun D=>aXm K J mid o b D=T) w3 from⟨_,hs.1.trans V.out,(by have h:=U.out;rw[aXn,if_pos ⟨B,k2⟩]at h;exact h),hs.2.1,A.out.trans hs.2.2⟩);clear hs V z A W an U d;have d:=r;clear r O Q R S B k2
        all_goals
         as_aux_lemma=>
          by_cases B:mid<o
          case' neg=>
           have O:decide ((mid:Int)<(o:Int))=false:=(by simp;omega);have Q:decide (mid<o)=false:=(by simp;omega);have r:=fQ (d.out.imp (G:=fun D=>D=T) (fun D h=>by rw[aXm,if_neg (fun u=>B u.1)]at h;exact h));clear d;have d:=r;clear r
          case' pos=>
           have O:decide ((mid:Int)<(o:Int))=true:=(by simp;omega);have Q:decide (mid<o)=true:=(by simp;omega);by_cases k2:o<b
           case' neg=>
            have R:decide ((o:Int)<(b:Int))=false:=(by simp;omega);have S:decide (o<b)=false:=(by simp;omega);have r:=fQ (d.out.imp (G:=fun D=>D=T) (fun D h=>by rw[aXm,if_neg (fun u=>k2 u.2)]at h;exact h));clear d;have d:=r;clear r
           case' pos=>
            have R:decide ((o:Int)<(b:Int))=true:=(by simp;omega);have S:decide (o<b)=true:=(by simp;omega);obtain⟨D,hp,hF,l,n⟩:=d.out;have U:=fQ hF;have V:=fQ hp;have z:=fQ l;have A:=fQ n;have W:=fQ (hp.length_eq.trans M.out);have an:=fQ (HK.out.on n hp);clear hp hF l n;go_wp2_with fail;refine(IH.out mid o b D _ (by omega) z.out W.out B k2 (by omega) an.out).mono ?_;rintro ex w3 ⟨rfl,hs⟩;have r:=fQ (show SX 3 w g t (fun D=>D=T) w3 from⟨_,hs.1.trans V.out,(by have h:=U.out;rw[aXm,if_pos ⟨B,k2⟩]at h;exact h),hs.2.1,A.out.trans hs.2.2⟩);clear hs V z A W an U d;have d:=r;clear r O Q R S B k2
          all_goals
           go_wp2;go_end0;obtain⟨D,hp,hF,l,n⟩:=d.out;obtain rfl:=hF;exact⟨rfl,hp,l,n⟩
theorem eJf(K:Int->Int->Int)(t g P c:Nat)(d:List Int)(w:Ab)(h:Blk w g 3 (i64s d).toArray)(M:d.length=P)(v:P<=4096)(N:CmpOk K t g d w):
  Calls fZ 84 #[.slice (some ⟨g,0,none⟩) P c,.int .i64 (P:Int),.func (.func 55) #[] #[.pointer (some ⟨t,0,none⟩)]] w (SoT g d (bJc K P d) w):=by
 obtain⟨E,z⟩:=fX (stB K P P 0 d);obtain⟨T,A⟩:=fX (bJc K P d);rw[A];have O:=fQ (show MgAI K P 20 E T from A ▸ MgAI.start z);have Q:=fQ (SX.start (F:=fun D=>StBI K P 0 D E) h (z ▸ StBI.start K P d));have R:=fQ M;have x:=fQ N;clear h M N z A;go_in;go_wp2;go_loopw [7,8] (fun n B wr=>∃ a b:Nat,a<=P/\a+20=b/\n = .int .i64 a/\B = .int .i64 b/\Hid (SX 3 w g d (fun D=>StBI K P a D E) wr)) (fun n _ _=>P+1 - (intOf n).toNat)
 case atStart=>exact⟨0,20,by omega,rfl,rfl,rfl,Q⟩
 case round=>
  clear Q;obtain⟨a,b,ha,o,rfl,rfl,i⟩:=hrel;obtain⟨D,hp,hF,j,k⟩:=i.out;have p:=fQ hF;have e:=fQ hp;have r:=fQ j;have f:=fQ k;have u:=fQ (hp.length_eq.trans R.out);clear hp hF j k i;by_cases hle:b<=P
  ·have S:decide ((b:Int)<=P)=true:=(by simp;omega);have w1:IntKind.i64.wrap ((b:Int)+20)=((b+20:Nat):Int):=(by rw[show(b:Int)+20=((b+20:Nat):Int) by omega];exact Aq _ (by omega));go_wp2_with fail;refine(dYq K t g P c a b D _ r.out u.out hle (by omega) v (x.out.on f.out e.out)).mono ?_;rintro C y ⟨rfl,hs⟩;have l:=fQ (show SX 3 w g d (fun D=>StBI K P b D E) y from⟨_,hs.1.trans e.out,p.out.step o hle,hs.2.1,f.out.trans hs.2.2⟩);clear hs;go_wp2;exact⟨⟨b,b+20,by omega,rfl,rfl,rfl,l⟩,by simp[intOf];omega⟩
  ·have S:decide ((b:Int)<=P)=false:=(by simp;omega);go_wp2_with fail;refine(dYq K t g P c a P D _ r.out u.out (Ak _) ha v (x.out.on f.out e.out)).mono ?_;rintro C y ⟨rfl,hs⟩;have l:=fQ (show SX 3 w g d (fun D=>MgAI K P 20 D T) y from⟨_,hs.1.trans e.out,(by rw[p.out.last o hle];exact O.out),hs.2.1,f.out.trans hs.2.2⟩);clear hs e r f u p O S;go_wp2;go_loopw [6] (fun G wr=>∃ s:Nat,20<=s/\s<=8192/\G = .int .i64 s/\Hid (SX 3 w g d (fun D=>MgAI K P s D T) wr)) (fun G _=>8193 - (intOf G).toNat)
   case atStart=>exact⟨20,by omega,by omega,rfl,l⟩
   case round=>
    clear l hle ha o;obtain⟨s,H,ao,rfl,i⟩:=hrel;by_cases V:s<P
    ·have Z:decide ((s:Int)<P)=true:=(by simp;omega);have al:decide (s<P)=true:=(by simp;omega);obtain⟨q,hq⟩:=fX (2*s);have w2:IntKind.i64.wrap (2*(s:Int))=(q:Int):=(by rw[show 2*(s:Int)=(q:Int) by omega];exact Aq _ (by omega));have aq:IntKind.i64.wrap ((s:Int)*2)=(q:Int):=(by rw[show(s:Int)*2=(q:Int) by omega];exact Aq _ (by omega));go_wp2_with fail;obtain⟨D,hp,hF,j,k⟩:=i.out;obtain⟨U,I⟩:=fX (mgP K P s P 0 D);have W:=fQ (show MgAI K P q U T from I ▸ hF.step H hq V);have X:=fQ (show SX 3 w g d (fun D=>MgI K P s 0 D U) wr from⟨D,hp,I ▸ MgI.start K P s D,j,k⟩);clear hp hF j k I i;go_loopw [7,8] (fun n B wr=>∃ a b:Nat,a<=P/\a+q=b/\n = .int .i64 a/\B = .int .i64 b/\Hid (SX 3 w g d (fun D=>MgI K P s a D U) wr)) (fun n _ _=>P+1 - (intOf n).toNat)
     case atStart=>exact⟨0,q,by omega,by omega,rfl,rfl,X⟩
     case round=>
      clear X;obtain⟨a,b,ha,o,rfl,rfl,i⟩:=hrel;obtain⟨D,hp,hF,j,k⟩:=i.out;have p:=fQ hF;have e:=fQ hp;have r:=fQ j;have f:=fQ k;have u:=fQ (hp.length_eq.trans R.out);have HI:=fQ i;clear hp hF j k i;obtain⟨m,J⟩:=fX (a+s);have y:IntKind.i64.wrap ((a:Int)+(s:Int))=(m:Int):=(by rw[show(a:Int)+(s:Int)=(m:Int) by omega];exact Aq _ (by omega));by_cases hle:b<=P
      ·have t3:decide ((b:Int)<=P)=true:=(by simp;omega);have w4:IntKind.i64.wrap ((b:Int)+(q:Int))=((b+q:Nat):Int):=(by rw[show(b:Int)+(q:Int)=((b+q:Nat):Int) by omega];exact Aq _ (by omega));go_wp2_with fail;refine(dYr K t g P c v (b - a) a m b D _ (Ak _) r.out u.out (by omega) (by omega) hle (x.out.on f.out e.out)).mono ?_;rintro C L ⟨rfl,hs⟩;have l:=fQ (show SX 3 w g d (fun D=>MgI K P s b D U) L from⟨_,hs.1.trans e.out,p.out.step H hq o J hle,hs.2.1,f.out.trans hs.2.2⟩);clear hs;go_wp2;exact⟨⟨b,b+q,by omega,rfl,rfl,rfl,l⟩,by simp[intOf];omega⟩
      ·have t3:decide ((b:Int)<=P)=false:=(by simp;omega);by_cases Y:m<P
       ·have t4:decide ((m:Int)<P)=true:=(by simp;omega);have an:decide (m<P)=true:=(by simp;omega);go_wp2_with fail;refine(dYr K t g P c v (P - a) a m P D _ (Ak _) r.out u.out (by omega) (by omega) (Ak _) (x.out.on f.out e.out)).mono ?_;rintro C L ⟨rfl,hs⟩;have l:=fQ (show SX 3 w g d (fun D=>MgAI K P q D T) L from⟨_,hs.1.trans e.out,(by rw[p.out.last H hq o J hle Y];exact W.out),hs.2.1,f.out.trans hs.2.2⟩);clear hs;go_wp2;exact⟨⟨q,by omega,by omega,rfl,l⟩,by simp[intOf];omega⟩
       ·have t4:decide ((m:Int)<P)=false:=(by simp;omega);have an:decide (m<P)=false:=(by simp;omega);go_wp2;exact⟨⟨q,by omega,by omega,rfl,fQ (show SX 3 w g d (fun D=>MgAI K P q D T) _ from⟨D,e.out,(by rw[p.out.done hq o J hle Y];exact W.out),r.out,f.out⟩)⟩,by simp[intOf];omega⟩
    ·have Z:decide ((s:Int)<P)=false:=(by simp;omega);have al:decide (s<P)=false:=(by simp;omega);go_wp2;go_end0;obtain⟨D,hp,hF,j,k⟩:=i.out;obtain rfl:=hF.done V;exact⟨rfl,hp,j,k⟩
theorem eQi(K:Int->Int->Int)(b g P c:Nat)(a:List Int)(w:Ab)(h:Blk w g 3 (i64s a).toArray)(d:a.length=P)(f:P<=4096)(e:CmpOk K b g a w):
  Calls fZ 54 #[.slice (some ⟨g,0,none⟩) P c,.func (.func 55) #[] #[.pointer (some ⟨b,0,none⟩)]] w (SoT g a (bJc K P a) w):=by
 have i:=fQ h;have j:=fQ d;have k:=fQ e;clear h d e;go_in;go_wp2_with fail;refine(eJf K b g P c a _ i.out j.out f k.out).mono ?_;rintro en w3 ⟨rfl,hs⟩;go_wp2;go_end0;exact⟨rfl,hs⟩
def bJe(D:List Int)(x y:Int):Int:=Lib.compareInt (D.getD x.toNat 0) (D.getD y.toNat 0)
theorem cWa(e gA g P c:Nat)(D m:List Int)(w:Ab)(n:Blk w e 23 #[.slice (some ⟨gA,0,none⟩) P c])(o:Blk w gA 3 (i64s D).toArray)(s:D.length=P)(f:∀ x∈m,0<=x/\x<(P:Int))(h1:e≠g)(h2:gA≠g):
  CmpOk (bJe D) e g m w:=by
 intro wr h x y p q;have i:=h.blk n h1;have d:=h.blk o h2;have rx:=f x p;have ry:=f y q;obtain⟨j,rfl⟩:∃ z:Nat,x=z:=⟨x.toNat,by omega⟩;obtain⟨k,rfl⟩:∃ z:Nat,y=z:=⟨y.toNat,by omega⟩;have bx:j<P:=(by omega);have bY:k<P:=(by omega);obtain⟨a,ha⟩:∃ a,D[j]? = some a:=⟨_,Aj (by omega)⟩;obtain⟨b,l⟩:∃ b,D[k]? = some b:=⟨_,Aj (by omega)⟩
 have r:bJe D (j:Int) (k:Int)=Lib.compareInt a b:=by
  unfold bJe;rw[Int.toNat_natCast,Int.toNat_natCast,Ax,Ax,ha,l];rfl
 rw[r];have t:=i.cell 0;simp at t;have y0:=i.lt;have c1:=mV d ha;have c2:=mV d l;have y1:=d.lt;clear n o s f p q ha l r i d h;go_in;go_wp2_with fail;go_quiet ((go_at_call 56;exact Calls.quiet_of_same (Tryz.cmp_Compare_int a b _)));go_wp2;go_ret;exact⟨rfl,_,rfl⟩
theorem bYf:(fZ.info? 73).map (fun i=>(i.zero,i.size,i.bytes))=some (some (.map none),1,8):=by kernel_rfl
theorem aQt:(fZ.info? 4).map (fun i=>(i.zero,i.size,i.bytes))=some (some (.bool false),1,1):=by kernel_rfl
theorem dVl(w:Ab)(a b c:Obj):Below w.heap.size w (((w.alloc a).alloc b).alloc c):=al3 w a b c
theorem bYg(e:EnvD)(r:RowD)(ve vr:Value)(w:Ab)(he:EnvV w ve e)(hr:RowV w vr r):Calls fZ 23 #[ve,vr] w (dVb e r w):=by
 have HE:=fQ he;have HR:=fQ hr;obtain⟨va,vb,vd,rfl,h1,h2,D⟩:=he;obtain⟨As,cs,rfl,_⟩:=h1.len;obtain⟨Ag,cg,rfl⟩:=h2.shape;obtain⟨Am,cm,rfl,_⟩:=D;obtain⟨vp,vq,vr,vs,rfl,h4,h5,h6,h7⟩:=hr;obtain⟨I,cp,rfl⟩:=h4.shape;obtain⟨J,K,rfl⟩:=h5.shape;obtain⟨M,O,rfl⟩:=h6.shape;obtain⟨Ac,cc,rfl,_⟩:=h7.len;obtain⟨_,l7,dK⟩:=h7.fQb;have H7:=fQ h7;have aA:=fQ (al2 w (.cells #[.slice As e.sigs.length cs,.int .i64 e.imports,.slice Ag e.globals.length cg,.slice Am e.muts.length cm,.bool e.mem] 26) (.cells #[.slice I r.sig.inn.length cp,.slice J r.sig.out.length K,.int .i64 r.places,.slice M r.params.length O,.slice Ac r.code.length cc] 43));have bd:=fQ (Blk.newAt (w.alloc (.cells #[.slice As e.sigs.length cs,.int .i64 e.imports,.slice Ag e.globals.length cg,.slice Am e.muts.length cm,.bool e.mem] 26)) (N:=w.heap.size+1) 43 #[.slice I r.sig.inn.length cp,.slice J r.sig.out.length K,.int .i64 r.places,.slice M r.params.length O,.slice Ac r.code.length cc] (by simp));clear h1 h2 h4 h5 h6 h7;go_in;go_wp2_with fail;refine(aWq e r _ _ _ (HE.out.below aA.out (Ak _)) (HR.out.below aA.out (Ak _))).mono ?_;rintro en w1 ⟨b,rfl,b9,ai⟩;have be:=fQ b9;have aB:=fQ (aA.out.trans (ai.mono aA.out.size));have aC:=fQ (bd.out.below ai bd.out.lt);clear ai b9
 cases b with
 | false=>
  go_wp2;go_ret2;exact .inl ⟨(fun h=>by have:=be.out.2 h;cases this),rfl,aB.out⟩
 | true=>
  have C:=fQ (be.out.1 rfl);obtain⟨n,hn⟩:=fX r.code.length;obtain⟨rv,c5⟩:∃ rv:Array Value,rv=#[.slice I r.sig.inn.length cp,.slice J r.sig.out.length K,.int .i64 r.places,.slice M r.params.length O,.slice Ac r.code.length cc]:=⟨_,rfl⟩;obtain⟨r0,r1,r2,r3,r4⟩:=gQ aC.out;have y1:=aC.out.lt;rw[hn]at r4;have dL:n<=4096:=(by have:=C.out.n2;omega);have o:=fQ hn;have bf:=vZ (P:=fZ) 71 73 (.map none) 8 underlying71 bYf rfl n (by omega) (by omega);clear hn c5 r0 r1 r2 r3;go_wp2_with fail;go_cut [7] (fun f wx=>∃ gA gB:Nat,f = .pointer (some ⟨w1.heap.size+1+1,0,none⟩)/\Hid (Blk wx (w1.heap.size+1+1) 77 #[.slice (some ⟨gA,0,none⟩) n n,.slice (some ⟨gB,0,none⟩) n n])/\Hid (Blk wx gA 73 (setsV [] n))/\Hid (Blk wx gB 73 (setsV [] n))/\Hid (gA≠gB)/\Hid (w1.heap.size<=gA)/\Hid (w1.heap.size<=gB)/\Hid (Below w1.heap.size w1 wx))
  case first=>
   have e:setsV [] n=AX n (.map none):=(by simp[setsV,mapsV]);have aQ:=fQ e;clear e;go_region
   ·go_wp2_with fail;go_meet;refine⟨w1.heap.size,w1.heap.size+1,rfl,fQ ?_,fQ ?_,fQ ?_,fQ (by omega),fQ (by omega),fQ (by omega),fQ (dVl _ _ _ _).drew⟩
    ·refine Blk.drew (Blk.newAt _ _ _ ?_);simp
    ·rw[aQ.out];exact Blk.drew (Blk.alloc (Blk.alloc (Blk.new _ _ _) _) _)
    ·rw[aQ.out];refine Blk.drew (Blk.alloc (Blk.newAt _ _ _ ?_) _);simp
   ·go_wp2_with fail;go_meet;refine⟨w1.heap.size+1,w1.heap.size,rfl,fQ ?_,fQ ?_,fQ ?_,fQ (by omega),fQ (by omega),fQ (by omega),fQ (dVl _ _ _ _).drew⟩
    ·refine Blk.drew (Blk.newAt _ _ _ ?_);simp
    ·rw[aQ.out];refine Blk.drew (Blk.alloc (Blk.newAt _ _ _ ?_) _);simp
    ·rw[aQ.out];exact Blk.drew (Blk.alloc (Blk.alloc (Blk.new _ _ _) _) _)
  case rest=>
   clear bf;obtain⟨wd,rfl⟩:∃ wd:Ab,wd=wc:=⟨_,rfl⟩;obtain⟨gA,gB,rfl,KF,KA,KB,ca,cd,aD,aR⟩:=hcut;have aS:=aR.out.size;have bg:=vZ (P:=fZ) 44 23 (.slice none 0 0) 24 underlying44 zX rfl n (by omega) (by omega);have bl:=vZ (P:=fZ) 23 3 (.int .i64 0) 8 underlying23 oK rfl n (by omega) (by omega);have bm:=vZ (P:=fZ) 24 4 (.bool false) 1 underlying24 aQt rfl n (by omega) (by omega);clear r4;have cf:=fQ (aC.out.below aR.out aC.out.lt);obtain⟨gF,bn⟩:=fX (w1.heap.size+1+1);rw[bn]at KF ⊢;have ch:=fQ bn;clear bn;have bo:Below w.heap.size w wd:=aB.out.trans (aR.out.mono aB.out.size);have S0:=fQ bo;clear bo;go_wp2
   have cj:InRel r n w.heap.size (w.heap.size+1) gF gA gB wd.heap.size (wd.heap.size+1+1) (wd.heap.size+1) #[.slice I r.sig.inn.length cp,.slice J r.sig.out.length K,.int .i64 r.places,.slice M r.params.length O,.slice Ac r.code.length cc] w 0 [] 0 (((wd.alloc (.cells (AX n (.slice none 0 0)) 23)).alloc (.cells (AX n (.int .i64 0)) 3)).alloc (.cells (AX n (.bool false)) 4)):=by
    have q1:=S0.out.size;have q2:=aB.out.size;have q3:=cd.out;have q4:=aD.out;have q5:=ch.out;refine⟨[],[],Aw n (.slice none 0 0),Aw n [],rfl,rfl,{ r:=((cf.out.alloc _).alloc _).alloc _,f:=((KF.out.alloc _).alloc _).alloc _,a:=((KA.out.alloc _).alloc _).alloc _,b:=((KB.out.alloc _).alloc _).alloc _,la:=rfl,lb:=rfl,ma:=fun i b s h=>by simp at h,mb:=fun i b s h=>by simp at h,nd:=by simp,fr:=?_,rf:=⟨by simp,fun i u p h1 h2=>?_⟩,w:=?_,lR:=by omega,lF:=by omega,lA:=by omega,lB:=by omega,lr:=by omega,lW:=by omega,lm:=fun b h=>by simp at h,hab:=ca.out },⟨fun i j a b g dM h1 h2 D=>?_,fun a ha g hg=>?_⟩,?_,FromK.start o.out,S0.out.trans ((dVl _ _ _ _).mono q1)⟩
    ·have e:(Aw n (Value.slice none 0 0)).toArray=AX n (.slice none 0 0):=(by simp);rw[e];exact((Blk.new _ _ _).alloc _).alloc _
    ·obtain⟨_,U⟩:=List.getElem?_eq_some_iff.1 h1;obtain⟨_,e2⟩:=List.getElem?_eq_some_iff.1 h2;simp at U e2;subst U;subst e2;exact World.ownsRow_nil _ _ _ _
    ·have e:(boolsV (Aw 0 true++Aw (n - 0) false)).toArray=AX n (.bool false):=(by simp[boolsV]);rw[e];refine Blk.newAt _ _ _ ?_;simp
    ·obtain⟨_,U⟩:=List.getElem?_eq_some_iff.1 h1;simp at U;subst U;cases D
    ·have:=List.eq_of_mem_replicate ha;subst this;cases hg
    ·have e:i64s (rng 0++Aw (n - 0) 0)=(AX n (Value.int .i64 0)).toList:=(by simp[i64s,rng]);rw[e];refine Blk.own (Blk.alloc (Blk.newAt _ _ _ ?_) _) (by omega) (by simp) (by unfold maxLen;omega);simp
   have c6:=fQ cj;clear cj bg bl bm;go_loopw [42] (fun i wr=>∃ k:Nat,k<=n/\i = .int .i64 k/\Hid (InRel r n w.heap.size (w.heap.size+1) gF gA gB wd.heap.size (wd.heap.size+1+1) (wd.heap.size+1) #[.slice I r.sig.inn.length cp,.slice J r.sig.out.length K,.int .i64 r.places,.slice M r.params.length O,.slice Ac r.code.length cc] w k [] k wr)) (fun i _=>n - (intOf i).toNat)
   case atStart=>exact⟨0,by omega,rfl,c6⟩
   case round=>as_aux_lemma=>
    obtain⟨k,hk,rfl,y⟩:=hrel;by_cases aE:k<n
    ·have bp:decide ((k:Int)<n)=true:=(by simp;omega);have c7:(k:Int)<n:=(by omega);go_wp2_with fail;go_cut [] (fun wx=>Hid (InRel r n w.heap.size (w.heap.size+1) gF gA gB wd.heap.size (wd.heap.size+1+1) (wd.heap.size+1) #[.slice I r.sig.inn.length cp,.slice J r.sig.out.length K,.int .i64 r.places,.slice M r.params.length O,.slice Ac r.code.length cc] w k [] (k+1) wx))
     case first=>
      obtain⟨bA,bB,vF,F,m1,m2,d,Q,G,m6,m7⟩:=y.out;have f0:=d.f.cell 0;have f1:=d.f.cell 1;have V:=d.a.cell k;have f3:=d.b.cell k;simp at f0 f1;have z2:=frz d.a k;have z3:=frz d.b k
      have e2:(setsV bA n)[k]? = some (.map none):=by
       unfold setsV;rw[AJ,Ay (by rw[xX,m1];exact Ak _),xX,m1,AW,AZ,if_pos (by omega)]
      have e3:(setsV bB n)[k]? = some (.map none):=by
       unfold setsV;rw[AJ,Ay (by rw[xX,m2];exact Ak _),xX,m2,AW,AZ,if_pos (by omega)]
      rw[e2]at V;rw[e3]at f3;have y1:=d.f.lt;have y2:=d.a.lt;have y3:=d.b.lt;have n1:gF≠gA:=blk_ne d.f d.a (by decide);have n2:gF≠gB:=blk_ne d.f d.b (by decide);have n3:gA≠gB:=d.hab;have n4:gB≠gA:=fun e=>n3 e.symm
      have dN:∀ w,(Instr.makeMap 73 none).run fZ w = .ok (.map (some w.heap.size)) (w.alloc (.map #[] 0)):=fun w=>by simp[Instr.makeMap]
      clear e2 e3 m1 m2 d Q G m6 m7;clear HE HR H7 aA bd be aB aC C KF KA KB ca cd aD aR S0 cf ch;generalize Value.agg #[.slice As e.sigs.length cs,.int .i64 e.imports,.slice Ag e.globals.length cg,.slice Am e.muts.length cm,.bool e.mem]=vE at *;generalize Value.agg #[.slice I r.sig.inn.length cp,.slice J r.sig.out.length K,.int .i64 r.places,.slice M r.params.length O,.slice Ac r.code.length cc]=vR at *;go_region
      all_goals
       go_wp2_with fail;go_meet
       first
        | exact fQ (InRel.made y.out aE (.inl ⟨rfl,rfl⟩)).drew
        | exact fQ (InRel.made y.out aE (.inr ⟨rfl,rfl⟩)).drew
        | trace_state
     case rest=>
      have br:=hcut;clear hcut y;obtain⟨W,rfl⟩:∃ W:Ab,W=wc:=⟨_,rfl⟩;obtain⟨c,hc⟩:∃ c,r.code[k]? = some c:=⟨_,Aj (by rw[o.out];exact aE)⟩;have ah:=fQ hc;have c8:=(show ∃ bA bB vF F,_ from br.out);obtain⟨bA,bB,vF,F,_,_,d,_,_,_,m7⟩:=c8;obtain⟨r0,r1,r2,r3,r4⟩:=gQ d.r;have y1:=d.r.lt;have M7:=fQ m7;clear d m7 hc;go_wp2_with fail
      refine(bYi r _ k c _ (HR.out.below M7.out (Ak _)) ah.out (by
       have h2:=zZ (C.out.code c (Az ah.out));have:nJ c.op<=65:=(by unfold nJ;split;omega;split <;> omega)
       omega) C.out.n2).mono ?_
      rintro en w2 ⟨vn,rfl,bs,ck⟩;have J2:=fQ (br.out.two bs ck);obtain⟨c9,da,rfl,_⟩:=fW bs;obtain⟨m,hm⟩:=fX ((oV c k).length);rw[hm]at J2 ⊢
      have bt:m<=66:=by
       rw[<-hm];have h2:=zZ (C.out.code c (Az ah.out));have:nJ c.op<=65:=(by unfold nJ;split;omega;split <;> omega);unfold oV
       split <;> simp <;> omega
      have S:=fQ hm;clear bs ck r0 r1 r2 r3 r4 y1 hm;go_wp2_with fail;go_loopw [63] (fun i wr=>∃ j:Nat,j<=m/\i = .int .i64 j/\Hid (InRel2 r n w.heap.size (w.heap.size+1) gF gA gB wd.heap.size (wd.heap.size+1+1) (wd.heap.size+1) #[.slice I r.sig.inn.length cp,.slice J r.sig.out.length K,.int .i64 r.places,.slice M r.params.length O,.slice Ac r.code.length cc] w k ((oV c k).take j) (.slice c9 m da) (oV c k) wr)) (fun i _=>m - (intOf i).toNat)
      case atStart=>exact⟨0,by omega,rfl,J2⟩
      case round=>
       clear J2 br M7;obtain⟨j,hj,rfl,J3⟩:=hrel;by_cases aj:j<m
       ·have ak:decide ((j:Int)<m)=true:=(by simp;omega);have ab:(j:Int)<m:=(by omega);obtain⟨x,E⟩:∃ x,(oV c k)[j]? = some x:=⟨_,Aj (by rw[S.out];exact aj)⟩;have au:=(aJw (C.out.code c (Az ah.out)) k x).1 (Az E);have aF:=(C.out.fQl.to k c ah.out).1 x au;obtain⟨q,rfl⟩:∃ q:Nat,x=q:=⟨x.toNat,by omega⟩;have av:q<n:=(by rw[o.out]at aF;omega);have aG:(q:Int)<n:=(by omega);obtain⟨bA,bB,vF,F,X,k2,R,k4,k5,k6,k7,k8,k9⟩:=J3.out;rw[S.out]at k9;have s0:=Src.fQj k9;obtain⟨nb,no,rfl,aw⟩:=s0.addr (by omega);have c0:=s0.at_ aj;rw[aKp (by rw[S.out];exact aj),(List.getElem?_eq_some_iff.1 E).2]at c0;have ct:q<F.length:=(by rw[k6.l,o.out];exact av);obtain⟨l,hl⟩:∃ l,F[q]? = some l:=⟨_,Aj ct⟩;obtain⟨u,hu⟩:∃ u,vF[q]? = some u:=⟨_,Aj (by rw[R.rf.1];exact ct)⟩;have aT:=R.rf.2 q u l hu hl;have db:=(k6.s q l hl).2
        have dd:((oV c k).take j).length<=66:=by
         rw[Aa,S.out];have:=Nat.min_le_left j m;omega
        have de:l.length<=300000:=(by omega);obtain⟨Au,cu,rfl,_⟩:=fW aT;have c1:=R.fr.cell q;have U:vF.toArray[q]? = some (.slice Au l.length cu):=(by simpa using hu);rw[U]at c1;obtain⟨p,hp⟩:=fX l.length;have HU:=fQ hu;have bu:=fQ hl;have HP:=fQ hp;rw[hp]at c1 de aT;have y1:=R.fr.lt;have zz:=frz R.fr q;have K3:=fQ R;have K4:=fQ k4;have K5:=fQ k5;have K6:=fQ k6;have K7:=fQ k7;have K8:=fQ k8;have K9:=fQ k9;have K1:=fQ X;have K2:=fQ k2;have bw:=fQ aT;have bx:=fQ E;have cw:=R.fQf;clear X k2 R k4 k5 k6 k7 k8 k9 hu hl hp U s0 aT E au aF db dd;go_wp2_with (at_builtin;refine jY _ rfl (.tmp 72) (.tmp 74) 23 rfl w.heap.size 3 (.int .i64 0) 1 8 underlying23 oK rfl (by omega) (.slice Au p cu) p (i64s l) rfl (iJ bw.out _) (some ⟨wr.heap.size,0,none⟩) 1 1 [.int .i64 (k:Int)] rfl (aYm _ _ _) (aZo _ _) (by unfold maxLen;omega) (by omega) (by simp;omega) ?_);rintro v2 w2 h1 h2 D _;have ep:=HP.out;subst ep;obtain⟨A2,df,rfl,_⟩:=fW h1;have aH:=K3.out.grown ((Below.refl _ _).alloc (Ak _) (.cells #[.int .i64 (k:Int)] 3));have el:i64s l ++ [.int .i64 (k:Int)]=i64s (l ++ [(k:Int)]):=(by simp[i64s]);rw[el]at h1;obtain⟨L1,L2,L3⟩:=aH.fXh K4.out (iJ K5.out _) HU.out bu.out h2 h1 (by simpa using D);obtain⟨_,L4,L5⟩:=aH.fXh K8.out (iJ K9.out _) HU.out bu.out h2 h1 (by simpa using D);have cx:=iK (K7.out.alloc cw (.cells #[.int .i64 (k:Int)] 3)) h2 (by simp;omega) (fun g hg=>(bw.out.lt g hg).1);have aU:=aH.fr.grown h2 (own_ne (iJ bw.out _) aH.fr (by decide));have d0:=aU.cell q;have U:vF.toArray[q]? = some (.slice Au l.length cu):=(by simpa using HU.out);rw[U]at d0;have d1:=frz aU q;have d2:=aU.lt;have P1:=fQ L1;have P2:=fQ L2;have P3:=fQ L3;have P4:=fQ L4;have P5:=fQ L5;have P6:=fQ (cx.setCell (p:=⟨wd.heap.size,q,none⟩) K3.out.lr (.slice A2 (l.length+1) df));clear L1 L2 L3 L4 L5 aH aU U h1 h2 D cx el;go_wp2
        have et:(oV c k).take j ++ [(q:Int)]=(oV c k).take (j+1):=by
         obtain⟨aI,e⟩:=List.getElem?_eq_some_iff.1 bx.out;rw[AV aI,e]
        have cy:=K6.out.push (by rw[o.out];exact aE) bu.out;rw[et]at cy;exact⟨⟨j+1,by omega,by simp,fQ ⟨bA,bB,_,_,K1.out,K2.out,P1.out,P2.out,P3.out,cy,P6.out,P4.out,by rw[S.out];exact P5.out⟩⟩,by simp[intOf];omega⟩
       ·have ak:decide ((j:Int)<m)=false:=(by simp;omega);have ab:j=m:=(by omega);subst ab;have J4:=fQ J3.out.one;have aV:w.heap.size<=wd.heap.size+1:=(by have:=S0.out.size;omega)
        have J5:=fQ (J4.out.mark ah.out (fun x E=>by
         rw[AY (by rw[S.out];exact Ak _)]
         exact(aJw (C.out.code c (Az ah.out)) k x).2 E) (by
         have h2:=zZ (C.out.code c (Az ah.out));have:nJ c.op<=65:=(by unfold nJ;split;omega;split <;> omega);rw[Aa]
         have D:(oV c k).length<=66:=by
          unfold oV
          split <;> simp <;> omega
         omega) aE aV)
        obtain⟨bA,bB,vF,F,X,k2,R,k4,k5,k6,k7⟩:=J4.out;have a0:=k5.cellAt k (by omega)
        obtain⟨ea,cz⟩:∃ ea:Int,(i64s (rng k++Aw (n - k) 0))[k]? = some (.int .i64 ea):=⟨0,by
         simp only[i64s,AK];rw[Ay (by rw[aKq];exact Ak _),aKq,AW,AZ,if_pos (by omega)]
         rfl⟩
        rw[cz]at a0;have a1:=k5.frozenAt k;have a2:=(k5.lt (wd.heap.size+1) rfl).2;have b0:=R.w.cell k
        have eb:(boolsV (Aw k true++Aw (n - k) false)).toArray[k]? = some (.bool false):=by
         simp only[boolsV,AJ,AK];rw[Ay (by simp),List.length_replicate,AW,AZ,if_pos (by omega)];rfl
        rw[eb]at b0;have b1:=frz R.w k;have b2:=R.w.lt;clear X k2 R k4 k5 k6 k7 cz eb J3;go_wp2;exact⟨⟨k+1,by omega,by simp,J5⟩,by simp[intOf];omega⟩
    ·have bp:decide ((k:Int)<n)=false:=(by simp;omega);have dg:k=n:=(by omega);subst dg;obtain⟨bA,bB,vF,F,cA,cB,cC,cD⟩:=y.out.main o.out;have bz:=fQ cA;have cE:=fQ cB;have aW:=fQ cC;have cF:=fQ cD;clear cA cB cC cD y;go_wp2;go_loopg [9] (muL k r.places.toNat (Aw k []) (rng k)) (fun g v wi=>∃ (T:List Int) (A B:Sets) (wt:List Bool),Hid (MainRel r k w.heap.size (w.heap.size+1) gF gA gB wd.heap.size (wd.heap.size+1+1) #[.slice I r.sig.inn.length cp,.slice J r.sig.out.length K,.int .i64 r.places,.slice M r.params.length O,.slice Ac r.code.length cc] w bA bB vF F v T A B wt [] wi)/\Hid (muL k r.places.toNat A T=g))
     case atStart=>exact⟨_,_,_,_,cF,fQ rfl⟩
     case round=>
      clear cF;obtain⟨T,A,B,wt,y,IG⟩:=hrel;obtain⟨W,rfl⟩:∃ W:Ab,W=wr:=⟨_,rfl⟩;rcases List.eq_nil_or_concat T with rfl | ⟨T',x,rfl⟩
      ·obtain⟨Av,cv,hv,_⟩:=fW y.out.2.2.1;subst hv;have HS:=fQ (cJi C.out.fQl y.out.2.2.2.1.s (fun i hi=>y.out.2.2.2.1.st i hi (by simp) (by simp)));go_wp2;go_ret2;obtain⟨m1,_,_,Q,G⟩:=y.out;have la:A.length=k:=(by rw[Q.s.lA,o.out]);refine .inr ⟨C.out,gF,gA,gB,bA,bB,A,B,rfl,{ f:=?_,a:=?_,b:=?_,la:=m1.la,lb:=m1.lb,ma:=m1.ma,mb:=m1.mb,s:=Q.s,eA:=HS.out.1,eB:=HS.out.2,lF:=m1.lF,lA:=m1.lA,lB:=m1.lB },G⟩
       ·rw[o.out];exact m1.f
       ·rw[<-aVh bz.out];exact m1.a
       ·rw[<-aVh cE.out];exact m1.b
      ·rw[List.concat_eq_append]at y IG;obtain⟨i,rfl,bD⟩:=y.out.2.2.2.1.tr x (by simp);have ax:i<k:=(by rw[<-o.out];exact bD);have dh:(i:Int)<k:=(by omega);obtain⟨c,hc⟩:∃ c,r.code[i]? = some c:=⟨_,Aj bD⟩;have ag:=fQ hc;obtain⟨t,ht⟩:=fX T'.length;have cG:(T' ++ [(i:Int)]).length=t+1:=(by simp[ht])
       have dO:t+1<=k:=by
        have:=bQy y.out.2.2.2.1;rw[cG,o.out]at this;exact this
       have di:=fQ ht;obtain⟨m1,m2,d,Q,G⟩:=y.out;rw[cG]at d;obtain⟨gT,cT,rfl,dj,dP,dQ⟩:=mW d (by omega);have c0:=d.cellAt t (by omega)
       have e0:(i64s (T' ++ [(i:Int)]))[t]? = some (.int .i64 i):=by
        unfold i64s;rw[List.map_append,Ay (by simp[ht]),List.length_map,ht,AW];rfl
       rw[e0]at c0;have b0:=m1.w.cell i;have cH:wt[i]? = some true:=(Q.tw i).2 (by simp)
       have eb:(boolsV wt).toArray[i]? = some (.bool true):=by
        simp only[boolsV,AJ,AK,cH];rfl
       rw[eb]at b0;have b1:=frz m1.w i;have b2:=m1.w.lt;obtain⟨q0,q1,q2,q3,q4⟩:=gQ m1.r;rw[o.out]at q4;have yr:=m1.r.lt;have cw:=G.size;obtain⟨Y,go,p,q,tt,rfl,ad,g0,Z,g2,g3,g4,s0,s1,s2,s3⟩:=H7.out.code hc;replace g0:=(G.cell (p:=⟨Y,_,none⟩) ad).trans g0;replace Z:=(G.cell (p:=⟨Y,_,none⟩) ad).trans Z;replace g2:=(G.cell (p:=⟨Y,_,none⟩) ad).trans g2;replace g3:=(G.cell (p:=⟨Y,_,none⟩) ad).trans g3;replace g4:=(G.cell (p:=⟨Y,_,none⟩) ad).trans g4;have bo:=S0.out.size;have dR:Y≠wd.heap.size+1+1:=(by omega);obtain⟨pA,pc,rfl⟩:=s1.shape;obtain⟨qA,qc,rfl⟩:=s2.shape;obtain⟨tA,tc,rfl⟩:=s3.shape;have dk:=fQ s1.ir;have dm:=fQ s2.ir;obtain⟨_,_,_,_,cI⟩:=s1.len;obtain⟨_,_,_,_,cJ⟩:=s2.len;have bE:=fQ cI;have bF:=fQ cJ;clear cI cJ;have dp:gT≠wd.heap.size+1+1:=fun e=>(own_ne d m1.w (by decide)) (by rw[e];rfl);have z1:IntKind.i64.wrap (((t+1:Nat):Int) - 1)=(t:Int):=(by rw[show((t+1:Nat):Int) - 1=t by omega];exact Aq _ (by omega));clear hc ht m1 m2 d Q G s0 s1 s2 s3 cH eb e0 bD;go_wp2_with fail;have aJ:=fQ (y.out.pop di.out (i:=i) (cc:=#[.int .i64 c.op,.int .u64 (c.n:Int),.slice pA c.args.length pc,.slice qA c.outs.length qc,.slice tA c.to.length tc]));have al:=fQ (show Below w.heap.size w ((W.setCell ⟨wd.heap.size+1+1,i,none⟩ (.bool false)).alloc (.cells #[.int .i64 c.op,.int .u64 (c.n:Int),.slice pA c.args.length pc,.slice qA c.outs.length qc,.slice tA c.to.length tc] 52))from aJ.out.2.2.2.2.2);generalize ((W.setCell ⟨wd.heap.size+1+1,i,none⟩ (.bool false)).alloc (.cells #[.int .i64 c.op,.int .u64 (c.n:Int),.slice pA c.args.length pc,.slice qA c.outs.length qc,.slice tA c.to.length tc] 52))=W1 at aJ al ⊢;clear c0 b0 b1 b2 q0 q1 q2 q3 q4 g0 Z g2 g3 g4 yr dj;obtain⟨m1,m2,d,Q,G,m6⟩:=aJ.out;have an:=y.out.2.2.2.1.s;obtain⟨sA,bG⟩:∃ sA,A[i]? = some sA:=⟨_,Aj (by rw[an.lA,o.out];exact ax)⟩;obtain⟨tB,cK⟩:∃ tB,B[i]? = some tB:=⟨_,Aj (by rw[an.lB,o.out];exact ax)⟩;obtain⟨bi,aX⟩:∃ bi,bA[i]? = some bi:=⟨_,Aj (by rw[bz.out];exact ax)⟩;obtain⟨bj,cL⟩:∃ bj,bB[i]? = some bj:=⟨_,Aj (by rw[cE.out];exact ax)⟩;have bH:=fQ bG;have dq:=fQ cK;have aY:=fQ aX;have ay:=fQ cL;have aK:=fQ (m1.ma i bi sA aX bG);have f0:=m1.f.cell 0;have V:=m1.a.cell i;simp at f0;rw[aVg aX]at V;have f3:=Q.cell 2;simp at f3;have y2:=m1.f.lt;have y3:=Q.lt;have y4:=m1.a.lt;clear m1 m2 d Q G m6 an bG cK aX cL;go_cut [16] (fun f wx=>f = .bool (decide (sA.length<(lY sA c.args).length))/\Hid (WkRel k w.heap.size (w.heap.size+1) gF gA gB wd.heap.size (wd.heap.size+1+1) #[.slice I r.sig.inn.length cp,.slice J r.sig.out.length K,.int .i64 r.places,.slice M r.params.length O,.slice (some ⟨Y,go,none⟩) r.code.length cc] w bA bB vF F (.slice (some ⟨gT,0,none⟩) t cT) T' W.heap.size #[.int .i64 c.op,.int .u64 (c.n:Int),.slice pA c.args.length pc,.slice qA c.outs.length qc,.slice tA c.to.length tc] (A.set i (lY sA c.args)) B (wt.set i false) wx))
       case first=>as_aux_lemma=>
        have dr:=(y.out.2.2.2.1.s.small C.out).1 sA (Az bH.out);have ds:=C.out.p2;have dt:=fQ (show c.args.length<=1152921504606846976 by have:=bE.out;omega);have du:=fQ (show sA.length<=1000000 by omega);clear dr ds;go_region_with ((go_at_call 25;refine(aYr bi sA c.args _ _ aK.out.drew (dk.out.below al.out (Ak _)).drew dt.out du.out).mono ?_;rintro e dS ⟨rfl,h1,h2,D⟩;have HQ:=fQ (aJ.out.drew.fQt aY.out bH.out h2 h1);clear h1 h2 D))
        all_goals
         go_wp2;go_meet;exact⟨rfl,HQ⟩
       case rest=>
        clear f0 V f3 y2 y3 y4;obtain⟨wp,rfl⟩:∃ wp:Ab,wp=wc:=⟨_,rfl⟩;obtain⟨rfl,aZ⟩:=hcut;obtain⟨b0,cM⟩:=fX (decide (sA.length<(lY sA c.args).length));have bI:=Work.start y.out.2.2.2.1.s ag.out bH.out dq.out;rw[cM]at bI ⊢;have cN:=fQ bI;clear bI cM aJ aK al;obtain⟨m1,m2,d,Q,G,m6⟩:=aZ.out;obtain⟨q0,q1,q2,q3,q4⟩:=gQ m1.r;have y2:=m1.r.lt;have cO:=C.out.code c (Az ag.out)
        have cP:=fQ (show c.to.length<=65 by
         obtain⟨_,h2,_⟩:=zZ cO;have:nJ c.op<=65:=(by unfold nJ;split;omega;split <;> omega)
         omega)
        have cQ:=fQ (HR.out.below m6 (Ak _));clear m1 m2 d Q G m6 cO;go_wp2_with fail;refine(bYi r _ i c _ cQ.out ag.out cP.out C.out.n2).mono ?_;rintro en w5 ⟨vn,rfl,aL,aw⟩;obtain⟨An,cn,rfl,_⟩:=fW aL;have cR:=fQ (aZ.out.grown aw);have bJ:=fQ (jX aL aZ.out.2.2.2.2.2.size);obtain⟨m,hm⟩:=fX ((oV c i).length);rw[hm]at bJ ⊢;have S:=fQ hm
        have bt:m<=66:=by
         rw[<-hm];have:=cP.out;unfold oV
         split <;> simp <;> omega
        clear aL aw hm cQ q0 q1 q2 q3 q4 y2;have cS:WlRel r k w.heap.size (w.heap.size+1) gF gA gB wd.heap.size (wd.heap.size+1+1) #[.slice I r.sig.inn.length cp,.slice J r.sig.out.length K,.int .i64 r.places,.slice M r.params.length O,.slice (some ⟨Y,go,none⟩) r.code.length cc] w bA bB vF F (.slice (some ⟨gT,0,none⟩) t cT) T' W.heap.size #[.int .i64 c.op,.int .u64 (c.n:Int),.slice pA c.args.length pc,.slice qA c.outs.length qc,.slice tA c.to.length tc] (wt.set i false) A B i c sA (.slice An m cn) (oV c i) [] b0 w5:=⟨_,_,_,_,cR.out,cN.out,by rw[S.out];exact bJ.out⟩;have cU:=fQ cS;clear cS cR cN bJ aZ;go_wp2_with fail;go_loopw [16,122] (fun tv iv wr=>∃ (j:Nat) (b:Bool),j<=m/\iv = .int .i64 j/\tv = .bool b/\Hid (WlRel r k w.heap.size (w.heap.size+1) gF gA gB wd.heap.size (wd.heap.size+1+1) #[.slice I r.sig.inn.length cp,.slice J r.sig.out.length K,.int .i64 r.places,.slice M r.params.length O,.slice (some ⟨Y,go,none⟩) r.code.length cc] w bA bB vF F (.slice (some ⟨gT,0,none⟩) t cT) T' W.heap.size #[.int .i64 c.op,.int .u64 (c.n:Int),.slice pA c.args.length pc,.slice qA c.outs.length qc,.slice tA c.to.length tc] (wt.set i false) A B i c sA (.slice An m cn) (oV c i) ((oV c i).take j) b wr)) (fun _ iv _=>m - (intOf iv).toNat)
        case atStart=>exact⟨0,b0,by omega,rfl,rfl,cU⟩
        case round=>
         clear cU;obtain⟨j,b,hj,rfl,rfl,IW⟩:=hrel;obtain⟨wa,rfl⟩:∃ wa:Ab,wa=wr:=⟨_,rfl⟩;by_cases aj:j<m
         ·have ak:decide ((j:Int)<m)=true:=(by simp;omega);have ab:(j:Int)<m:=(by omega);obtain⟨A1,B1,s1,t1,p1,p2,p3⟩:=IW.out;have P3:=fQ p3;rw[S.out]at p3;obtain⟨x,E⟩:∃ x,(oV c i)[j]? = some x:=⟨_,Aj (by rw[S.out];exact aj)⟩;have au:=(aJw (C.out.code c (Az ag.out)) i x).1 (Az E);have aF:=(C.out.fQl.to i c ag.out).1 x au;obtain⟨q,rfl⟩:∃ q:Nat,x=q:=⟨x.toNat,by omega⟩;have av:q<k:=(by rw[o.out]at aF;omega);have aG:(q:Int)<k:=(by omega);have s0:=Src.fQj p3;obtain⟨nb,no,rfl,aw⟩:=s0.addr (by omega);have c0:=s0.at_ aj;rw[aKp (by rw[S.out];exact aj),(List.getElem?_eq_some_iff.1 E).2]at c0;obtain⟨bk,a6⟩:∃ bk,bA[q]? = some bk:=⟨_,Aj (by rw[bz.out];exact av)⟩;obtain⟨u,hu⟩:∃ u,A1[q]? = some u:=⟨_,Aj (by rw[p2.snd.lA,o.out];exact av)⟩;have f0:=p1.1.f.cell 0;have V:=p1.1.a.cell q;simp at f0;rw[aVg a6]at V;have y2:=p1.1.f.lt;have y4:=p1.1.a.lt;have cV:=fQ (p1.1.ma q bk u a6 hu);have P1:=fQ p1;have P2:=fQ p2;have HU:=fQ hu;have bL:=fQ a6;have bx:=fQ E;have bM:=fQ au;clear p1 p2 p3 hu a6 E au aF s0;go_wp2_with (at_range;refine aJc _ rfl _ 73 rfl 3 4 underlying73 bk (setKV u) rfl cV.out ?_);rintro w1 hI hg hz;have HI:=fQ (WiRel.start P1.out P2.out P3.out HU.out hg hI);clear hI hg hz cV c0 f0 V y2 y4 P1 P2 P3 HU aw;go_wp2_with fail;go_loopw [16] (fun tv wr=>∃ (b:Bool) (A1 B1:Sets) (s1 t1:List Int) (L:KV),tv = .bool b/\Hid (WiRel r k w.heap.size (w.heap.size+1) gF gA gB wd.heap.size (wd.heap.size+1+1) #[.slice I r.sig.inn.length cp,.slice J r.sig.out.length K,.int .i64 r.places,.slice M r.params.length O,.slice (some ⟨Y,go,none⟩) r.code.length cc] w bA bB vF F (.slice (some ⟨gT,0,none⟩) t cT) T' W.heap.size #[.int .i64 c.op,.int .u64 (c.n:Int),.slice pA c.args.length pc,.slice qA c.outs.length qc,.slice tA c.to.length tc] (wt.set i false) A B i c sA (.slice (some ⟨nb,no,none⟩) m cn) (oV c i) ((oV c i).take j) q u bk wa.heap.size A1 B1 s1 t1 L b wr)) (fun _ wr=>wr.rangeLeft bk wa.heap.size)
          case atStart=>exact⟨b,A1,B1,s1,t1,_,rfl,HI⟩
          case round=>as_aux_lemma=>
           clear HI;obtain⟨b1,A2,B2,s2,t2,L,rfl,IV⟩:=hrel;obtain⟨wi,rfl⟩:∃ wi:Ab,wi=wr:=⟨_,rfl⟩;have bN:=fQ IV.out.2.2.2.2.1.left;have dT:=fQ IV.out.2.2.2.2.1.lt;go_wp2_with (at_next;refine aKo _ rfl _ rfl bk wa.heap.size (setKV u) L rfl IV.out.2.2.2.2.1 ?_ ?_)
           ·rintro rfl;have bO:=IV.out.done
            have et:(oV c i).take j ++ [(q:Int)]=(oV c i).take (j+1):=by
             obtain⟨aI,e⟩:=List.getElem?_eq_some_iff.1 bx.out;rw[AV aI,e]
            rw[et]at bO;have dv:=fQ bO;clear bO et;go_wp2;exact⟨⟨j+1,b1,by omega,by simp,rfl,dv⟩,by simp[intOf];omega⟩
           ·rintro L1 p x L2 w2 rfl bP bQ dw dx;have bT:=fQ bP;have bU:=fQ bQ;obtain⟨Z,g2,dy⟩:=IV.out.turn bP bQ;have G1:=fQ Z;have f0:=Z.1.f.cell 1;have V:=Z.1.b.cell i;simp at f0;rw[aVg ay.out]at V;have y2:=Z.1.f.lt;have y4:=Z.1.b.lt;have cW:=fQ IV.out.2.1.b;have dz:=fQ IV.out.2.1.a;have dA:=fQ (Z.1.mb i bj t2 ay.out cW.out);clear bP bQ dw Z g2 dy;go_wp2_with (at_mapUpdate;refine bWk _ rfl _ _ _ 73 rfl 3 4 underlying73 underlying3 bj (setKV t2) p (.bool true) rfl rfl rfl dA.out ?_);rintro w3 h1 h2 D;rw[aWk]at h1;have H1:=fQ h1;have H2:=fQ h2;have K3:=fQ (G1.out.fQo ay.out cW.out h2 h1);obtain⟨X,_,_,k4,_,k6⟩:=K3.out;have K6:=fQ k6;have f3:=k4.cell 3;simp at f3;have y3:=k4.lt;have f0:=X.f.cell 0;have V:=X.a.cell i;simp at f0;rw[aVg aY.out]at V;have y2:=X.f.lt;have y4:=X.a.lt;have aK:=fQ (X.ma i bi s2 aY.out dz.out);have dB:=bF.out;clear X k4 k6 h1 h2 D dx;go_wp2_with fail;refine(wQ _ c.outs p _ (dm.out.below K6.out (Ak _)) (by omega)).mono ?_;rintro en w4 ⟨rfl,rfl⟩;clear dB;by_cases ho:p∈c.outs
            ·rw[decide_eq_true ho];have aM:=fQ (IV.out.skip bT.out bU.out bL.out ay.out H1.out H2.out ag.out bM.out (fun aL=>absurd ho aL));clear ho;have ae:=fQ aM.out.2.2.2.2.1.left;go_wp2;refine⟨⟨b1,A2,_,s2,_,L1++L2,rfl,aM⟩,?_⟩;rw[ae.out,bN.out];simp
            ·rw[decide_eq_false ho];have HO:=fQ ho;clear ho;have aN:=(aK.out.lookup (P:=fZ) underlying73 underlying3 (bKc _) p).1;rw[aWj]at aN;by_cases hs:p∈s2
             ·rw[if_pos hs]at aN;have aM:=fQ (IV.out.skip bT.out bU.out bL.out ay.out H1.out H2.out ag.out bM.out (fun _=>hs));clear hs;simp only[Option.getD_some]at aN;have ae:=fQ aM.out.2.2.2.2.1.left;go_wp2;refine⟨⟨b1,A2,_,s2,_,L1++L2,rfl,aM⟩,?_⟩;rw[ae.out,bN.out];simp
             ·rw[if_neg hs]at aN;simp only[Option.getD_none]at aN;have cX:aJa (setKV s2) p=none:=(by rw[aWj,if_neg hs]);obtain⟨dU,stamp,dV,cY,ao,dC⟩:=aK.out.entry (P:=fZ) (z:=.bool false) underlying73 underlying3 bKc p cX;obtain⟨dD,dW,bV,az,dE⟩:=cY.store (P:=fZ) 73 (.bool true);have e6:setKV s2 ++ [(p,Value.bool true)]=setKV (s2 ++ [p]):=(by simp[setKV]);rw[e6]at bV;have aq:w3.grownBy dD (some bi):=⟨az.os.trans ao.os,az.tape.trans ao.tape,az.output.trans ao.output,Nat.le_trans ao.size az.size,fun jj cZ c2=>(az.block jj (Nat.lt_of_lt_of_le cZ ao.size) c2).trans (ao.block jj cZ c2)⟩;have c3:=fQ (IV.out.put bT.out bU.out bL.out ay.out H1.out H2.out ag.out bM.out HO.out hs aY.out bV aq);clear hs cX cY ao dC bV az dE e6 aq;have ae:=fQ c3.out.2.2.2.2.1.left;go_wp2;refine⟨⟨true,_,_,_,_,L1++L2,rfl,c3⟩,?_⟩;rw[ae.out,bN.out];simp
         ·have ak:decide ((j:Int)<m)=false:=(by simp;omega);have ab:j=m:=(by omega);subst ab;obtain⟨l,hl⟩:∃ l,F[i]? = some l:=⟨_,Aj (by rw[aW.out.1,o.out];exact ax)⟩;have HL:=fQ hl;clear hl
          obtain⟨A',B',af,ai,aS,a7⟩:=IW.out.main (p:=r.places.toNat) y.out.2.2.2.1 ag.out (fun k' aI=>by
           rw[AY (by rw[S.out];exact Ak _)]
           exact(aJw (C.out.code c (Az ag.out)) i k').2 aI) aW.out HL.out (fun A B hs=>(hs.small C.out).1) o.out
          have a8:=fQ af;have bW:=fQ a7;clear bW
          cases b with
          | false=>as_aux_lemma=>
           have bX:=fQ (aS rfl);have aO:=fQ a8.out.none;clear af ai aS a7 a8;go_wp2;go_roundg (muL k r.places.toNat A' T')
           case measure=>rw[<-IG.out];exact dVd bX.out
           case rel=>exact⟨_,_,_,_,aO,fQ rfl⟩
          | true=>as_aux_lemma=>
           have bX:=fQ (ai rfl);have bW:=fQ a7;have aO:=fQ a8.out.all;clear af ai aS a7 a8;obtain⟨nl,ba⟩:=fX l.length;have a1:=aO.out.1;obtain⟨vi,bb⟩:∃ vi,vF[i]? = some vi:=⟨_,Aj (by rw[a1.rf.1,aW.out.1,o.out];exact ax)⟩;have ar:=a1.rf.2 i vi l bb HL.out;have dF:=eQq ar;rw[ba]at dF;obtain⟨Ai,ci,rfl,_⟩:=fW ar;have f0:=a1.fr.cell i;have e0:vF.toArray[i]? = some (.slice Ai nl ci):=(by rw[<-ba];simpa using bb);rw[e0]at f0;have y2:=a1.fr.lt;have dG:=fQ bb;have bc:=fQ ba;clear a1 e0 bb ar ba;go_wp2_with fail;go_loopw [9,181] (fun tv iv wr=>∃ (z:Nat) (T:List Int) (wt:List Bool),z<=nl/\iv = .int .i64 z/\Hid (MainRel r k w.heap.size (w.heap.size+1) gF gA gB wd.heap.size (wd.heap.size+1+1) #[.slice I r.sig.inn.length cp,.slice J r.sig.out.length K,.int .i64 r.places,.slice M r.params.length O,.slice (some ⟨Y,go,none⟩) r.code.length cc] w bA bB vF F tv T A' B' wt (l.drop z) wr)) (fun _ iv _=>nl - (intOf iv).toNat)
           case atStart=>exact⟨0,_,_,by omega,rfl,aO⟩
           case round=>
            clear aO;obtain⟨z,T,bY,hz,rfl,IZ⟩:=hrel;obtain⟨wz,rfl⟩:∃ wz:Ab,wz=wr:=⟨_,rfl⟩;by_cases bZ:z<nl
            ·have b3:decide ((z:Int)<nl)=true:=(by simp;omega);have dH:(z:Int)<nl:=(by omega);obtain⟨x,E⟩:∃ x,l[z]? = some x:=⟨_,Aj (by rw[bc.out];exact bZ)⟩;obtain⟨q,rfl,aV⟩:=aW.out.2.1 i l HL.out x (Az E);have av:q<k:=(by rw[o.out]at aV;exact aV);have aG:(q:Int)<k:=(by omega)
             have ed:l.drop z=(q:Int) :: l.drop (z+1):=by
              obtain⟨dI,e⟩:=List.getElem?_eq_some_iff.1 E;rw[List.drop_eq_getElem_cons dI,e]
             have H:=IZ.out;rw[ed]at H;have JZ:=fQ H;have ar:=H.1.rf.2 i _ l dG.out HL.out;rw[bc.out]at ar;have s0:=Src.fQj ar;obtain⟨nb,no,rfl,aw⟩:=s0.addr (by omega);have c0:=s0.at_ bZ;rw[aKp (by rw[bc.out];exact bZ),(List.getElem?_eq_some_iff.1 E).2]at c0;have aP:q<bY.length:=(by rw[H.2.2.2.1.lw,o.out];exact av);obtain⟨bq,b4⟩:∃ bq,bY[q]? = some bq:=⟨_,Aj aP⟩;have b0:=H.1.w.cell q
             have eb:(boolsV bY).toArray[q]? = some (.bool bq):=by
              simp only[boolsV,AJ,AK,b4];rfl
             rw[eb]at b0;have y3:=H.1.w.lt;have b5:=fQ b4;obtain⟨tz,b6⟩:=fX T.length
             have dJ:tz<=4096:=by
              have:=bQy H.2.2.2.1;rw[o.out]at this;omega
             have b7:=H.2.2.1;rw[b6]at b7;have c4:=fQ b7;have b8:=fQ b6;have dX:=H.1.fQf;clear E ed H ar s0 b4 eb b7 b6 aP
             cases bq with
             | true=>
              have HW:=fQ (JZ.out.waits b5.out);clear IZ;go_wp2;exact⟨⟨z+1,_,_,by omega,by simp,HW⟩,by simp[intOf];omega⟩
             | false=>
              obtain⟨Av,cv,rfl,_⟩:=fW c4.out;clear IZ;go_wp2_with (at_builtin;refine jY _ rfl (.tmp 192) (.tmp 194) 23 rfl w.heap.size 3 (.int .i64 0) 1 8 underlying23 oK rfl (by omega) (.slice Av tz cv) tz (i64s T) rfl (iJ c4.out _) (some ⟨wz.heap.size,0,none⟩) 1 1 [.int .i64 (q:Int)] rfl (aYm _ _ _) (aZo _ _) (by unfold maxLen;omega) (by omega) (by simp;omega) ?_);rintro v2 w2 h1 h2 D _;have el:i64s T ++ [.int .i64 (q:Int)]=i64s (T ++ [(q:Int)]):=(by simp[i64s]);rw[el,<-b8.out]at h1;rw[<-b8.out]at h2 D;have JA:=JZ.out.alloc (.cells #[.int .i64 (q:Int)] 3);rw[<-b8.out]at JA;have HP:=fQ (JA.push b5.out h1 h2 (by simpa using D));have aq:=JA.1.w.grown h2 (own_ne JA.2.2.1 JA.1.w (by decide));have d1:=frz aq q;have d2:=aq.lt
              have d0:w2.cell? ⟨wd.heap.size+1+1,q,none⟩=some (.bool false):=by
               rw[aq.cell q];simp only[boolsV,AJ,AK,b5.out];rfl
              clear h1 h2 D el JA aq;go_wp2;exact⟨⟨z+1,_,_,by omega,by simp,HP⟩,by simp[intOf];omega⟩
            ·have b3:decide ((z:Int)<nl)=false:=(by simp;omega);have dY:z=nl:=(by omega);have H:=IZ.out;have ed:l.drop z = []:=List.drop_eq_nil_of_le (by rw[bc.out];omega);rw[ed]at H;have JZ:=fQ H;have hT:=bQy H.2.2.2.1;rw[o.out]at hT;have HT:=fQ hT;clear H ed IZ hT;go_wp2;go_roundg (muL k r.places.toNat A' T)
             case measure=>rw[<-IG.out];exact dVc bX.out bW.out HT.out
             case rel=>exact⟨_,_,_,_,JZ,fQ rfl⟩
end Go.Proofs.YtabibkpfgmolkaaGreat

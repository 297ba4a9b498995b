/- Lemmas for the claim, part 13. Conditions: none. -/
import Derived.Test.YtabibkpfgmolkaaGreatPl12
set_option maxRecDepth 100000
set_option maxHeartbeats 16000000
set_option linter.unusedVariables false
set_option linter.unusedSimpArgs false
open Go.Lib renaming hid→fQ
open Go.Proofs.Tryz renaming prog→fZ
open Go.Proofs.Tryz
open Go.RowKit
open List renaming getElem?_eq_getElem→Aj,mem_of_getElem?→Aq,getElem?_eq_none→Az,take_of_length_le→Ak,not_mem_nil→Av,take_succ_eq_append_getElem→Aw,mem_cons→Ay
open Nat renaming le_refl→Ax
open Go renaming World→AJ,Value→AQ,Calls→AX
namespace Go.Proofs.YtabibkpfgmolkaaGreat
variable {n base k:Nat}{w:AJ}{l:List Int}{x:Int}{v:AQ}
def LL(w:AJ)(v:AQ)(P:List (List Int)):Prop:=∃ A c vs,v = .slice A P.length c/\Src w A P.length vs/\∀ (i:Nat) u p,vs[i]? = some u->P[i]? = some p->IR w u p
theorem LL.below{w w':AJ}{B:Nat}{v:AQ}{P:List (List Int)}(h:LL w v P)(hb:Below B w w')(a:w.heap.size<=B):LL w' v P:=by
 obtain⟨A,c,vs,e,h1,h2⟩:=h;exact⟨A,c,vs,e,h1.below hb a,fun i u p q1 b=>(h2 i u p q1 b).below hb a⟩
theorem LL.shape{P:List (List Int)}(h:LL w v P):∃ A c,v = .slice A P.length c:=by
 obtain⟨A,c,vs,e,_⟩:=h;exact⟨A,c,e⟩
theorem LL.at{w:AJ}{A:Option Addr}{n c:Nat}{P:List (List Int)}(h:LL w (.slice A n c) P){i:Nat}{p:List Int}(hp:P[i]? = some p):∃ b o B k,A=some ⟨b,o,none⟩/\b<w.heap.size/\w.cell? ⟨b,o+i,none⟩=some (.slice B p.length k)/\IR w (.slice B p.length k) p:=by
 obtain⟨A',c',vs,e,h1,h2⟩:=h;injection e with d e2 f;subst d;subst f;have hi:=(List.getElem?_eq_some_iff.1 hp).1;obtain⟨b,o,e,hb⟩:=h1.addr (by omega);subst e;have hc:=h1.at_ hi;have g:i<vs.length:=(by rw[h1.1];exact hi);have a:=h2 i _ p (Aj g) hp;obtain⟨B,k,e⟩:=a.shape;rw[e]at hc a;exact⟨b,o,B,k,rfl,hb,hc,a⟩
def eQy(w:AJ)(a:Ending)(w':AJ):Prop:=a = .returned (.bool true)/\∃ n,w'=w.drewN n
theorem aVw(w:AJ)(a b:Nat):(w.drewN a).drewN b=w.drewN (a+b):=by
 simp[World.drewN];omega
theorem aWq(v u:AQ)(P:List (List Int))(w:AJ)(h1:LL w v P)(h2:LL w u P)(f:P.length<=100000)(hp:∀ p∈P,p.length<=100000):AX fZ 22 #[v,u] w (eQy w):=by
 obtain⟨A1,c1,rfl⟩:=h1.shape;obtain⟨A2,c2,rfl⟩:=h2.shape;have H1:=fQ h1;have e:=fQ h2;have g:=fQ hp;obtain⟨n,hn⟩:=fX P.length;rw[hn]at H1 e f ⊢;have h:=fQ hn;have q0:((n:Int) != (n:Int))=false:=(by simp);clear h1 h2 hp hn;go_in;go_wp2;go_loopw [5] (fun i wr=>∃ k:Nat,k<=n/\i = .int .i64 k/\Hid (∃ m,wr=w.drewN m)) (fun i _=>n - (intOf i).toNat)
 case atStart=>exact⟨0,by omega,rfl,fQ ⟨0,rfl⟩⟩
 case round=>
  obtain⟨k,hk,rfl,IM⟩:=hrel;obtain⟨m,rfl⟩:=IM.out;clear IM;by_cases l:k<n
  ·have r:decide ((k:Int)<n)=true:=(by simp;omega);have ag:(k:Int)<n:=(by omega);obtain⟨p,hp⟩:∃ p,P[k]? = some p:=⟨_,Aj (by rw[h.out];exact l)⟩;obtain⟨b,o,B,cb,rfl,hb,hc,a⟩:=H1.out.at hp;obtain⟨b2,o2,B2,ar,rfl,au,s,c⟩:=e.out.at hp;obtain⟨q,hq⟩:=fX p.length;have t:=g.out p (Aq hp);rw[hq]at hc s a c t;have y:=fQ hq;have z:=fQ a;have A:=fQ c;have q1:((q:Int) != (q:Int))=false:=(by simp);clear hp hq a c;go_wp2_with fail;go_quiet (fail);go_wp2;go_loopw [6] (fun i wr=>∃ j:Nat,j<=q/\i = .int .i64 j/\Hid (∃ m,wr=w.drewN m)) (fun i _=>q - (intOf i).toNat)
   case atStart=>exact⟨0,by omega,rfl,fQ ⟨_,aVw _ _ _⟩⟩
   case round=>
    obtain⟨j,hj,rfl,IM⟩:=hrel;obtain⟨m2,rfl⟩:=IM.out;clear IM;by_cases C:j<q
    ·have D:decide ((j:Int)<q)=true:=(by simp;omega);have al:(j:Int)<q:=(by omega);obtain⟨x,d⟩:∃ x,p[j]? = some x:=⟨_,Aj (by rw[y.out];exact C)⟩;obtain⟨ab,ao,rfl,hab,av⟩:=z.out.cell d;obtain⟨aw,ax,rfl,an,aq⟩:=A.out.cell d;have q2:(x != x)=false:=(by simp);clear d;go_wp2_with fail;go_quiet (fail);go_wp2;exact⟨⟨j+1,by omega,by simp,fQ ⟨_,rfl⟩⟩,by simp[intOf];omega⟩
    ·have D:decide ((j:Int)<q)=false:=(by simp;omega);go_wp2;exact⟨⟨k+1,by omega,by simp,fQ ⟨_,rfl⟩⟩,by simp[intOf];omega⟩
  ·have r:decide ((k:Int)<n)=false:=(by simp;omega);go_wp2;go_ret;exact⟨rfl,_,rfl⟩
theorem aXj{g:Nat}{cs:Array AQ}(h:Blk w g 3 cs)(a:l.length=n)(e:i64s l=cs.toList)(hn:n<=100):Ints w (.slice (some ⟨g,0,none⟩) n n) l:=by
 subst a;exact⟨_,_,rfl,by rw[e];exact Blk.eXm h (by have:=congrArg List.length e;simpa[i64s]using this.symm),Ax _,(fun e=>by cases e),by omega⟩
def nJ:RowD:=⟨⟨[],[127]⟩,2,[],[⟨258,0,[],[],[]⟩,⟨256,1,[],[0],[]⟩,⟨106,0,[0,0],[1],[]⟩,⟨276,0,[1],[],[]⟩]⟩
def dKr(w:AJ)(a:Ending)(w':AJ):Prop:=∃ v,a = .returned v/\RowV w' v nJ/\Below w.heap.size w w'
theorem aKf(w:AJ):AX fZ 20 #[] w (dKr w):=by
 go_in;go_wp2;refine bodyPost_ret (v:=.agg #[.slice none 0 0,.slice (some ⟨w.heap.size+1,0,none⟩) 1 1,.int .i64 2,.slice none 0 0,.slice (some ⟨w.heap.size+1+1+1+1+1+1,0,none⟩) 4 4]) (by simp[results,results20,go_sem]) rfl ⟨_,rfl,⟨_,_,_,_,rfl,Ints.nil _,?_,Ints.nil _,?_⟩,?_⟩
 ·exact aXj (cs:=#[.int .i64 127]) (Blk.alloc (Blk.alloc (Blk.alloc (Blk.alloc (Blk.alloc (Blk.newAt _ _ _ (by simp)) _) _) _) _) _) rfl rfl (by decide)
 ·refine⟨_,_,[[.int .i64 258,.int .u64 0,.slice none 0 0,.slice none 0 0,.slice none 0 0],[.int .i64 256,.int .u64 1,.slice none 0 0,.slice (some ⟨w.heap.size+1+1,0,none⟩) 1 1,.slice none 0 0],[.int .i64 106,.int .u64 0,.slice (some ⟨w.heap.size+1+1+1,0,none⟩) 2 2,.slice (some ⟨w.heap.size+1+1+1+1,0,none⟩) 1 1,.slice none 0 0],[.int .i64 276,.int .u64 0,.slice (some ⟨w.heap.size+1+1+1+1+1,0,none⟩) 1 1,.slice none 0 0,.slice none 0 0]],rfl,by simp[nJ],(fun e=>by cases e),by simp[nJ],rfl,by simp,?_,?_⟩
  ·intro i u x h1 h2
   match i,h1,h2 with
   | 0,h1,h2=>
    injection h1 with h1;injection h2 with h2;subst h1;subst h2;exact⟨_,_,_,rfl,by simp[CodeD.ok],Ints.nil _,Ints.nil _,Ints.nil _⟩
   | 1,h1,h2=>
    injection h1 with h1;injection h2 with h2;subst h1;subst h2;exact⟨_,_,_,rfl,by simp[CodeD.ok],Ints.nil _,aXj (cs:=#[.int .i64 0]) (Blk.alloc (Blk.alloc (Blk.alloc (Blk.alloc (Blk.newAt _ _ _ (by simp)) _) _) _) _) rfl rfl (by decide),Ints.nil _⟩
   | 2,h1,h2=>
    injection h1 with h1;injection h2 with h2;subst h1;subst h2;exact⟨_,_,_,rfl,by simp[CodeD.ok],aXj (cs:=#[.int .i64 0,.int .i64 0]) (Blk.alloc (Blk.alloc (Blk.alloc (Blk.newAt _ _ _ (by simp)) _) _) _) rfl rfl (by decide),aXj (cs:=#[.int .i64 1]) (Blk.alloc (Blk.alloc (Blk.newAt _ _ _ (by simp)) _) _) rfl rfl (by decide),Ints.nil _⟩
   | 3,h1,h2=>
    injection h1 with h1;injection h2 with h2;subst h1;subst h2;exact⟨_,_,_,rfl,by simp[CodeD.ok],aXj (cs:=#[.int .i64 1]) (Blk.alloc (Blk.newAt _ _ _ (by simp)) _) rfl rfl (by decide),Ints.nil _,Ints.nil _⟩
   | n+4,h1,h2=>simp at h1
  ·exact Blk.eXm (Blk.newAt _ _ _ (by simp)) rfl
 ·exact(((((((Below.refl _ _).alloc (Ax _) _).alloc (by simp) _).alloc (by simp;omega) _).alloc (by simp;omega) _).alloc (by simp;omega) _).alloc (by simp;omega) _).alloc (by simp;omega) _
def noE:EnvD:=⟨[],0,[],[],false⟩
theorem bYo(w:AJ):EnvV w (.agg #[.slice none 0 0,.int .i64 0,.slice none 0 0,.slice none 0 0,.bool false]) noE:=
 ⟨_,_,_,rfl,⟨none,0,[],rfl,Ax _,fun _=>rfl,by simp[noE],rfl,by simp,fun i r x h=>by simp at h,Src.nil _ _⟩,Ints.nil _,⟨none,0,rfl,Src.nil _ _,Ax _,fun _=>rfl,by simp[noE]⟩⟩
theorem aYd{i:Nat}{c:CodeD}(h:nJ.code[i]? = some c)(a:x∈nextOf c i):x=(i:Int)+1/\i<3:=by
 match i,h with
 | 0,h=>injection h with h;subst h;simp[nextOf]at a;exact⟨a,by omega⟩
 | 1,h=>injection h with h;subst h;simp[nextOf]at a;exact⟨by omega,by omega⟩
 | 2,h=>injection h with h;subst h;simp[nextOf]at a;exact⟨by omega,by omega⟩
 | 3,h=>injection h with h;subst h;simp[nextOf]at a
 | n+4,h=>simp[nJ]at h
theorem aJb:CheckP noE nJ where
 env:=by decide
 sig:=by decide
 n1:=by decide
 n2:=by decide
 p1:=by decide
 p2:=by decide
 par:=rfl
 pin:=rfl
 pun:=by simp[nJ]
 code c hc:=by
  simp only[nJ,Ay,Av,or_false]at hc;rcases hc with rfl | rfl | rfl | rfl <;> rfl
 first c hc:=by injection hc with hc;subst hc;rfl
 last c hc:=by injection hc with hc;subst hc;decide
 rank:=⟨fun i=>4 - i,fun i c k hc _ a=>by
  obtain⟨h1,h2⟩:=aYd hc a;show 4 - k<4 - i
  omega⟩
def lA:List (List Int):=[[],[],[0],[1]]
def lB:List (List Int):=[[],[0],[1],[]]
theorem dXs:Live nJ 2 0:=.arg (c:=⟨106,0,[0,0],[1],[]⟩) rfl (by simp)
theorem dXt:Live nJ 3 1:=.arg (c:=⟨276,0,[1],[],[]⟩) rfl (by simp)
theorem cJa:Snd nJ lA lB where
 lA:=rfl
 lB:=rfl
 nA s hs:=by
  simp only[lA,Ay,Av,or_false]at hs;rcases hs with rfl | rfl | rfl | rfl <;> simp
 nB s hs:=by
  simp only[lB,Ay,Av,or_false]at hs;rcases hs with rfl | rfl | rfl | rfl <;> simp
 sA i s x hi a:=by
  match i,hi with
  | 0,hi=>injection hi with hi;subst hi;simp at a
  | 1,hi=>injection hi with hi;subst hi;simp at a
  | 2,hi=>injection hi with hi;subst hi;simp at a;subst a;exact dXs
  | 3,hi=>injection hi with hi;subst hi;simp at a;subst a;exact dXt
  | n+4,hi=>simp[lA]at hi
 sB i s x hi a:=by
  match i,hi with
  | 0,hi=>injection hi with hi;subst hi;simp at a
  | 1,hi=>injection hi with hi;subst hi;simp at a;subst a;exact⟨⟨256,1,[],[0],[]⟩,rfl,2,by simp[nextOf],dXs⟩
  | 2,hi=>injection hi with hi;subst hi;simp at a;subst a;exact⟨⟨106,0,[0,0],[1],[]⟩,rfl,3,by simp[nextOf],dXt⟩
  | 3,hi=>injection hi with hi;subst hi;simp at a
  | n+4,hi=>simp[lB]at hi
theorem bYp(i:Nat)(hi:i<4):Stab nJ lA lB i:=by
 intro c s t hc hs a;have hn:=fun(k:Nat) (d:(k:Int)∈nextOf c i)=>aYd hc d
 match i,hi,hc,hs,a with
 | 0,_,hc,hs,a=>
  injection hc with hc;injection hs with hs;injection a with a;subst hc;subst hs;subst a;refine⟨by simp,fun k d u b x e=>?_⟩;have:k=1:=(by have:=(hn k d).1;omega);subst this;injection b with b;subst b;simp at e
 | 1,_,hc,hs,a=>
  injection hc with hc;injection hs with hs;injection a with a;subst hc;subst hs;subst a;refine⟨by simp,fun k d u b x e=>?_⟩;have:k=2:=(by have:=(hn k d).1;omega);subst this;injection b with b;subst b;simp at e;subst e;simp
 | 2,_,hc,hs,a=>
  injection hc with hc;injection hs with hs;injection a with a;subst hc;subst hs;subst a;refine⟨by simp,fun k d u b x e=>?_⟩;have:k=3:=(by have:=(hn k d).1;omega);subst this;injection b with b;subst b;simp at e;subst e;simp
 | 3,_,hc,hs,a=>
  injection hc with hc;injection hs with hs;injection a with a;subst hc;subst hs;subst a;refine⟨by simp,fun k d u b x e=>?_⟩;have:=(hn k d).2;omega
theorem aXx:(∀ (i:Nat) s x,lA[i]? = some s->(x∈s↔Live nJ i x))/\(∀ (i:Nat) s x,lB[i]? = some s->(x∈s↔LiveB nJ i x)):=aWw aJb.eXy cJa (fun i hi=>bYp i hi)
theorem bVw(i:Nat)(p:List Int)(h:lA[i]? = some p):IsSet p (Live nJ i):=by
 refine⟨?_,fun x=>aXx.1 i p x h⟩;have:=Aq h;simp only[lA,Ay,Av,or_false]at this;rcases this with rfl | rfl | rfl | rfl <;> simp
theorem bJl(i:Nat)(p:List Int)(h:lB[i]? = some p):IsSet p (LiveB nJ i):=by
 refine⟨?_,fun x=>aXx.2 i p x h⟩;have:=Aq h;simp only[lB,Ay,Av,or_false]at this;rcases this with rfl | rfl | rfl | rfl <;> simp
theorem aVv{o p:Int}(h:bZv nJ o p):o=p:=by
 obtain⟨i,c,hc,ho,hp⟩:=h
 match i,hc with
 | 0,hc=>injection hc with hc;subst hc;simp at ho
 | 1,hc=>
  injection hc with hc;subst hc;simp at ho;subst ho;rcases hp with⟨hp,_⟩ | hp
  ·have:=(aXx.2 1 _ p rfl).2 hp;simp at this;exact this.symm
  ·simp at hp;exact hp.symm
 | 2,hc=>
  injection hc with hc;subst hc;simp at ho;subst ho;rcases hp with⟨hp,_⟩ | hp
  ·have:=(aXx.2 2 _ p rfl).2 hp;simp at this;exact this.symm
  ·simp at hp;exact hp.symm
 | 3,hc=>injection hc with hc;subst hc;simp at ho
 | n+4,hc=>simp[nJ]at hc
theorem bVx(i:Nat)(p:List Int)(h : [([]:List Int),[]][i]? = some p):IsSet p (Clashes nJ (i:Int)):=by
 have hp:p = []:=by
  have:=Aq h
  simpa using this
 subst hp;refine⟨by simp,fun x=>⟨fun h=>by simp at h,fun b=>?_⟩⟩;obtain⟨a,(h | h) | (h | h)⟩:=b
 ·exact absurd (aVv h) a
 ·have:=h.1;simp[nJ]at this
 ·exact absurd (aVv h).symm a
 ·have:=h.1;simp[nJ]at this
theorem Told.ll{Q:Nat->Int->Prop}(h:Told w base v n Q){L:List (List Int)}(hl:L.length=n)(f:∀ (i:Nat) p,L[i]? = some p->IsSet p (Q i)):LL w v L:=by
 obtain⟨vs,P,h1,h2,g,j⟩:=h
 have e:P=L:=by
  apply List.ext_getElem?;intro i;by_cases hi:i<n
  ·have a:=Aj (show i<P.length by omega);have b:=Aj (show i<L.length by omega);rw[a,b,(j i _ a).one (f i _ b)]
  ·rw[Az (by omega),Az (by omega)]
 subst e;subst g;obtain⟨A,c,rfl,_⟩:=gZ h1;refine⟨A,c,vs,rfl,Src.eXq h1,fun i u p q1 l=>?_⟩;have d:=h2.2 i u p q1 l;obtain⟨B,k,rfl,_⟩:=gZ d;exact⟨B,k,rfl,Src.eXq d⟩
def dKn(w:AJ)(a:Ending)(w':AJ):Prop:=a = .returned (.bool true)/\Below w.heap.size w w'
theorem bJm{g:Nat}{cs:Array AQ}{L:List (List Int)}(h:Blk w g 23 cs)(hn:cs.size=n)(a:L.length=n)(b:∀ (i:Nat) u p,cs.toList[i]? = some u->L[i]? = some p->IR w u p):LL w (.slice (some ⟨g,0,none⟩) n n) L:=by
 subst a;exact⟨_,_,cs.toList,rfl,Blk.eXm h hn,b⟩
theorem aKc(w:AJ):AX fZ 6 #[] w (dKn w):=by
 go_in;go_wp2_with fail;refine(aKf _).mono ?_;rintro e w1 ⟨v1,rfl,f,d⟩;have o:=fQ f;have q:=fQ d;clear f d;go_wp2_with fail;refine(bXg noE nJ _ _ _ (bYo _) o.out).mono ?_;rintro e w2 (⟨hn,_,_⟩ | ⟨_,va,rfl,g,hb⟩)
 ·exact absurd aJb hn
 have r:=fQ (g.ll (L:=lA) rfl bVw);have s:=fQ (q.out.trans (hb.mono q.out.size));clear g hb o;go_wp2_with fail;refine(aKf _).mono ?_;rintro e w3 ⟨v3,rfl,f,d⟩;have t:=fQ f;have v:=fQ (s.out.trans (d.mono s.out.size));have x:=fQ (r.out.below d (Ax _));clear f d r;go_wp2_with fail;refine(bYn noE nJ _ _ _ (bYo _) t.out).mono ?_;rintro e w4 (⟨hn,_,_⟩ | ⟨_,vb,rfl,g,hb⟩)
 ·exact absurd aJb hn
 have y:=fQ (g.ll (L:=lB) rfl bJl);have z:=fQ (v.out.trans (hb.mono v.out.size));have A:=fQ (x.out.below hb (Ax _));clear g hb t x;go_wp2_with fail;refine(aKf _).mono ?_;rintro e w5 ⟨v5,rfl,f,d⟩;have B:=fQ f;have C:=fQ (z.out.trans (d.mono z.out.size));have D:=fQ (A.out.below d (Ax _));have E:=fQ (y.out.below d (Ax _));clear f d A y;go_wp2_with fail;refine(bXi noE nJ _ _ _ (bYo _) B.out).mono ?_;rintro e c (⟨hn,_,_⟩ | ⟨_,vc,rfl,g,hb⟩)
 ·exact absurd aJb hn
 have F:=fQ (g.ll (L:=[[],[]]) rfl bVx);have G:=fQ (C.out.trans (hb.mono C.out.size));have H:=fQ (D.out.below hb (Ax _));have I:=fQ (E.out.below hb (Ax _));clear g hb B D E;go_wp2_with fail;have k:=fQ (al3 c (.cells #[.int .i64 0] 3) (.cells #[.int .i64 1] 3) (.cells #[.slice none 0 0,.slice none 0 0,.slice (some ⟨c.heap.size,0,none⟩) 1 1,.slice (some ⟨c.heap.size+1,0,none⟩) 1 1] 23));refine(aWq _ _ lA _ (H.out.below k.out (Ax _)) (bJm (cs:=#[.slice none 0 0,.slice none 0 0,.slice (some ⟨c.heap.size,0,none⟩) 1 1,.slice (some ⟨c.heap.size+1,0,none⟩) 1 1]) (Blk.newAt _ _ _ (by simp)) rfl rfl ?_) (by decide) (by decide)).mono ?_
 ·intro i u p q1 a
  match i,q1,a with
  | 0,q1,a=>injection q1 with q1;injection a with a;subst q1;subst a;exact IR.nil _
  | 1,q1,a=>injection q1 with q1;injection a with a;subst q1;subst a;exact IR.nil _
  | 2,q1,a=>injection q1 with q1;injection a with a;subst q1;subst a;exact IR.one (Blk.alloc (Blk.alloc (Blk.new _ _ _) _) _)
  | 3,q1,a=>injection q1 with q1;injection a with a;subst q1;subst a;exact IR.one (Blk.alloc (Blk.newAt _ _ _ (by simp)) _)
  | n+4,q1,a=>simp[lA]at a
 rintro e b ⟨rfl,J,rfl⟩;have h:Below c.heap.size c ((((c.alloc (.cells #[.int .i64 0] 3)).alloc (.cells #[.int .i64 1] 3)).alloc (.cells #[.slice none 0 0,.slice none 0 0,.slice (some ⟨c.heap.size,0,none⟩) 1 1,.slice (some ⟨c.heap.size+1,0,none⟩) 1 1] 23)).drewN J):=fK k.out _;obtain⟨b,K⟩:=fX (((((c.alloc (.cells #[.int .i64 0] 3)).alloc (.cells #[.int .i64 1] 3)).alloc (.cells #[.slice none 0 0,.slice none 0 0,.slice (some ⟨c.heap.size,0,none⟩) 1 1,.slice (some ⟨c.heap.size+1,0,none⟩) 1 1] 23)).drewN J));rw[K]at h ⊢;have M:=fQ (G.out.trans (h.mono G.out.size));have N:=fQ (I.out.below h (Ax _));have O:=fQ (F.out.below h (Ax _));clear h K I F H k;go_wp2_with fail;have l:=fQ (al3 b (.cells #[.int .i64 0] 3) (.cells #[.int .i64 1] 3) (.cells #[.slice none 0 0,.slice (some ⟨b.heap.size,0,none⟩) 1 1,.slice (some ⟨b.heap.size+1,0,none⟩) 1 1,.slice none 0 0] 23));refine(aWq _ _ lB _ (N.out.below l.out (Ax _)) (bJm (cs:=#[.slice none 0 0,.slice (some ⟨b.heap.size,0,none⟩) 1 1,.slice (some ⟨b.heap.size+1,0,none⟩) 1 1,.slice none 0 0]) (Blk.newAt _ _ _ (by simp)) rfl rfl ?_) (by decide) (by decide)).mono ?_
 ·intro i u p q1 a
  match i,q1,a with
  | 0,q1,a=>injection q1 with q1;injection a with a;subst q1;subst a;exact IR.nil _
  | 1,q1,a=>injection q1 with q1;injection a with a;subst q1;subst a;exact IR.one (Blk.alloc (Blk.alloc (Blk.new _ _ _) _) _)
  | 2,q1,a=>injection q1 with q1;injection a with a;subst q1;subst a;exact IR.one (Blk.alloc (Blk.newAt _ _ _ (by simp)) _)
  | 3,q1,a=>injection q1 with q1;injection a with a;subst q1;subst a;exact IR.nil _
  | n+4,q1,a=>simp[lB]at a
 rintro e aM ⟨rfl,P,rfl⟩;have j:Below b.heap.size b ((((b.alloc (.cells #[.int .i64 0] 3)).alloc (.cells #[.int .i64 1] 3)).alloc (.cells #[.slice none 0 0,.slice (some ⟨b.heap.size,0,none⟩) 1 1,.slice (some ⟨b.heap.size+1,0,none⟩) 1 1,.slice none 0 0] 23)).drewN P):=fK l.out _;obtain⟨Q,R⟩:=fX (((((b.alloc (.cells #[.int .i64 0] 3)).alloc (.cells #[.int .i64 1] 3)).alloc (.cells #[.slice none 0 0,.slice (some ⟨b.heap.size,0,none⟩) 1 1,.slice (some ⟨b.heap.size+1,0,none⟩) 1 1,.slice none 0 0] 23)).drewN P));rw[R]at j ⊢;have S:=fQ (M.out.trans (j.mono M.out.size));have T:=fQ (O.out.below j (Ax _));clear j R N O l;go_wp2_with fail;have m:=fQ (Below.alloc (Below.refl Q.heap.size Q) (Ax _) (.cells #[.slice none 0 0,.slice none 0 0] 23));refine(aWq _ _ [[],[]] _ (T.out.below m.out (Ax _)) (bJm (cs:=#[.slice none 0 0,.slice none 0 0]) (Blk.new _ _ _) rfl rfl ?_) (by decide) (by decide)).mono ?_
 ·intro i u p q1 a
  match i,q1,a with
  | 0,q1,a=>injection q1 with q1;injection a with a;subst q1;subst a;exact IR.nil _
  | 1,q1,a=>injection q1 with q1;injection a with a;subst q1;subst a;exact IR.nil _
  | n+2,q1,a=>simp at a
 rintro e aN ⟨rfl,U,rfl⟩;have V:=fQ (S.out.trans ((fK m.out U).mono S.out.size));clear m T;go_wp2;go_ret;exact⟨rfl,V.out⟩
theorem aQh(v:AQ)(l:List Int)(x:Int)(w:AJ)(hs:IR w v l)(o:l.length<=9223372036854775806):
  AX fZ 9 #[v,.int .i64 x] w fun e w'=>e = .returned (.bool (decide (x∈l)))/\w=w':=by
 obtain⟨A,c,rfl⟩:=hs.shape;have g:=fQ hs;obtain⟨n,hn⟩:=fX l.length;rw[hn]at g o ⊢;have j:=fQ hn;clear hs hn;go_in;go_wp2;go_loop [9] (fun i=>∃ k:Nat,k<=n/\i = .int .i64 k/\Hid (x ∉ l.take k)) (fun i=>n - (intOf i).toNat)
 case atStart=>exact⟨0,by omega,rfl,fQ (by simp)⟩
 case round=>
  obtain⟨k,hk,rfl,d⟩:=hrel;by_cases p:k<n
  ·have q:decide ((k:Int)<n)=true:=(by simp;omega);have af:(k:Int)<n:=(by omega);obtain⟨y,f⟩:∃ y,l[k]? = some y:=⟨_,Aj (by rw[j.out];exact p)⟩;obtain⟨ab,ao,rfl,hab,ag⟩:=g.out.cell f;have m:=fQ f;clear f;by_cases a:y=x
   ·have q1:(y == x)=true:=(by simp[a]);have b:=fQ (show decide (x∈l)=true by rw[decide_eq_true_eq,<-a];exact Aq m.out);clear a;go_wp2;go_ret;exact⟨by rw[b.out];rfl,rfl⟩
   ·have q1:(y == x)=false:=by simp[a]
    have b:=fQ (show x ∉ l.take (k+1) by
     rw[yW m.out];rintro(h | h)
     ·exact d.out h
     ·exact a h.symm)
    clear a d;go_wp2;go_round
    case rel=>exact⟨k+1,by omega,by simp,b⟩
    case measure=>simp[intOf];omega
  ·have q:decide ((k:Int)<n)=false:=by simp;omega
   have b:=fQ (show decide (x∈l)=false by
    rw[decide_eq_false_iff_not];have:=d.out
    rwa[Ak (by rw[j.out];omega)]at this)
   go_wp2;go_ret;exact⟨by rw[b.out];rfl,rfl⟩
theorem Sall.range{e:EnvD}{r:RowD}(hc:CheckP e r){a b:Int}(h:Sall r a b):(0<=a/\a<r.places)/\0<=b/\b<r.places:=by
 rcases h with⟨i,c,h1,h2,d⟩ | ⟨h1,h2⟩
 ·have hp:=aQu (hc.code c (Aq h1));refine⟨hp.2.1 a h2,?_⟩;rcases d with⟨d,_⟩ | d
  ·exact d.range hc
  ·exact hp.2.1 b d
 ·refine⟨uK hc.pin h1,?_⟩;rcases h2 with h2 | h2
  ·exact uK hc.pin h2
  ·exact h2.range hc
theorem Clashes.range{e:EnvD}{r:RowD}(hc:CheckP e r){a b:Int}(h:Clashes r a b):0<=b/\b<r.places:=by
 rcases h.2 with h | h
 ·exact(Sall.range hc h).2
 ·exact(Sall.range hc h).1
theorem Clashes.symm{r:RowD}{a b:Int}(h:Clashes r a b):Clashes r b a:=⟨fun e=>h.1 e.symm,h.2.symm⟩
theorem IsSet.small{e:EnvD}{r:RowD}(hc:CheckP e r){p:List Int}{Q:Int->Prop}(h:IsSet p Q)(a:∀ x,Q x->0<=x/\x<r.places):p.length<=4096:=by
 have h1:=hc.p1;have h2:=hc.p2;have:=sZ (m:=r.places.toNat) (h.1.imp (fun h=>by omega)) (fun x b=>by have:=a x ((h.2 x).1 b);omega);omega
theorem Told.lists{Q:Nat->Int->Prop}(h:Told w base v n Q):∃ P,LL w v P/\P.length=n/\∀ (i:Nat) p,P[i]? = some p->IsSet p (Q i):=by
 have c:=h;obtain⟨vs,P,h1,h2,a,b⟩:=h;exact⟨P,c.ll a b,a,b⟩
def dZg(w:AJ)(a:Ending)(w':AJ):Prop:=a = .returned (.bool true)/\Below w.heap.size w w'
end Go.Proofs.YtabibkpfgmolkaaGreat
namespace Go.Proofs.YtabibkpfgmolkaaGreat
variable {n base k:Nat}{w:AJ}{l:List Int}{x:Int}{v:AQ}
def kZ(n:Int)(l:List Int)(u:Bool):Bool:=within n l && (!u || decide l.Nodup)
theorem aVx{n:Int}(a:l[k]? = some x)(h:within n (l.take k)=true)(b:0<=x)(h1:x<n):within n (l.take (k+1))=true:=by
 obtain⟨c,e⟩:=List.getElem?_eq_some_iff.1 a;rw[Aw c,e];unfold within at h ⊢;rw[List.all_append,h];simp;exact⟨b,h1⟩
theorem aZa{n:Int}(a:x∈l)(h:¬(0<=x/\x<n)):within n l=false:=by
 rw[Bool.eq_false_iff];intro b;exact h (uK b a)
theorem cQb(c:l[k]? = some x)(h:(l.take k).Nodup)(hn:x ∉ l.take k):(l.take (k+1)).Nodup:=by
 obtain⟨d,e⟩:=List.getElem?_eq_some_iff.1 c;rw[Aw d,e,List.nodup_append];exact⟨h,by simp,fun a ha b hb e2=>by simp at hb;subst hb;rw[e2]at ha;exact hn ha⟩
theorem cYq{j:Nat}(a:l[j]? = some x)(b:l[k]? = some x)(h:j<k):decide l.Nodup=false:=by
 rw[decide_eq_false_iff_not];intro hn;obtain⟨h1,c⟩:=List.getElem?_eq_some_iff.1 a;obtain⟨h2,e2⟩:=List.getElem?_eq_some_iff.1 b;exact(List.pairwise_iff_getElem.1 hn j k h1 h2 h) (c.trans e2.symm)
def dKw(b:Bool)(w:AJ)(a:Ending)(w':AJ):Prop:=a = .returned (.bool b)/\∃ m,w'=w.drewN m
theorem aQz(u:Bool)(p:Int)(v:AQ)(l:List Int)(w:AJ)(hs:IR w v l)(L:l.length<=9223372036854775806):AX fZ 39 #[v,.int .i64 p,.bool u] w (dKw (kZ p l u) w):=by
 obtain⟨A,c,rfl⟩:=hs.shape;have q:=fQ hs;obtain⟨n,hn⟩:=fX l.length;rw[hn]at q L ⊢;have f:=fQ hn;clear hs hn;cases u
 all_goals
  go_in;go_wp2
 ·go_loopw [7] (fun i wr=>∃ k:Nat,k<=n/\i = .int .i64 k/\Hid (within p (l.take k)=true)/\Hid (∃ m,wr=w.drewN m)) (fun i _=>n - (intOf i).toNat)
  case atStart=>exact⟨0,by omega,rfl,fQ (by simp[within]),fQ ⟨0,rfl⟩⟩
  case round=>
   obtain⟨k,M,rfl,o,IM⟩:=hrel;obtain⟨m,rfl⟩:=IM.out;clear IM;by_cases t:k<n
   ·have z:decide ((k:Int)<n)=true:=(by simp;omega);have N:(k:Int)<n:=(by omega);obtain⟨x,d⟩:∃ x,l[k]? = some x:=⟨_,Aj (by rw[f.out];exact t)⟩;obtain⟨O,P,rfl,hab,Q⟩:=q.out.cell d;have b:=fQ d;clear d;by_cases e:x<0
    ·have B:decide (x<0)=true:=(by simp;omega);have a:=fQ (show kZ p l false=false by unfold kZ;rw[aZa (Aq b.out) (by omega)];rfl);clear e;go_wp2;go_ret;exact⟨by rw[a.out];rfl,_,rfl⟩
    ·have B:decide (x<0)=false:=(by simp;omega);by_cases h1:x<p
     ·have C:decide (p<=x)=false:=(by simp;omega);have a:=fQ (aVx b.out o.out (by omega) h1);clear e h1;go_wp2_with fail;go_loopw [8] (fun i wr=>i = .int .i64 0/\Hid (∃ m,wr=w.drewN m)) (fun _ _=>0)
      case atStart=>exact⟨rfl,fQ ⟨_,rfl⟩⟩
      case round=>
       obtain⟨rfl,IM⟩:=hrel;obtain⟨m2,rfl⟩:=IM.out;clear IM;by_cases D:0<k
       ·have E:decide (0<k)=true:=decide_eq_true D;have F:decide ((0:Int)<(k:Int))=true:=(by simp;omega);clear D;go_wp2;exact⟨⟨k+1,by omega,by simp,a,fQ ⟨_,rfl⟩⟩,by simp[intOf];omega⟩
       ·have E:decide (0<k)=false:=decide_eq_false D;have F:decide ((0:Int)<(k:Int))=false:=(by simp;omega);have r:k=0:=(by omega);subst r;go_wp2;exact⟨⟨0+1,by omega,by simp,a,fQ ⟨_,rfl⟩⟩,by simp[intOf];omega⟩
     ·have C:decide (p<=x)=true:=(by simp;omega);have a:=fQ (show kZ p l false=false by unfold kZ;rw[aZa (Aq b.out) (by omega)];rfl);clear e h1;go_wp2;go_ret;exact⟨by rw[a.out];rfl,_,rfl⟩
   ·have z:decide ((k:Int)<n)=false:=by simp;omega
    have a:=fQ (show kZ p l false=true by
     have:=o.out;rw[Ak (by rw[f.out];omega)]at this
     unfold kZ;rw[this];rfl)
    go_wp2;go_ret;exact⟨by rw[a.out];rfl,_,rfl⟩
 ·go_loopw [7] (fun i wr=>∃ k:Nat,k<=n/\i = .int .i64 k/\Hid (within p (l.take k)=true)/\Hid ((l.take k).Nodup)/\Hid (∃ m,wr=w.drewN m)) (fun i _=>n - (intOf i).toNat)
  case atStart=>exact⟨0,by omega,rfl,fQ (by simp[within]),fQ (by simp),fQ ⟨0,rfl⟩⟩
  case round=>
   obtain⟨k,M,rfl,o,J,IM⟩:=hrel;obtain⟨m,rfl⟩:=IM.out;clear IM;by_cases t:k<n
   ·have z:decide ((k:Int)<n)=true:=(by simp;omega);have N:(k:Int)<n:=(by omega);obtain⟨x,d⟩:∃ x,l[k]? = some x:=⟨_,Aj (by rw[f.out];exact t)⟩;obtain⟨O,P,rfl,hab,Q⟩:=q.out.cell d;have b:=fQ d;clear d;by_cases e:x<0
    ·have B:decide (x<0)=true:=(by simp;omega);have a:=fQ (show kZ p l true=false by unfold kZ;rw[aZa (Aq b.out) (by omega)];rfl);clear e;go_wp2;go_ret;exact⟨by rw[a.out];rfl,_,rfl⟩
    ·have B:decide (x<0)=false:=(by simp;omega);by_cases h1:x<p
     ·have C:decide (p<=x)=false:=(by simp;omega);have a:=fQ (aVx b.out o.out (by omega) h1);clear e h1;go_wp2_with fail;go_loopw [8] (fun i wr=>∃ j:Nat,j<=k/\i = .int .i64 j/\Hid (x ∉ l.take j)/\Hid (∃ m,wr=w.drewN m)) (fun i _=>k - (intOf i).toNat)
      case atStart=>exact⟨0,by omega,rfl,fQ (by simp),fQ ⟨_,rfl⟩⟩
      case round=>
       obtain⟨j,hj,rfl,s,IM⟩:=hrel;obtain⟨m2,rfl⟩:=IM.out;clear IM;by_cases G:j<k
       ·have E:decide (j<k)=true:=decide_eq_true G;have F:decide ((j:Int)<(k:Int))=true:=(by simp;omega);have r:(j:Int)<n:=(by omega);obtain⟨y,H⟩:∃ y,l[j]? = some y:=⟨_,Aj (by rw[f.out];omega)⟩;obtain⟨aq,ar,I,ak,al⟩:=q.out.cell H;injection I with I;injection I with R e2;subst R;subst e2;have K:=fQ H;clear H;by_cases g:y=x
        ·have S:(y == x)=true:=(by simp[g]);have T:=fQ (show kZ p l true=false by unfold kZ;rw[cYq (g ▸ K.out) b.out G];simp);clear g;go_wp2_with fail;go_quiet (fail);go_wp2;go_ret;exact⟨by rw[T.out];rfl,_,aVw _ _ _⟩
        ·have S:(y == x)=false:=by simp[g]
         have U:=fQ (show x ∉ l.take (j+1) by
          rw[yW K.out];rintro(h | h)
          ·exact s.out h
          ·exact g h.symm)
         clear g s;go_wp2_with fail;go_quiet (fail);go_wp2;exact⟨⟨j+1,by omega,by simp,U,fQ ⟨_,rfl⟩⟩,by simp[intOf];omega⟩
       ·have E:decide (j<k)=false:=decide_eq_false G;have F:decide ((j:Int)<(k:Int))=false:=(by simp;omega);have r:j=k:=(by omega);subst r;have V:=fQ (cQb b.out J.out s.out);clear s;go_wp2;exact⟨⟨j+1,by omega,by simp,a,V,fQ ⟨_,rfl⟩⟩,by simp[intOf];omega⟩
     ·have C:decide (p<=x)=true:=(by simp;omega);have a:=fQ (show kZ p l true=false by unfold kZ;rw[aZa (Aq b.out) (by omega)];rfl);clear e h1;go_wp2;go_ret;exact⟨by rw[a.out];rfl,_,rfl⟩
   ·have z:decide ((k:Int)<n)=false:=by simp;omega
    have a:=fQ (show kZ p l true=true by
     have:=o.out;rw[Ak (by rw[f.out];omega)]at this;have h2:=J.out;rw[Ak (by rw[f.out];omega)]at h2
     unfold kZ;rw[this,decide_eq_true h2];rfl)
    go_wp2;go_ret;exact⟨by rw[a.out];rfl,_,rfl⟩
theorem cYr(op:Int)(w:AJ):AX fZ 41 #[.int .i64 op] w fun e w'=>e = .returned (.bool (decide (273<=op/\op<=277)))/\w=w':=by
 by_cases h1:273<=op
 ·by_cases h2:op<=277
  ·have a:=fQ (show decide (273<=op/\op<=277)=true from decide_eq_true ⟨h1,h2⟩);have b:decide (273<=op)=true:=decide_eq_true h1;have c:decide (op<=277)=true:=decide_eq_true h2;clear h1 h2;go_in;go_wp2;go_ret;exact⟨by rw[a.out];rfl,rfl⟩
  ·have a:=fQ (show decide (273<=op/\op<=277)=false from decide_eq_false (fun h=>h2 h.2));have b:decide (273<=op)=true:=decide_eq_true h1;have c:decide (op<=277)=false:=decide_eq_false h2;clear h1 h2;go_in;go_wp2;go_ret;exact⟨by rw[a.out];rfl,rfl⟩
 ·have a:=fQ (show decide (273<=op/\op<=277)=false from decide_eq_false (fun h=>h1 h.1));have b:decide (273<=op)=false:=decide_eq_false h1;clear h1;go_in;go_wp2;go_ret;exact⟨by rw[a.out];rfl,rfl⟩
def FmP(F:Option (List Int×List Int))(w:AJ)(b:Ending)(w':AJ):Prop:=
 ∃ (a vo:AQ) (ok:Bool) (i o:List Int),b = .returned (.tuple #[a,vo,.bool ok])/\IR w' a i/\IR w' vo o/\(F=none->ok=false)/\(∀ x,F=some x->ok=true/\x=(i,o))/\Below w.heap.size w w'
theorem FmP.no{F:Option (List Int×List Int)}{w':AJ}{a vo:AQ}{i o:List Int}(hF:F=none)(h1:IR w' a i)(h2:IR w' vo o)(hb:Below w.heap.size w w'):FmP F w (.returned (.tuple #[a,vo,.bool false])) w':=
 ⟨a,vo,false,i,o,rfl,h1,h2,fun _=>rfl,(fun x h=>by rw[hF]at h;cases h),hb⟩
theorem FmP.yes{F:Option (List Int×List Int)}{w':AJ}{a vo:AQ}{i o:List Int}(hF:F=some (i,o))(h1:IR w' a i)(h2:IR w' vo o)(hb:Below w.heap.size w w'):FmP F w (.returned (.tuple #[a,vo,.bool true])) w':=
 ⟨a,vo,true,i,o,rfl,h1,h2,(fun h=>by rw[hF]at h;cases h),(fun x h=>by rw[hF]at h;injection h with h;exact⟨rfl,h.symm⟩),hb⟩
theorem aXk(h:n=0):((n:Int) == 0)=true:=by simp[h]
theorem aXl(h:n≠0):((n:Int) == 0)=false:=by simp[h]
theorem eQz(h:n<=8589934592):decide ((n:Int)<=8589934592)=true:=decide_eq_true (by omega)
theorem eXa(h:¬n<=8589934592):decide ((n:Int)<=8589934592)=false:=decide_eq_false (by omega)
theorem dKy(h:n<=4294967295):decide ((n:Int)<4294967296)=true:=decide_eq_true (by omega)
theorem dKz(h:¬n<=4294967295):decide ((n:Int)<4294967296)=false:=decide_eq_false (by omega)
theorem IR.eZp{t:TypeId}{A:Option Addr}{c:Nat}(h:w.ownsRow base t 1 (.slice A l.length c) l.length (i64s l)):IR w (.slice A l.length c) l:=⟨A,c,rfl,Src.eXq h⟩
theorem cQe(e:EnvD)(s:SigD)(l:AQ)(op:Int)(n:Nat)(hn:n<18446744073709551616)(w:AJ)(he:EnvV w l e)(ho:op=258)(hg:(fV op).isSome=false)(m:acc op=none):
  AX fZ 96 #[l,.agg #[.int .i64 op,.int .u64 (n:Int),.slice none 0 0,.slice none 0 0],.int .i64 0] w (FmP (if n=0 then some ([],[])else none) w):=by
 obtain⟨va,vb,vd,rfl,h1,h2,o⟩:=he;obtain⟨d,cs,rfl,_⟩:=h1.len;obtain⟨f,cg,rfl⟩:=h2.shape;have H1:=fQ h1;have H2:=fQ h2;have H3:=fQ o;obtain⟨g,h,rfl,_⟩:=o;have B0:=fQ (al2 w (.cells #[.slice d e.sigs.length cs,.int .i64 e.imports,.slice f e.globals.length cg,.slice g e.muts.length h,.bool e.mem] 26) (.cells #[.int .i64 op,.int .u64 (n:Int),.slice none 0 0,.slice none 0 0] 147));have p:=fQ ((Blk.new w 26 #[.slice d e.sigs.length cs,.int .i64 e.imports,.slice f e.globals.length cg,.slice g e.muts.length h,.bool e.mem]).alloc (.cells #[.int .i64 op,.int .u64 (n:Int),.slice none 0 0,.slice none 0 0] 147));have q:=fQ (Blk.newAt (w.alloc (.cells #[.slice d e.sigs.length cs,.int .i64 e.imports,.slice f e.globals.length cg,.slice g e.muts.length h,.bool e.mem] 26)) (N:=w.heap.size+1) 147 #[.int .i64 op,.int .u64 (n:Int),.slice none 0 0,.slice none 0 0] (by simp));clear h1 h2;have v:=fQ (show(fV op).isSome=false from hg);have x:=fQ (show fJ op = .tuple #[.int .i64 0,.int .i64 0,.bool false,.bool false] by unfold fJ;rw[m]);have ah:(op == 256)=false:=(by simp;omega);have ai:(op == 258)=true:=(by simp[ho]);have ak:(op == 27)=false:=(by simp;omega);have al:(op == 35)=false:=(by simp;omega);have an:(op == 36)=false:=(by simp;omega);have g16:(op == 16)=false:=(by simp;omega);have aj:(op == 257)=false:=(by simp;omega);have ao:(op == 63)=false:=(by simp;omega);have g64:(op == 64)=false:=(by simp;omega);clear hg m ho;obtain⟨FF,i⟩:∃ F:Option (List Int×List Int),(if n=0 then some ([],[])else none)=F:=⟨_,rfl⟩;rw[i];have r:=fQ i;clear i;go_in;go_wp2_with fail;refine(jJ op _).mono ?_;rintro y w1 ⟨A1,c1,rfl,t,c⟩;rw[v.out];have u:=fQ (B0.out.trans (c.mono B0.out.size));have b:=fQ (p.out.below c p.out.lt);have j:=fQ (q.out.below c q.out.lt);have HR:=fQ t;clear c t;have f0:=j.out.cell 0;have f1:=j.out.cell 1;simp at f0 f1;have y1:=j.out.lt;have e0:=b.out.cell 0;have e2:=b.out.cell 2;have z:=b.out.cell 3;have A:=b.out.cell 4;simp at e0 e2 z A;have y2:=b.out.lt;go_wp2_with fail;refine(fY op _).mono ?_;rintro y w2 ⟨rfl,rfl⟩;rw[x.out];by_cases a:n=0
 ·have B:=aXk a;have k:=fQ (r.out.symm.trans (if_pos a));clear a;go_wp2_with fail;go_quiet (fail)
  all_goals
   go_wp2;go_ret3;exact FmP.yes k.out (IR.nil _) (IR.nil _) (fK u.out _)
 ·have B:=aXl a;have k:=fQ (r.out.symm.trans (if_neg a));clear a;go_wp2_with fail;go_quiet (fail)
  all_goals
   go_wp2;go_ret3;exact FmP.no k.out (IR.nil _) (IR.nil _) (fK u.out _)
theorem cJs(e:EnvD)(s:SigD)(m:AQ)(op:Int)(n:Nat)(hn:n<18446744073709551616)(w:AJ)(he:EnvV w m e)(o:op≠256)(p:op≠258)(hg:(fV op).isSome=true)(q:acc op=none):
  AX fZ 96 #[m,.agg #[.int .i64 op,.int .u64 (n:Int),.slice none 0 0,.slice none 0 0],.int .i64 0] w (FmP (if n=0 then some (gX op,[kW op])else none) w):=by
 obtain⟨va,vb,vd,rfl,h1,h2,r⟩:=he;obtain⟨f,cs,rfl,_⟩:=h1.len;obtain⟨g,cg,rfl⟩:=h2.shape;have H1:=fQ h1;have H2:=fQ h2;have H3:=fQ r;obtain⟨h,i,rfl,_⟩:=r;have B0:=fQ (al2 w (.cells #[.slice f e.sigs.length cs,.int .i64 e.imports,.slice g e.globals.length cg,.slice h e.muts.length i,.bool e.mem] 26) (.cells #[.int .i64 op,.int .u64 (n:Int),.slice none 0 0,.slice none 0 0] 147));have t:=fQ ((Blk.new w 26 #[.slice f e.sigs.length cs,.int .i64 e.imports,.slice g e.globals.length cg,.slice h e.muts.length i,.bool e.mem]).alloc (.cells #[.int .i64 op,.int .u64 (n:Int),.slice none 0 0,.slice none 0 0] 147));have u:=fQ (Blk.newAt (w.alloc (.cells #[.slice f e.sigs.length cs,.int .i64 e.imports,.slice g e.globals.length cg,.slice h e.muts.length i,.bool e.mem] 26)) (N:=w.heap.size+1) 147 #[.int .i64 op,.int .u64 (n:Int),.slice none 0 0,.slice none 0 0] (by simp));clear h1 h2;have z:=fQ (show(fV op).isSome=true from hg);have A:=fQ (show fJ op = .tuple #[.int .i64 0,.int .i64 0,.bool false,.bool false] by unfold fJ;rw[q]);have aj:(op == 256)=false:=(by simp[o]);have ak:(op == 258)=false:=(by simp[p]);clear hg q o p;obtain⟨FF,j⟩:∃ F:Option (List Int×List Int),(if n=0 then some (gX op,[kW op])else none)=F:=⟨_,rfl⟩;rw[j];have v:=fQ j;clear j;go_in;go_wp2_with fail;refine(jJ op _).mono ?_;rintro B w1 ⟨A1,c1,rfl,x,c⟩;rw[z.out];have d:=fQ (B0.out.trans (c.mono B0.out.size));have b:=fQ (t.out.below c t.out.lt);have k:=fQ (u.out.below c u.out.lt);have y:=fQ x;clear c x;have f0:=k.out.cell 0;have f1:=k.out.cell 1;simp at f0 f1;have y1:=k.out.lt;have e0:=b.out.cell 0;have e2:=b.out.cell 2;have C:=b.out.cell 3;have D:=b.out.cell 4;simp at e0 e2 C D;have y2:=b.out.lt;go_wp2_with fail;refine(fY op _).mono ?_;rintro B w2 ⟨rfl,rfl⟩;rw[A.out];by_cases a:n=0
 ·have E:=aXk a;have l:=fQ (v.out.symm.trans (if_pos a));clear a;go_wp2_with fail;go_region
  all_goals
   go_wp2;go_ret3;exact FmP.yes l.out (((IR.eZp y.out).alloc _).drew) ((IR.one (Blk.new _ _ _)).drew) ((d.out.alloc d.out.size _).drew)
 ·have E:=aXl a;have l:=fQ (v.out.symm.trans (if_neg a));clear a;go_wp2_with fail;go_region
  all_goals
   go_wp2;go_ret3;exact FmP.no l.out (((IR.eZp y.out).alloc _).drew) ((IR.one (Blk.new _ _ _)).drew) ((d.out.alloc d.out.size _).drew)
theorem cYt(e:EnvD)(s:SigD)(q:AQ)(op:Int)(n:Nat)(hn:n<18446744073709551616)(w:AJ)(he:EnvV w q e)(ho:op=35)(hg:(fV op).isSome=false)(r:acc op=none)(t:e.muts.length=e.globals.length):
  AX fZ 96 #[q,.agg #[.int .i64 op,.int .u64 (n:Int),.slice none 0 0,.slice none 0 0],.int .i64 0] w (FmP ((e.globals[n]?).map fun g=>([],[g])) w):=by
 obtain⟨va,vb,vd,rfl,h1,h2,u⟩:=he;obtain⟨d,cs,rfl,_⟩:=h1.len;obtain⟨f,cg,rfl⟩:=h2.shape;have H1:=fQ h1;have v:=fQ h2;have H3:=fQ u;obtain⟨h,i,rfl,_⟩:=u;have B0:=fQ (al2 w (.cells #[.slice d e.sigs.length cs,.int .i64 e.imports,.slice f e.globals.length cg,.slice h e.muts.length i,.bool e.mem] 26) (.cells #[.int .i64 op,.int .u64 (n:Int),.slice none 0 0,.slice none 0 0] 147));have y:=fQ ((Blk.new w 26 #[.slice d e.sigs.length cs,.int .i64 e.imports,.slice f e.globals.length cg,.slice h e.muts.length i,.bool e.mem]).alloc (.cells #[.int .i64 op,.int .u64 (n:Int),.slice none 0 0,.slice none 0 0] 147));have z:=fQ (Blk.newAt (w.alloc (.cells #[.slice d e.sigs.length cs,.int .i64 e.imports,.slice f e.globals.length cg,.slice h e.muts.length i,.bool e.mem] 26)) (N:=w.heap.size+1) 147 #[.int .i64 op,.int .u64 (n:Int),.slice none 0 0,.slice none 0 0] (by simp));clear h1 h2;have G:=fQ (show(fV op).isSome=false from hg);have H:=fQ (show fJ op = .tuple #[.int .i64 0,.int .i64 0,.bool false,.bool false] by unfold fJ;rw[r]);have ao:=fQ t;have aj:(op == 256)=false:=(by simp;omega);have ak:(op == 258)=false:=(by simp;omega);have aq:(op == 27)=false:=(by simp;omega);have ar:(op == 35)=true:=(by simp[ho]);have au:(op == 36)=false:=(by simp;omega);have g16:(op == 16)=false:=(by simp;omega);have al:(op == 257)=false:=(by simp;omega);have av:(op == 63)=false:=(by simp;omega);have g64:(op == 64)=false:=(by simp;omega);clear hg r ho t;obtain⟨A,j⟩:∃ F:Option (List Int×List Int),((e.globals[n]?).map fun g=>([],[g]))=F:=⟨_,rfl⟩;rw[j];have B:=fQ j;clear j;go_in;go_wp2_with fail;refine(jJ op _).mono ?_;rintro I w1 ⟨A1,c1,rfl,C,c⟩;rw[G.out];have a:=fQ (B0.out.trans (c.mono B0.out.size));have b:=fQ (y.out.below c y.out.lt);have k:=fQ (z.out.below c z.out.lt);have HR:=fQ C;clear c C;have f0:=k.out.cell 0;have f1:=k.out.cell 1;simp at f0 f1;have y1:=k.out.lt;have e0:=b.out.cell 0;have e2:=b.out.cell 2;have J:=b.out.cell 3;have K:=b.out.cell 4;simp at e0 e2 J K;have y2:=b.out.lt;go_wp2_with fail;refine(fY op _).mono ?_;rintro I w2 ⟨rfl,rfl⟩;rw[H.out];have hl:=v.out.eXi;by_cases l:n<e.globals.length
 ·obtain⟨x,m⟩:∃ x,e.globals[n]? = some x:=⟨_,Aj l⟩;have L:decide ((e.globals.length:Int)<=(n:Int))=false:=(by simp;omega);have D:¬e.globals.length<=n:=(by omega);have t3:(n:Int)<(e.globals.length:Int):=(by omega);obtain⟨gb,go,rfl,M,E⟩:=v.out.ir.cell m;have d0:=(a.out.cell (p:=⟨gb,_,none⟩) M).trans E;have aw:gb<w1.heap.size:=(by have:=a.out.size;omega);have o:=fQ (show A=some ([],[x]) by rw[<-B.out,m];rfl);clear m E l;go_wp2;go_ret3;exact FmP.yes o.out (IR.nil _) (IR.one (Blk.new _ _ _)) (a.out.alloc a.out.size _)
 ·have L:decide ((e.globals.length:Int)<=(n:Int))=true:=(by simp;omega);have D:e.globals.length<=n:=(by omega);have o:=fQ (show A=none by rw[<-B.out,Az D];try rfl);clear l;go_wp2;go_ret3;exact FmP.no o.out (IR.nil _) (IR.nil _) a.out
theorem cYu(e:EnvD)(s:SigD)(u:AQ)(op:Int)(n:Nat)(hn:n<18446744073709551616)(w:AJ)(he:EnvV w u e)(ho:op=36)(hg:(fV op).isSome=false)(v:acc op=none)(z:e.muts.length=e.globals.length):
  AX fZ 96 #[u,.agg #[.int .i64 op,.int .u64 (n:Int),.slice none 0 0,.slice none 0 0],.int .i64 0] w (FmP (match e.globals[n]?,e.muts[n]? with | some g,some true=>some ([g],[]) | _,_=>none) w):=by
 obtain⟨va,vb,vd,rfl,h1,h2,A⟩:=he;obtain⟨h,cs,rfl,_⟩:=h1.len;obtain⟨i,cg,rfl⟩:=h2.shape;have H1:=fQ h1;have B:=fQ h2;have M:=fQ A;obtain⟨j,k,rfl,_⟩:=A;have B0:=fQ (al2 w (.cells #[.slice h e.sigs.length cs,.int .i64 e.imports,.slice i e.globals.length cg,.slice j e.muts.length k,.bool e.mem] 26) (.cells #[.int .i64 op,.int .u64 (n:Int),.slice none 0 0,.slice none 0 0] 147));have C:=fQ ((Blk.new w 26 #[.slice h e.sigs.length cs,.int .i64 e.imports,.slice i e.globals.length cg,.slice j e.muts.length k,.bool e.mem]).alloc (.cells #[.int .i64 op,.int .u64 (n:Int),.slice none 0 0,.slice none 0 0] 147));have D:=fQ (Blk.newAt (w.alloc (.cells #[.slice h e.sigs.length cs,.int .i64 e.imports,.slice i e.globals.length cg,.slice j e.muts.length k,.bool e.mem] 26)) (N:=w.heap.size+1) 147 #[.int .i64 op,.int .u64 (n:Int),.slice none 0 0,.slice none 0 0] (by simp));clear h1 h2;have O:=fQ (show(fV op).isSome=false from hg);have P:=fQ (show fJ op = .tuple #[.int .i64 0,.int .i64 0,.bool false,.bool false] by unfold fJ;rw[v]);have E:=fQ z;have an:(op == 256)=false:=(by simp;omega);have ao:(op == 258)=false:=(by simp;omega);have aw:(op == 27)=false:=(by simp;omega);have ax:(op == 35)=false:=(by simp;omega);have ay:(op == 36)=true:=(by simp[ho]);have g16:(op == 16)=false:=(by simp;omega);have aq:(op == 257)=false:=(by simp;omega);have az:(op == 63)=false:=(by simp;omega);have g64:(op == 64)=false:=(by simp;omega);clear hg v ho z;obtain⟨G,l⟩:∃ F:Option (List Int×List Int),(match e.globals[n]?,e.muts[n]? with | some g,some true=>some ([g],[]) | _,_=>none)=F:=⟨_,rfl⟩;rw[l];have H:=fQ l;clear l;go_in;go_wp2_with fail;refine(jJ op _).mono ?_;rintro Q w1 ⟨A1,c1,rfl,I,d⟩;rw[O.out];have a:=fQ (B0.out.trans (d.mono B0.out.size));have b:=fQ (C.out.below d C.out.lt);have m:=fQ (D.out.below d D.out.lt);have HR:=fQ I;clear d I;have f0:=m.out.cell 0;have f1:=m.out.cell 1;simp at f0 f1;have y1:=m.out.lt;have e0:=b.out.cell 0;have e2:=b.out.cell 2;have o:=b.out.cell 3;have R:=b.out.cell 4;simp at e0 e2 o R;have y2:=b.out.lt;go_wp2_with fail;refine(fY op _).mono ?_;rintro Q w2 ⟨rfl,rfl⟩;rw[P.out];have hl:=B.out.eXi;by_cases c:n<e.globals.length
 ·obtain⟨x,q⟩:∃ x,e.globals[n]? = some x:=⟨_,Aj c⟩;have S:decide ((e.globals.length:Int)<=(n:Int))=false:=(by simp;omega);have J:¬e.globals.length<=n:=(by omega);have t3:(n:Int)<(e.globals.length:Int):=(by omega);obtain⟨gb,go,rfl,T,K⟩:=B.out.ir.cell q;have d0:=(a.out.cell (p:=⟨gb,_,none⟩) T).trans K;have aA:gb<w1.heap.size:=(by have:=a.out.size;omega);obtain⟨y,r⟩:∃ y,e.muts[n]? = some y:=⟨_,Aj (by rw[E.out];exact c)⟩;obtain⟨aB,aC,e',t,_⟩:=M.out;injection e' with U _ o;subst U;subst o;have L:n<e.muts.length:=(by rw[E.out];exact c);have au:(n:Int)<(e.muts.length:Int):=(by omega);obtain⟨mb,mo,rfl,V⟩:=t.addr (by omega);have c1:=t.at_ L;rw[bXa L,(List.getElem?_eq_some_iff.1 r).2]at c1;have d1:=(a.out.cell (p:=⟨mb,_,none⟩) V).trans c1;have aD:mb<w1.heap.size:=(by have:=a.out.size;omega);have f:=fQ (show G=if y=true then some ([x],[])else none by rw[<-H.out,q,r];cases y <;> rfl);clear q r K c1 t c;go_wp2_with fail;go_region
  all_goals
   go_wp2;go_ret3
   cases y with
   | true=>exact FmP.yes (f.out.trans (if_pos rfl)) (IR.one (Blk.new _ _ _)).drew (IR.nil _) (a.out.alloc a.out.size _).drew
   | false=>exact FmP.no (f.out.trans (if_neg (by simp))) (IR.one (Blk.new _ _ _)).drew (IR.nil _) (a.out.alloc a.out.size _).drew
 ·have S:decide ((e.globals.length:Int)<=(n:Int))=true:=(by simp;omega);have J:e.globals.length<=n:=(by omega);have f:=fQ (show G=none by rw[<-H.out,Az J];try rfl);clear c;go_wp2;go_ret3;exact FmP.no f.out (IR.nil _) (IR.nil _) a.out
theorem cYv(e:EnvD)(s:SigD)(r:AQ)(op:Int)(n:Nat)(hn:n<18446744073709551616)(w:AJ)(he:EnvV w r e)(ho:op=16)(hg:(fV op).isSome=false)(t:acc op=none):
  AX fZ 96 #[r,.agg #[.int .i64 op,.int .u64 (n:Int),.slice none 0 0,.slice none 0 0],.int .i64 0] w (FmP ((e.sigs[n]?).map fun g=>(g.inn,g.out)) w):=by
 obtain⟨va,vb,vd,rfl,h1,h2,u⟩:=he;obtain⟨d,cs,rfl,_⟩:=h1.len;obtain⟨f,cg,rfl⟩:=h2.shape;have H1:=fQ h1;have H2:=fQ h2;have H3:=fQ u;obtain⟨h,i,rfl,_⟩:=u;have B0:=fQ (al2 w (.cells #[.slice d e.sigs.length cs,.int .i64 e.imports,.slice f e.globals.length cg,.slice h e.muts.length i,.bool e.mem] 26) (.cells #[.int .i64 op,.int .u64 (n:Int),.slice none 0 0,.slice none 0 0] 147));have v:=fQ ((Blk.new w 26 #[.slice d e.sigs.length cs,.int .i64 e.imports,.slice f e.globals.length cg,.slice h e.muts.length i,.bool e.mem]).alloc (.cells #[.int .i64 op,.int .u64 (n:Int),.slice none 0 0,.slice none 0 0] 147));have y:=fQ (Blk.newAt (w.alloc (.cells #[.slice d e.sigs.length cs,.int .i64 e.imports,.slice f e.globals.length cg,.slice h e.muts.length i,.bool e.mem] 26)) (N:=w.heap.size+1) 147 #[.int .i64 op,.int .u64 (n:Int),.slice none 0 0,.slice none 0 0] (by simp));clear h1 h2;have G:=fQ (show(fV op).isSome=false from hg);have H:=fQ (show fJ op = .tuple #[.int .i64 0,.int .i64 0,.bool false,.bool false] by unfold fJ;rw[t]);have aj:(op == 256)=false:=(by simp;omega);have ak:(op == 258)=false:=(by simp;omega);have an:(op == 27)=false:=(by simp;omega);have ao:(op == 35)=false:=(by simp;omega);have aq:(op == 36)=false:=(by simp;omega);have g16:(op == 16)=true:=(by simp[ho]);have al:(op == 257)=false:=(by simp;omega);have ar:(op == 63)=false:=(by simp;omega);have g64:(op == 64)=false:=(by simp;omega);clear hg t ho;obtain⟨z,j⟩:∃ F:Option (List Int×List Int),((e.sigs[n]?).map fun g=>(g.inn,g.out))=F:=⟨_,rfl⟩;rw[j];have A:=fQ j;clear j;go_in;go_wp2_with fail;refine(jJ op _).mono ?_;rintro I w1 ⟨A1,c1,rfl,B,c⟩;rw[G.out];have a:=fQ (B0.out.trans (c.mono B0.out.size));have b:=fQ (v.out.below c v.out.lt);have k:=fQ (y.out.below c y.out.lt);have HR:=fQ B;clear c B;have f0:=k.out.cell 0;have f1:=k.out.cell 1;simp at f0 f1;have y1:=k.out.lt;have e0:=b.out.cell 0;have e2:=b.out.cell 2;have J:=b.out.cell 3;have K:=b.out.cell 4;simp at e0 e2 J K;have y2:=b.out.lt;go_wp2_with fail;refine(fY op _).mono ?_;rintro I w2 ⟨rfl,rfl⟩;rw[H.out];have hl:=H1.out.eXi;by_cases l:n<e.sigs.length
 ·obtain⟨x,m⟩:∃ x,e.sigs[n]? = some x:=⟨_,Aj l⟩;have L:decide ((e.sigs.length:Int)<=(n:Int))=false:=(by simp;omega);have C:¬e.sigs.length<=n:=(by omega);have t3:(n:Int)<(e.sigs.length:Int):=(by omega);obtain⟨gb,go,p,q,rfl,D,E,c1,s0,s1⟩:=H1.out.sig m;obtain⟨pA,pc,rfl⟩:=s0.shape;obtain⟨qA,qc,rfl⟩:=s1.shape;have d0:=(a.out.cell (p:=⟨gb,_,none⟩) D).trans E;have d1:=(a.out.cell (p:=⟨gb,_,none⟩) D).trans c1;have au:gb<w1.heap.size:=(by have:=a.out.size;omega);have o:=fQ (show z=some (x.inn,x.out) by rw[<-A.out,m];rfl);have M:=fQ s0.ir;have O:=fQ s1.ir;clear m E c1 s0 s1 l;go_wp2_with fail;go_quiet (fail);go_wp2;go_ret3;exact FmP.yes o.out ((M.out.below a.out (Ax _)).drewN _) ((O.out.below a.out (Ax _)).drewN _) (fK a.out _)
 ·have L:decide ((e.sigs.length:Int)<=(n:Int))=true:=(by simp;omega);have C:e.sigs.length<=n:=(by omega);have o:=fQ (show z=none by rw[<-A.out,Az C];try rfl);clear l;go_wp2;go_ret3;exact FmP.no o.out (IR.nil _) (IR.nil _) a.out
theorem bZq(e:EnvD)(s:SigD)(l:AQ)(op:Int)(n:Nat)(hn:n<18446744073709551616)(w:AJ)(he:EnvV w l e)(m:op≠256)(o:op≠258)(p:op≠27)(q:op≠35)(r:op≠36)(t:op≠16)(hg:(fV op).isSome=false)(u:e.mem=false)(v:acc op=none):
  AX fZ 96 #[l,.agg #[.int .i64 op,.int .u64 (n:Int),.slice none 0 0,.slice none 0 0],.int .i64 0] w (FmP (none) w):=by
 obtain⟨va,vb,vd,rfl,h1,h2,x⟩:=he;obtain⟨c,cs,rfl,_⟩:=h1.len;obtain⟨d,cg,rfl⟩:=h2.shape;have H1:=fQ h1;have H2:=fQ h2;have H3:=fQ x;obtain⟨f,g,rfl,_⟩:=x;have B0:=fQ (al2 w (.cells #[.slice c e.sigs.length cs,.int .i64 e.imports,.slice d e.globals.length cg,.slice f e.muts.length g,.bool e.mem] 26) (.cells #[.int .i64 op,.int .u64 (n:Int),.slice none 0 0,.slice none 0 0] 147));have h:=fQ ((Blk.new w 26 #[.slice c e.sigs.length cs,.int .i64 e.imports,.slice d e.globals.length cg,.slice f e.muts.length g,.bool e.mem]).alloc (.cells #[.int .i64 op,.int .u64 (n:Int),.slice none 0 0,.slice none 0 0] 147));have i:=fQ (Blk.newAt (w.alloc (.cells #[.slice c e.sigs.length cs,.int .i64 e.imports,.slice d e.globals.length cg,.slice f e.muts.length g,.bool e.mem] 26)) (N:=w.heap.size+1) 147 #[.int .i64 op,.int .u64 (n:Int),.slice none 0 0,.slice none 0 0] (by simp));clear h1 h2;have z:=fQ (show(fV op).isSome=false from hg);have A:=fQ (show fJ op = .tuple #[.int .i64 0,.int .i64 0,.bool false,.bool false] by unfold fJ;rw[v]);have ao:(op == 256)=false:=(by simp[m]);have aq:(op == 258)=false:=(by simp[o]);have au:(op == 27)=false:=(by simp[p]);have av:(op == 35)=false:=(by simp[q]);have aw:(op == 36)=false:=(by simp[r]);have g16:(op == 16)=false:=(by simp[t]);rw[u]at B0 h i ⊢;clear u;clear hg v m o p q r t;obtain⟨FF,j⟩:∃ F:Option (List Int×List Int),(none)=F:=⟨_,rfl⟩;rw[j];have B:=fQ j;clear j;go_in;go_wp2_with fail;refine(jJ op _).mono ?_;rintro C w1 ⟨A1,c1,rfl,y,b⟩;rw[z.out];have D:=fQ (B0.out.trans (b.mono B0.out.size));have a:=fQ (h.out.below b h.out.lt);have k:=fQ (i.out.below b i.out.lt);have HR:=fQ y;clear b y;have f0:=k.out.cell 0;have f1:=k.out.cell 1;simp at f0 f1;have y1:=k.out.lt;have e0:=a.out.cell 0;have e2:=a.out.cell 2;have E:=a.out.cell 3;have G:=a.out.cell 4;simp at e0 e2 E G;have y2:=a.out.lt;go_wp2_with fail;refine(fY op _).mono ?_;rintro C w2 ⟨rfl,rfl⟩;rw[A.out];go_wp2;go_ret3;exact FmP.no B.out.symm (IR.nil _) (IR.nil _) D.out
theorem bZr(e:EnvD)(s:SigD)(m:AQ)(op:Int)(n:Nat)(hn:n<18446744073709551616)(w:AJ)(he:EnvV w m e)(o:op≠256)(p:op≠258)(q:op≠27)(r:op≠35)(t:op≠36)(u:op≠16)(hg:(fV op).isSome=false)(v:e.mem=false)(k wd:Int)(st A:Bool)(x:acc op=some (k,wd,st,A)):
  AX fZ 96 #[m,.agg #[.int .i64 op,.int .u64 (n:Int),.slice none 0 0,.slice none 0 0],.int .i64 0] w (FmP (none) w):=by
 obtain⟨va,vb,vd,rfl,h1,h2,y⟩:=he;obtain⟨c,cs,rfl,_⟩:=h1.len;obtain⟨d,cg,rfl⟩:=h2.shape;have H1:=fQ h1;have H2:=fQ h2;have H3:=fQ y;obtain⟨f,g,rfl,_⟩:=y;have B0:=fQ (al2 w (.cells #[.slice c e.sigs.length cs,.int .i64 e.imports,.slice d e.globals.length cg,.slice f e.muts.length g,.bool e.mem] 26) (.cells #[.int .i64 op,.int .u64 (n:Int),.slice none 0 0,.slice none 0 0] 147));have h:=fQ ((Blk.new w 26 #[.slice c e.sigs.length cs,.int .i64 e.imports,.slice d e.globals.length cg,.slice f e.muts.length g,.bool e.mem]).alloc (.cells #[.int .i64 op,.int .u64 (n:Int),.slice none 0 0,.slice none 0 0] 147));have i:=fQ (Blk.newAt (w.alloc (.cells #[.slice c e.sigs.length cs,.int .i64 e.imports,.slice d e.globals.length cg,.slice f e.muts.length g,.bool e.mem] 26)) (N:=w.heap.size+1) 147 #[.int .i64 op,.int .u64 (n:Int),.slice none 0 0,.slice none 0 0] (by simp));clear h1 h2;have B:=fQ (show(fV op).isSome=false from hg);have C:=fQ (show fJ op = .tuple #[.int .i64 k,.int .i64 wd,.bool st,.bool true] by unfold fJ;rw[x]);have ao:(op == 256)=false:=(by simp[o]);have aq:(op == 258)=false:=(by simp[p]);have au:(op == 27)=false:=(by simp[q]);have av:(op == 35)=false:=(by simp[r]);have aw:(op == 36)=false:=(by simp[t]);have g16:(op == 16)=false:=(by simp[u]);rw[v]at B0 h i ⊢;clear v;clear hg x o p q r t u;obtain⟨FF,j⟩:∃ F:Option (List Int×List Int),(none)=F:=⟨_,rfl⟩;rw[j];have D:=fQ j;clear j;go_in;go_wp2_with fail;refine(jJ op _).mono ?_;rintro E w1 ⟨A1,c1,rfl,z,b⟩;rw[B.out];have G:=fQ (B0.out.trans (b.mono B0.out.size));have a:=fQ (h.out.below b h.out.lt);have l:=fQ (i.out.below b i.out.lt);have HR:=fQ z;clear b z;have f0:=l.out.cell 0;have f1:=l.out.cell 1;simp at f0 f1;have y1:=l.out.lt;have e0:=a.out.cell 0;have e2:=a.out.cell 2;have H:=a.out.cell 3;have I:=a.out.cell 4;simp at e0 e2 H I;have y2:=a.out.lt;go_wp2_with fail;refine(fY op _).mono ?_;rintro E w2 ⟨rfl,rfl⟩;rw[C.out];go_wp2;go_ret3;exact FmP.no D.out.symm (IR.nil _) (IR.nil _) G.out
theorem cJt(e:EnvD)(s:SigD)(p:AQ)(op:Int)(n:Nat)(hn:n<18446744073709551616)(w:AJ)(he:EnvV w p e)(ho:op=257)(hg:(fV op).isSome=false)(q:e.mem=true)(r:acc op=none):
  AX fZ 96 #[p,.agg #[.int .i64 op,.int .u64 (n:Int),.slice none 0 0,.slice none 0 0],.int .i64 0] w (FmP (if n<=8589934592 then some ([127],[])else none) w):=by
 obtain⟨va,vb,vd,rfl,h1,h2,t⟩:=he;obtain⟨f,cs,rfl,_⟩:=h1.len;obtain⟨g,cg,rfl⟩:=h2.shape;have H1:=fQ h1;have H2:=fQ h2;have H3:=fQ t;obtain⟨h,i,rfl,_⟩:=t;have B0:=fQ (al2 w (.cells #[.slice f e.sigs.length cs,.int .i64 e.imports,.slice g e.globals.length cg,.slice h e.muts.length i,.bool e.mem] 26) (.cells #[.int .i64 op,.int .u64 (n:Int),.slice none 0 0,.slice none 0 0] 147));have j:=fQ ((Blk.new w 26 #[.slice f e.sigs.length cs,.int .i64 e.imports,.slice g e.globals.length cg,.slice h e.muts.length i,.bool e.mem]).alloc (.cells #[.int .i64 op,.int .u64 (n:Int),.slice none 0 0,.slice none 0 0] 147));have k:=fQ (Blk.newAt (w.alloc (.cells #[.slice f e.sigs.length cs,.int .i64 e.imports,.slice g e.globals.length cg,.slice h e.muts.length i,.bool e.mem] 26)) (N:=w.heap.size+1) 147 #[.int .i64 op,.int .u64 (n:Int),.slice none 0 0,.slice none 0 0] (by simp));clear h1 h2;have x:=fQ (show(fV op).isSome=false from hg);have y:=fQ (show fJ op = .tuple #[.int .i64 0,.int .i64 0,.bool false,.bool false] by unfold fJ;rw[r]);have ai:(op == 256)=false:=(by simp;omega);have aj:(op == 258)=false:=(by simp;omega);have al:(op == 27)=false:=(by simp;omega);have an:(op == 35)=false:=(by simp;omega);have ao:(op == 36)=false:=(by simp;omega);have g16:(op == 16)=false:=(by simp;omega);have ak:(op == 257)=true:=(by simp[ho]);have aq:(op == 63)=false:=(by simp;omega);have g64:(op == 64)=false:=(by simp;omega);rw[q]at B0 j k ⊢;clear q;clear hg r ho;obtain⟨FF,l⟩:∃ F:Option (List Int×List Int),(if n<=8589934592 then some ([127],[])else none)=F:=⟨_,rfl⟩;rw[l];have u:=fQ l;clear l;go_in;go_wp2_with fail;refine(jJ op _).mono ?_;rintro z w1 ⟨A1,c1,rfl,v,c⟩;rw[x.out];have d:=fQ (B0.out.trans (c.mono B0.out.size));have b:=fQ (j.out.below c j.out.lt);have m:=fQ (k.out.below c k.out.lt);have HR:=fQ v;clear c v;have f0:=m.out.cell 0;have f1:=m.out.cell 1;simp at f0 f1;have y1:=m.out.lt;have e0:=b.out.cell 0;have e2:=b.out.cell 2;have A:=b.out.cell 3;have B:=b.out.cell 4;simp at e0 e2 A B;have y2:=b.out.lt;go_wp2_with fail;refine(fY op _).mono ?_;rintro z w2 ⟨rfl,rfl⟩;rw[y.out];by_cases a:n<=8589934592
 ·have C:=eQz a;have o:=fQ (u.out.symm.trans (if_pos a));clear a;go_wp2_with fail;go_region
  all_goals
   go_wp2;go_ret3;exact FmP.yes o.out ((IR.one (Blk.new _ _ _)).drew) (IR.nil _) ((d.out.alloc d.out.size _).drew)
 ·have C:=eXa a;have o:=fQ (u.out.symm.trans (if_neg a));clear a;go_wp2_with fail;go_region
  all_goals
   go_wp2;go_ret3;exact FmP.no o.out ((IR.one (Blk.new _ _ _)).drew) (IR.nil _) ((d.out.alloc d.out.size _).drew)
theorem bQp(e:EnvD)(s:SigD)(q:AQ)(op:Int)(n:Nat)(hn:n<18446744073709551616)(w:AJ)(he:EnvV w q e)(r:op≠256)(t:op≠258)(u:op≠27)(v:op≠35)(x:op≠36)(y:op≠16)(z:op≠257)(hg:(fV op).isSome=false)(A:e.mem=true)(k wd:Int)(G:Bool)(B:acc op=some (k,wd,true,G)):
  AX fZ 96 #[q,.agg #[.int .i64 op,.int .u64 (n:Int),.slice none 0 0,.slice none 0 0],.int .i64 0] w (FmP (if n<=4294967295 then some ([127,k],[])else none) w):=by
 obtain⟨va,vb,vd,rfl,h1,h2,C⟩:=he;obtain⟨f,cs,rfl,_⟩:=h1.len;obtain⟨g,cg,rfl⟩:=h2.shape;have H1:=fQ h1;have H2:=fQ h2;have H3:=fQ C;obtain⟨h,i,rfl,_⟩:=C;have B0:=fQ (al2 w (.cells #[.slice f e.sigs.length cs,.int .i64 e.imports,.slice g e.globals.length cg,.slice h e.muts.length i,.bool e.mem] 26) (.cells #[.int .i64 op,.int .u64 (n:Int),.slice none 0 0,.slice none 0 0] 147));have j:=fQ ((Blk.new w 26 #[.slice f e.sigs.length cs,.int .i64 e.imports,.slice g e.globals.length cg,.slice h e.muts.length i,.bool e.mem]).alloc (.cells #[.int .i64 op,.int .u64 (n:Int),.slice none 0 0,.slice none 0 0] 147));have l:=fQ (Blk.newAt (w.alloc (.cells #[.slice f e.sigs.length cs,.int .i64 e.imports,.slice g e.globals.length cg,.slice h e.muts.length i,.bool e.mem] 26)) (N:=w.heap.size+1) 147 #[.int .i64 op,.int .u64 (n:Int),.slice none 0 0,.slice none 0 0] (by simp));clear h1 h2;have H:=fQ (show(fV op).isSome=false from hg);have I:=fQ (show fJ op = .tuple #[.int .i64 k,.int .i64 wd,.bool true,.bool true] by unfold fJ;rw[B]);have ar:(op == 256)=false:=(by simp[r]);have au:(op == 258)=false:=(by simp[t]);have aw:(op == 27)=false:=(by simp[u]);have ax:(op == 35)=false:=(by simp[v]);have ay:(op == 36)=false:=(by simp[x]);have g16:(op == 16)=false:=(by simp[y]);have av:(op == 257)=false:=(by simp[z]);rw[A]at B0 j l ⊢;clear A;clear hg B r t u v x y z;obtain⟨FF,m⟩:∃ F:Option (List Int×List Int),(if n<=4294967295 then some ([127,k],[])else none)=F:=⟨_,rfl⟩;rw[m];have D:=fQ m;clear m;go_in;go_wp2_with fail;refine(jJ op _).mono ?_;rintro J w1 ⟨A1,c1,rfl,E,c⟩;rw[H.out];have d:=fQ (B0.out.trans (c.mono B0.out.size));have b:=fQ (j.out.below c j.out.lt);have o:=fQ (l.out.below c l.out.lt);have HR:=fQ E;clear c E;have f0:=o.out.cell 0;have f1:=o.out.cell 1;simp at f0 f1;have y1:=o.out.lt;have e0:=b.out.cell 0;have e2:=b.out.cell 2;have K:=b.out.cell 3;have L:=b.out.cell 4;simp at e0 e2 K L;have y2:=b.out.lt;go_wp2_with fail;refine(fY op _).mono ?_;rintro J w2 ⟨rfl,rfl⟩;rw[I.out];by_cases a:n<=4294967295
 ·have M:=dKy a;have p:=fQ (D.out.symm.trans (if_pos a));clear a;go_wp2_with fail;go_region
  all_goals
   go_wp2;go_ret3;exact FmP.yes p.out ((IR.two (Blk.new _ _ _)).drew) (IR.nil _) ((d.out.alloc d.out.size _).drew)
 ·have M:=dKz a;have p:=fQ (D.out.symm.trans (if_neg a));clear a;go_wp2_with fail;go_region
  all_goals
   go_wp2;go_ret3;exact FmP.no p.out ((IR.two (Blk.new _ _ _)).drew) (IR.nil _) ((d.out.alloc d.out.size _).drew)
theorem aYf(e:EnvD)(s:SigD)(q:AQ)(op:Int)(n:Nat)(hn:n<18446744073709551616)(w:AJ)(he:EnvV w q e)(r:op≠256)(t:op≠258)(u:op≠27)(v:op≠35)(x:op≠36)(y:op≠16)(z:op≠257)(hg:(fV op).isSome=false)(A:e.mem=true)(k wd:Int)(G:Bool)(B:acc op=some (k,wd,false,G)):
  AX fZ 96 #[q,.agg #[.int .i64 op,.int .u64 (n:Int),.slice none 0 0,.slice none 0 0],.int .i64 0] w (FmP (if n<=4294967295 then some ([127],[k])else none) w):=by
 obtain⟨va,vb,vd,rfl,h1,h2,C⟩:=he;obtain⟨g,cs,rfl,_⟩:=h1.len;obtain⟨h,cg,rfl⟩:=h2.shape;have H1:=fQ h1;have H2:=fQ h2;have H3:=fQ C;obtain⟨i,j,rfl,_⟩:=C;have B0:=fQ (al2 w (.cells #[.slice g e.sigs.length cs,.int .i64 e.imports,.slice h e.globals.length cg,.slice i e.muts.length j,.bool e.mem] 26) (.cells #[.int .i64 op,.int .u64 (n:Int),.slice none 0 0,.slice none 0 0] 147));have l:=fQ ((Blk.new w 26 #[.slice g e.sigs.length cs,.int .i64 e.imports,.slice h e.globals.length cg,.slice i e.muts.length j,.bool e.mem]).alloc (.cells #[.int .i64 op,.int .u64 (n:Int),.slice none 0 0,.slice none 0 0] 147));have m:=fQ (Blk.newAt (w.alloc (.cells #[.slice g e.sigs.length cs,.int .i64 e.imports,.slice h e.globals.length cg,.slice i e.muts.length j,.bool e.mem] 26)) (N:=w.heap.size+1) 147 #[.int .i64 op,.int .u64 (n:Int),.slice none 0 0,.slice none 0 0] (by simp));clear h1 h2;have H:=fQ (show(fV op).isSome=false from hg);have I:=fQ (show fJ op = .tuple #[.int .i64 k,.int .i64 wd,.bool false,.bool true] by unfold fJ;rw[B]);have ar:(op == 256)=false:=(by simp[r]);have au:(op == 258)=false:=(by simp[t]);have aw:(op == 27)=false:=(by simp[u]);have ax:(op == 35)=false:=(by simp[v]);have ay:(op == 36)=false:=(by simp[x]);have g16:(op == 16)=false:=(by simp[y]);have av:(op == 257)=false:=(by simp[z]);rw[A]at B0 l m ⊢;clear A;clear hg B r t u v x y z;obtain⟨FF,o⟩:∃ F:Option (List Int×List Int),(if n<=4294967295 then some ([127],[k])else none)=F:=⟨_,rfl⟩;rw[o];have D:=fQ o;clear o;go_in;go_wp2_with fail;refine(jJ op _).mono ?_;rintro J w1 ⟨A1,c1,rfl,E,f⟩;rw[H.out];have a:=fQ (B0.out.trans (f.mono B0.out.size));have c:=fQ (l.out.below f l.out.lt);have p:=fQ (m.out.below f m.out.lt);have HR:=fQ E;clear f E;have f0:=p.out.cell 0;have f1:=p.out.cell 1;simp at f0 f1;have y1:=p.out.lt;have e0:=c.out.cell 0;have e2:=c.out.cell 2;have K:=c.out.cell 3;have L:=c.out.cell 4;simp at e0 e2 K L;have y2:=c.out.lt;go_wp2_with fail;refine(fY op _).mono ?_;rintro J w2 ⟨rfl,rfl⟩;rw[I.out];by_cases b:n<=4294967295
 ·have M:=dKy b;have d:=fQ (D.out.symm.trans (if_pos b));clear b;go_wp2_with fail;go_region
  all_goals
   go_wp2;go_ret3
   first
    | exact FmP.yes d.out (Blk.alloc (Blk.new _ _ _) _ |> IR.one).drew (IR.one (Blk.newAt _ _ _ (by simp))).drew ((a.out.alloc a.out.size _).alloc (by simp;have:=a.out.size;omega) _).drew
    | exact FmP.yes d.out (IR.one (Blk.newAt _ _ _ (by simp))).drew (Blk.alloc (Blk.new _ _ _) _ |> IR.one).drew ((a.out.alloc a.out.size _).alloc (by simp;have:=a.out.size;omega) _).drew
 ·have M:=dKz b;have d:=fQ (D.out.symm.trans (if_neg b));clear b;go_wp2_with fail;go_region
  all_goals
   go_wp2;go_ret3
   first
    | exact FmP.no d.out (Blk.alloc (Blk.new _ _ _) _ |> IR.one).drew (IR.one (Blk.newAt _ _ _ (by simp))).drew ((a.out.alloc a.out.size _).alloc (by simp;have:=a.out.size;omega) _).drew
    | exact FmP.no d.out (IR.one (Blk.newAt _ _ _ (by simp))).drew (Blk.alloc (Blk.new _ _ _) _ |> IR.one).drew ((a.out.alloc a.out.size _).alloc (by simp;have:=a.out.size;omega) _).drew
theorem cYw(e:EnvD)(s:SigD)(p:AQ)(op:Int)(n:Nat)(hn:n<18446744073709551616)(w:AJ)(he:EnvV w p e)(ho:op=63)(hg:(fV op).isSome=false)(q:e.mem=true)(r:acc op=none):
  AX fZ 96 #[p,.agg #[.int .i64 op,.int .u64 (n:Int),.slice none 0 0,.slice none 0 0],.int .i64 0] w (FmP (if n=0 then some ([],[127])else none) w):=by
 obtain⟨va,vb,vd,rfl,h1,h2,t⟩:=he;obtain⟨f,cs,rfl,_⟩:=h1.len;obtain⟨g,cg,rfl⟩:=h2.shape;have H1:=fQ h1;have H2:=fQ h2;have H3:=fQ t;obtain⟨h,i,rfl,_⟩:=t;have B0:=fQ (al2 w (.cells #[.slice f e.sigs.length cs,.int .i64 e.imports,.slice g e.globals.length cg,.slice h e.muts.length i,.bool e.mem] 26) (.cells #[.int .i64 op,.int .u64 (n:Int),.slice none 0 0,.slice none 0 0] 147));have j:=fQ ((Blk.new w 26 #[.slice f e.sigs.length cs,.int .i64 e.imports,.slice g e.globals.length cg,.slice h e.muts.length i,.bool e.mem]).alloc (.cells #[.int .i64 op,.int .u64 (n:Int),.slice none 0 0,.slice none 0 0] 147));have k:=fQ (Blk.newAt (w.alloc (.cells #[.slice f e.sigs.length cs,.int .i64 e.imports,.slice g e.globals.length cg,.slice h e.muts.length i,.bool e.mem] 26)) (N:=w.heap.size+1) 147 #[.int .i64 op,.int .u64 (n:Int),.slice none 0 0,.slice none 0 0] (by simp));clear h1 h2;have x:=fQ (show(fV op).isSome=false from hg);have y:=fQ (show fJ op = .tuple #[.int .i64 0,.int .i64 0,.bool false,.bool false] by unfold fJ;rw[r]);have ai:(op == 256)=false:=(by simp;omega);have aj:(op == 258)=false:=(by simp;omega);have al:(op == 27)=false:=(by simp;omega);have an:(op == 35)=false:=(by simp;omega);have ao:(op == 36)=false:=(by simp;omega);have g16:(op == 16)=false:=(by simp;omega);have ak:(op == 257)=false:=(by simp;omega);have aq:(op == 63)=true:=(by simp[ho]);have g64:(op == 64)=false:=(by simp;omega);rw[q]at B0 j k ⊢;clear q;clear hg r ho;obtain⟨FF,l⟩:∃ F:Option (List Int×List Int),(if n=0 then some ([],[127])else none)=F:=⟨_,rfl⟩;rw[l];have u:=fQ l;clear l;go_in;go_wp2_with fail;refine(jJ op _).mono ?_;rintro z w1 ⟨A1,c1,rfl,v,c⟩;rw[x.out];have d:=fQ (B0.out.trans (c.mono B0.out.size));have b:=fQ (j.out.below c j.out.lt);have m:=fQ (k.out.below c k.out.lt);have HR:=fQ v;clear c v;have f0:=m.out.cell 0;have f1:=m.out.cell 1;simp at f0 f1;have y1:=m.out.lt;have e0:=b.out.cell 0;have e2:=b.out.cell 2;have A:=b.out.cell 3;have B:=b.out.cell 4;simp at e0 e2 A B;have y2:=b.out.lt;go_wp2_with fail;refine(fY op _).mono ?_;rintro z w2 ⟨rfl,rfl⟩;rw[y.out];by_cases a:n=0
 ·have C:=aXk a;have o:=fQ (u.out.symm.trans (if_pos a));clear a;go_wp2_with fail;go_region
  all_goals
   go_wp2;go_ret3;exact FmP.yes o.out (IR.nil _) ((IR.one (Blk.new _ _ _)).drew) ((d.out.alloc d.out.size _).drew)
 ·have C:=aXl a;have o:=fQ (u.out.symm.trans (if_neg a));clear a;go_wp2_with fail;go_region
  all_goals
   go_wp2;go_ret3;exact FmP.no o.out (IR.nil _) ((IR.one (Blk.new _ _ _)).drew) ((d.out.alloc d.out.size _).drew)
theorem cYx(e:EnvD)(s:SigD)(p:AQ)(op:Int)(n:Nat)(hn:n<18446744073709551616)(w:AJ)(he:EnvV w p e)(ho:op=64)(hg:(fV op).isSome=false)(q:e.mem=true)(r:acc op=none):
  AX fZ 96 #[p,.agg #[.int .i64 op,.int .u64 (n:Int),.slice none 0 0,.slice none 0 0],.int .i64 0] w (FmP (if n=0 then some ([127],[127])else none) w):=by
 obtain⟨va,vb,vd,rfl,h1,h2,t⟩:=he;obtain⟨g,cs,rfl,_⟩:=h1.len;obtain⟨h,cg,rfl⟩:=h2.shape;have H1:=fQ h1;have H2:=fQ h2;have H3:=fQ t;obtain⟨i,j,rfl,_⟩:=t;have B0:=fQ (al2 w (.cells #[.slice g e.sigs.length cs,.int .i64 e.imports,.slice h e.globals.length cg,.slice i e.muts.length j,.bool e.mem] 26) (.cells #[.int .i64 op,.int .u64 (n:Int),.slice none 0 0,.slice none 0 0] 147));have k:=fQ ((Blk.new w 26 #[.slice g e.sigs.length cs,.int .i64 e.imports,.slice h e.globals.length cg,.slice i e.muts.length j,.bool e.mem]).alloc (.cells #[.int .i64 op,.int .u64 (n:Int),.slice none 0 0,.slice none 0 0] 147));have l:=fQ (Blk.newAt (w.alloc (.cells #[.slice g e.sigs.length cs,.int .i64 e.imports,.slice h e.globals.length cg,.slice i e.muts.length j,.bool e.mem] 26)) (N:=w.heap.size+1) 147 #[.int .i64 op,.int .u64 (n:Int),.slice none 0 0,.slice none 0 0] (by simp));clear h1 h2;have x:=fQ (show(fV op).isSome=false from hg);have y:=fQ (show fJ op = .tuple #[.int .i64 0,.int .i64 0,.bool false,.bool false] by unfold fJ;rw[r]);have ai:(op == 256)=false:=(by simp;omega);have aj:(op == 258)=false:=(by simp;omega);have al:(op == 27)=false:=(by simp;omega);have an:(op == 35)=false:=(by simp;omega);have ao:(op == 36)=false:=(by simp;omega);have g16:(op == 16)=false:=(by simp;omega);have ak:(op == 257)=false:=(by simp;omega);have aq:(op == 63)=false:=(by simp;omega);have g64:(op == 64)=true:=(by simp[ho]);rw[q]at B0 k l ⊢;clear q;clear hg r ho;obtain⟨FF,m⟩:∃ F:Option (List Int×List Int),(if n=0 then some ([127],[127])else none)=F:=⟨_,rfl⟩;rw[m];have u:=fQ m;clear m;go_in;go_wp2_with fail;refine(jJ op _).mono ?_;rintro z w1 ⟨A1,c1,rfl,v,f⟩;rw[x.out];have a:=fQ (B0.out.trans (f.mono B0.out.size));have c:=fQ (k.out.below f k.out.lt);have o:=fQ (l.out.below f l.out.lt);have HR:=fQ v;clear f v;have f0:=o.out.cell 0;have f1:=o.out.cell 1;simp at f0 f1;have y1:=o.out.lt;have e0:=c.out.cell 0;have e2:=c.out.cell 2;have A:=c.out.cell 3;have B:=c.out.cell 4;simp at e0 e2 A B;have y2:=c.out.lt;go_wp2_with fail;refine(fY op _).mono ?_;rintro z w2 ⟨rfl,rfl⟩;rw[y.out];by_cases b:n=0
 ·have C:=aXk b;have d:=fQ (u.out.symm.trans (if_pos b));clear b;go_wp2_with fail;go_region
  all_goals
   go_wp2;go_ret3
   first
    | exact FmP.yes d.out (Blk.alloc (Blk.new _ _ _) _ |> IR.one).drew (IR.one (Blk.newAt _ _ _ (by simp))).drew ((a.out.alloc a.out.size _).alloc (by simp;have:=a.out.size;omega) _).drew
    | exact FmP.yes d.out (IR.one (Blk.newAt _ _ _ (by simp))).drew (Blk.alloc (Blk.new _ _ _) _ |> IR.one).drew ((a.out.alloc a.out.size _).alloc (by simp;have:=a.out.size;omega) _).drew
 ·have C:=aXl b;have d:=fQ (u.out.symm.trans (if_neg b));clear b;go_wp2_with fail;go_region
  all_goals
   go_wp2;go_ret3
   first
    | exact FmP.no d.out (Blk.alloc (Blk.new _ _ _) _ |> IR.one).drew (IR.one (Blk.newAt _ _ _ (by simp))).drew ((a.out.alloc a.out.size _).alloc (by simp;have:=a.out.size;omega) _).drew
    | exact FmP.no d.out (IR.one (Blk.newAt _ _ _ (by simp))).drew (Blk.alloc (Blk.new _ _ _) _ |> IR.one).drew ((a.out.alloc a.out.size _).alloc (by simp;have:=a.out.size;omega) _).drew
theorem cQf(e:EnvD)(s:SigD)(l:AQ)(op:Int)(n:Nat)(hn:n<18446744073709551616)(w:AJ)(he:EnvV w l e)(m:op≠256)(o:op≠258)(p:op≠27)(q:op≠35)(r:op≠36)(t:op≠16)(u:op≠257)(v:op≠63)(x:op≠64)(hg:(fV op).isSome=false)(y:e.mem=true)(z:acc op=none):
  AX fZ 96 #[l,.agg #[.int .i64 op,.int .u64 (n:Int),.slice none 0 0,.slice none 0 0],.int .i64 0] w (FmP (none) w):=by
 obtain⟨va,vb,vd,rfl,h1,h2,A⟩:=he;obtain⟨c,cs,rfl,_⟩:=h1.len;obtain⟨d,cg,rfl⟩:=h2.shape;have H1:=fQ h1;have H2:=fQ h2;have H3:=fQ A;obtain⟨f,g,rfl,_⟩:=A;have B0:=fQ (al2 w (.cells #[.slice c e.sigs.length cs,.int .i64 e.imports,.slice d e.globals.length cg,.slice f e.muts.length g,.bool e.mem] 26) (.cells #[.int .i64 op,.int .u64 (n:Int),.slice none 0 0,.slice none 0 0] 147));have h:=fQ ((Blk.new w 26 #[.slice c e.sigs.length cs,.int .i64 e.imports,.slice d e.globals.length cg,.slice f e.muts.length g,.bool e.mem]).alloc (.cells #[.int .i64 op,.int .u64 (n:Int),.slice none 0 0,.slice none 0 0] 147));have i:=fQ (Blk.newAt (w.alloc (.cells #[.slice c e.sigs.length cs,.int .i64 e.imports,.slice d e.globals.length cg,.slice f e.muts.length g,.bool e.mem] 26)) (N:=w.heap.size+1) 147 #[.int .i64 op,.int .u64 (n:Int),.slice none 0 0,.slice none 0 0] (by simp));clear h1 h2;have C:=fQ (show(fV op).isSome=false from hg);have D:=fQ (show fJ op = .tuple #[.int .i64 0,.int .i64 0,.bool false,.bool false] by unfold fJ;rw[z]);have au:(op == 256)=false:=(by simp[m]);have av:(op == 258)=false:=(by simp[o]);have ay:(op == 27)=false:=(by simp[p]);have az:(op == 35)=false:=(by simp[q]);have aA:(op == 36)=false:=(by simp[r]);have g16:(op == 16)=false:=(by simp[t]);have aw:(op == 257)=false:=(by simp[u]);have aB:(op == 63)=false:=(by simp[v]);have g64:(op == 64)=false:=(by simp[x]);rw[y]at B0 h i ⊢;clear y;clear hg z m o p q r t u v x;obtain⟨FF,j⟩:∃ F:Option (List Int×List Int),(none)=F:=⟨_,rfl⟩;rw[j];have E:=fQ j;clear j;go_in;go_wp2_with fail;refine(jJ op _).mono ?_;rintro G w1 ⟨A1,c1,rfl,B,b⟩;rw[C.out];have H:=fQ (B0.out.trans (b.mono B0.out.size));have a:=fQ (h.out.below b h.out.lt);have k:=fQ (i.out.below b i.out.lt);have HR:=fQ B;clear b B;have f0:=k.out.cell 0;have f1:=k.out.cell 1;simp at f0 f1;have y1:=k.out.lt;have e0:=a.out.cell 0;have e2:=a.out.cell 2;have I:=a.out.cell 3;have J:=a.out.cell 4;simp at e0 e2 I J;have y2:=a.out.lt;go_wp2_with fail;refine(fY op _).mono ?_;rintro G w2 ⟨rfl,rfl⟩;rw[D.out];go_wp2;go_ret3;exact FmP.no E.out.symm (IR.nil _) (IR.nil _) H.out
end Go.Proofs.YtabibkpfgmolkaaGreat

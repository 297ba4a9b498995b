/- Lemmas for the claim, part 6. Conditions: none. -/
import Derived.Test.YtabibkpfgmolkaaGreatDoorPt05
set_option maxRecDepth 100000
set_option maxHeartbeats 16000000
set_option linter.unusedVariables false
set_option linter.unusedSimpArgs false
open Go.Lib renaming hid→fQ
open Go.Proofs.Tryz renaming prog→fZ
open Go.Proofs.Tryz
open Go.RowKit
open Nat renaming le_refl→Aj,lt_of_lt_of_le→Aq,zero_le→Ay,le_add_right→Ae,le_trans→Ag,add_comm→Ah,add_sub_cancel_left→Bj,zero_add→Bx,add_right_comm→BJ,add_sub_cancel→BQ,lt_or_ge→BX,div_le_self→BK,min_eq_left→BV,add_assoc→Ba
open List renaming mem_of_getElem?→Ax,getElem?_eq_getElem→Az,getD_eq_getElem?_getD→Av,length_replicate→Aw,getD_cons_zero→AQ,getD_cons_succ→AX,mem_cons_self→AZ,length_set→AK,mem_cons_of_mem→AV,length_append→Aa,length_drop→Ac,map_cons→Af,drop_eq_nil_of_le→Bq,set_append_right→Bz,mem_of_mem_take→Bk,mem_of_mem_drop→Bv,take_succ_cons→Bw,sum_cons→By,length_take→BZ,length_map→BW,replicate→BY
open Option renaming some→Ak
open Go.RowKit.Below renaming heap_setCell→AJ,refl→Ad
open Go.Calls renaming quiet_of_same→AW
open Go.World renaming setCell→AY,ownsRow→Bb
open Bool renaming false_eq_true→Ab,and_eq_true→Ai
open Go renaming World→Bc,Value→Bd
open Go.RowKit renaming Below→Be
open Go.Value renaming int->fF,slice->fG,bool->fH,pointer->fI
open Go.IntKind renaming i64->fM,u64->fN
open Go.Obj renaming cells->fO
open Or renaming inl->fP,inr->fR
open Option renaming none->fS,some->fT
open Bool renaming true->fU,false->gh
namespace Go.Proofs.YtabibkpfgmolkaaGreatDoor
variable {w w' w0:Bc}{k lost n d g i dc:Nat}{V l a:List Nat}{v v':Bd}{e2:Int}{e:TypeId}
def zY(z:Int):Prop:=0<=z/\z<18446744073709551616
def lh(z:Int):Prop:=0<=z/\z<4294967296
theorem lh.oI{z:Int}(h:lh z):zY z:=⟨h.1,by have:=h.2;omega⟩
theorem qU(b:Bool):lh (b01 b):=by cases b <;> simp[b01,lh]
theorem nP(z:Int):zY (IntKind.u64.wrap z):=by unfold zY;rw[IntKind.wrap_u64];omega
theorem bKa(z:Int):lh (z % 4294967296):=by unfold lh;omega
theorem aKq(o:BinOp)(x y:Int):zY (bits o fN x y):=by
 have h:∃ z,bits o fN x y=IntKind.u64.wrap z:=⟨_,rfl⟩;obtain⟨z,a⟩:=h;rw[a];exact nP z
theorem dWr(a b ke:Nat)(x:Int)(ha:a<18446744073709551616)(k:Nat):zY ((oX fN 64 a b ke x).getD k 0):=by
 have h1:(a:Int) / 2 ^ ke=((a / 2 ^ ke:Nat):Int):=fz;have h2:=BK a (2 ^ ke);have e:0<=(a:Int) / 2 ^ ke:=Int.ediv_nonneg fu (Int.le_of_lt (Int.pow_pos fu));have c:=fun o x y=>aKq o x y;have d:zY 0:=⟨fu,fu⟩;unfold oX
 match k with
 | 0=>exact nP _
 | 1=>exact nP _
 | 2=>exact nP _
 | 3=>exact d
 | 4=>exact d
 | 5=>exact d
 | 6=>exact d
 | 7=>simp only[AQ,AX];exact c _ _ _
 | 8=>simp only[AQ,AX];exact c _ _ _
 | 9=>simp only[AQ,AX];exact c _ _ _
 | 10=>exact nP _
 | 11=>exact nP _
 | 12=>exact(show zY ((a:Int) / 2 ^ ke)from⟨e,by rw[h1];omega⟩)
 | 13=>simp only[AQ,AX];exact c _ _ _
 | 14=>simp only[AQ,AX];exact c _ _ _
 | k+15=>exact d
theorem dWs(k:Int)(a b:Nat)(x y:Int)(ha:a<18446744073709551616):zY (iX 18446744073709551616 (-9223372036854775808) k a b x y).1:=by
 have h2:=BK a b;have h5:0<=(a:Int) / b:=Int.ediv_nonneg fu fu;have h4:=Nat.mod_le a b;unfold iX zY
 repeat' split
 all_goals (simp only;omega)
theorem cZa(M least k:Int)(a b:Nat)(x y:Int):(iX M least k a b x y).2=0\/(iX M least k a b x y).2=33\/(iX M least k a b x y).2=34:=by
 unfold iX
 repeat' split
 all_goals simp
theorem cZb(c d k:Int)(a b:Nat)(hd:d=126\/d=127)(ha:a<18446744073709551616)(i:d=127->a<4294967296):
  zY (gY c d k a b).1/\(c=1->lh (gY c d k a b).1)/\(d=127->lh (gY c d k a b).1)/\((gY c d k a b).2=0\/((gY c d k a b).2≠1/\c≠1/\3<=k/\k<=6)):=by
 have key:∀ z:Int×Int,z.2=0\/z.2=33\/z.2=34->z.2=0\/z.2≠1:=fun z h=>by omega
 rcases hd with rfl|rfl
 ·unfold gY;rw[gz rfl];by_cases hc:c=1
  ·rw[gz hc];exact⟨(qU _).oI,fun _=>qU _,fun h=>gH h fy,fP rfl⟩
  ·rw[gy hc];by_cases e:3<=k/\k<=6
   ·rw[gz e];refine⟨dWs _ _ _ _ _ ha,fun h=>gH h hc,fun h=>gH h fy,?_⟩;rcases key _ (cZa 18446744073709551616 (-9223372036854775808) (k - 3) a b (wrap64 a) (wrap64 b))with h|h
    ·exact fP h
    ·exact fR ⟨h,hc,e.1,e.2⟩
   ·rw[gy e];exact⟨dWr _ _ _ _ ha _,fun h=>gH h hc,fun h=>gH h fy,fP rfl⟩
 ·have g:=i rfl;unfold gY;rw[gy fy];by_cases hc:c=1
  ·rw[gz hc];exact⟨(qU _).oI,fun _=>qU _,fun _=>qU _,fP rfl⟩
  ·rw[gy hc];by_cases e:3<=k/\k<=6
   ·rw[gz e];have f:lh _:=bWn (k - 3) a b (wrap32 a) (wrap32 b) g;refine⟨f.oI,fun h=>gH h hc,fun _=>f,?_⟩;rcases key _ (cZa 4294967296 (-2147483648) (k - 3) a b (wrap32 a) (wrap32 b))with h|h
    ·exact fP h
    ·exact fR ⟨h,hc,e.1,e.2⟩
   ·rw[gy e];have f:lh _:=bWo a b (b % 32) (wrap32 a) g k.toNat;exact⟨f.oI,fun h=>gH h hc,fun _=>f,fP rfl⟩
theorem nA(z:Nat):iK 126 z=fU:=by simp[iK]
theorem nB{z:Nat}(h:z<4294967296):iK 127 z=fU:=by simp[iK,h]
theorem fQd(k:Int)(x:Nat)(hx:x<18446744073709551616):zY (ny k x):=by
 unfold ny
 split
 ·exact nP _
 ·exact⟨fu,fu⟩
theorem fQe(k out:Int)(x:Nat):zY (tZ k out x)/\(out=127->lh (tZ k out x)):=by
 unfold tZ
 split
 ·exact⟨(bKa _).oI,fun _=>bKa _⟩
 ·exact⟨nP _,fun h=>gH h (by assumption)⟩
theorem sz(h:ij l)(i:Nat):l.getD i 0<18446744073709551616:=by
 rw[Av]
 cases hx:l[i]? with
 | none=>simp
 | some x=>exact h x (Ax hx)
theorem fQf{d:Int}(h:l.all (iK d)=fU)(i:Nat)(hd:d=127):l.getD i 0<4294967296:=by
 subst hd;rw[Av]
 cases a:l[i]? with
 | none=>simp
 | some x=>
  have:=List.all_eq_true.1 h x (Ax a)
  simpa[iK]using this
theorem cYj{op a b c d:Int}(hg:gQ op=fT (a,b,c,d))(h:ij l)(hf:l.all (iK d)=fU):zY (oZ c d (op - a) (mX op) l).1:=by
 obtain⟨hc,hd,_,hle,ae,_,_⟩:=pq hg;obtain⟨r0,r1,j,r3,r4,r5,r6⟩:=cKl hg;have e:=sz h 0;have f:=fQf (i:=0) hf;rcases hc with rfl|rfl|rfl|rfl|rfl|rfl|rfl
 ·rw[oZ,gz rfl];exact(qU _).oI
 ·rw[oZ,gy fy,gy fy,gy fy,gy fy,gy fy];exact(cZb 1 d (op - a) (l.getD 0 0) (l.getD 1 0) hd e f).1
 ·rw[oZ,gy fy,gz rfl]
  have g:=@bKx (if d=126 then 64 else 32) (l.getD 0 0) (op - a).toNat (by
   rcases hd with rfl|rfl
   ·exact fP ⟨rfl,e⟩
   ·exact fR ⟨rfl,f rfl⟩) (by have:=j rfl;omega)
  exact⟨g.1,by have:=g.2;omega⟩
 ·rw[oZ,gy fy,gy fy,gy fy,gy fy,gy fy];exact(cZb 3 d (op - a) (l.getD 0 0) (l.getD 1 0) hd e f).1
 ·rw[oZ,gy fy,gy fy,gz rfl];exact(bKa _).oI
 ·rw[oZ,gy fy,gy fy,gy fy,gz rfl];exact fQd _ _ e
 ·rw[oZ,gy fy,gy fy,gy fy,gy fy,gz rfl];exact(fQe (op - a) (mX op) (l.getD 0 0)).1
structure jh (e:ia) (s:iM):Prop where
 k8:jw s.L
 ls:(s.L.length:Int)<=s.Y
 Y:s.Y<=4096
 kR:s.E.length=e.E.length
 kF:ij s.E
 lU:ij s.a0
 i64:ij s.input
 ilen:s.input.length<=100000
 U:s.U<=1024
theorem jh.pC{e:ia}{s:iM}(h:jh e s):s.L.length<=4096:=by have:=h.ls;have:=h.Y;omega
theorem nW:ij []:=fun x a=>by simp at a
theorem bVy{b:List Nat}(ha:ij a)(c:ij b):ij (a++b):=fun x d=>by
 rcases List.mem_append.1 d with h|h
 ·exact ha x h
 ·exact c x h
theorem aYy(h:n<18446744073709551616):ij [n]:=fun x a=>by rw[List.mem_singleton.1 a];exact h
theorem aWt(h:ij l)(k:Nat):ij (l.take k):=fun x a=>h x (Bk a)
theorem aJt(h:ij l)(k:Nat):ij (l.drop k):=fun x a=>h x (Bv a)
theorem bJt(h:ij l)(k n:Nat)(hn:n<18446744073709551616):ij (l.set k n):=fun x a=>by
 rcases List.mem_or_eq_of_mem_set a with h1|h1
 ·exact h x h1
 ·omega
theorem pZ:∀ (ks:List Int) (l:List Nat),ij l->ij (ie ks l)
 | [],l,_=>by cases l <;> exact nW
 | t :: ks,[],_=>nW
 | t :: ks,x :: l,h=>fun y a=>by
  rcases List.mem_cons.1 a with rfl|a
  ·have:=h x (AZ ..);unfold oY
   split <;> omega
  ·exact pZ ks l (fun z b=>h z (AV _ b)) y a
theorem pD:∀ (os:List Int) (a V:List Nat),ij a->ij V->ij (iS os a V)
 | [],a,V,_,h=>by cases a <;> exact h
 | o :: os,[],V,_,h=>h
 | o :: os,n :: a,V,hn,h=>pD os a _ (fun x b=>hn x (AV _ b)) (bJt h _ _ (hn n (AZ ..)))
theorem bVz(n:Nat):ij (BY n 0):=fun x a=>by rw[List.eq_of_mem_replicate a];omega
theorem aVe(lost:Nat)(h:ij V):ij (zeroV lost V):=bVy (bVz _) (aJt h _)
theorem yK(r:gR)(h:ij a):ij (jb r a):=pD _ _ _ h (bVz _)
theorem aWu(h:ij V)(l:List Int):ij (jd V l):=fun x a=>by
 obtain⟨p,_,rfl⟩:=List.mem_map.1 a;exact sz h _
theorem vY(e:ia)(r:gR)(c:gP)(h:ij V):ij (iw e r c V):=pZ _ _ (aWu h _)
theorem dKt(k:Int)(a:Nat)(b:Bool){q:Nat}(h:q<18446744073709551616):zY (vW k a b q):=by
 have h1:zY (if b then qL a (q:Int)else(q:Int)):=by
  split
  ·exact nP _
  ·exact⟨fu,fu⟩
 unfold vW nc
 split
 ·exact(bKa _).oI
 ·exact h1
theorem aYz{m:List Nat}(h:jw m)(op:Int)(a o:Nat):zY (oK m op a o).1:=by
 have b:zY 0:=⟨fu,fu⟩;unfold oK
 cases c:acc op with
 | none=>exact b
 | some x=>
  obtain⟨k,wd,st,d⟩:=x;simp only
  split
  ·exact b
  ·split
   ·have hw:=(mK c).2.1;refine dKt k _ d ?_;have h2:=sj ((m.drop (a+o)).take wd.toNat) (fun x e=>h x (Bv (Bk e)))
    have f:((m.drop (a+o)).take wd.toNat).length<=8:=by
     rw[BZ];omega
    exact Aq h2 (Nat.pow_le_pow_right (n:=256) fu f)
   ·exact b
theorem bQa(op:Int)(h:ij l):zY (oV op l).1:=by
 have e:zY 0:=⟨fu,fu⟩;unfold oV
 cases hg:gQ op with
 | none=>exact e
 | some g=>
  obtain⟨a,b,c,d⟩:=g;simp only
  split
  ·rename_i h2;exact cYj hg h h2.2
  ·exact e
theorem re{z:Int}(h:zY z):z.toNat<18446744073709551616/\((z.toNat:Nat):Int)=z:=by
 have h1:=h.1;have h2:=h.2;omega
theorem sC{e:ia}{outs:List Int}{s:iM}(hs:jh e s)(ha:ij a)(hn:n<18446744073709551616):jh e (iy n outs a s).2.2/\ij (iy n outs a s).1:=by
 have c:ij (s.a0++n :: a):=bVy hs.lU (fun x b=>by
  rcases List.mem_cons.1 b with rfl|b
  ·exact hn
  ·exact ha x b)
 unfold iy
 split
 ·exact⟨⟨hs.k8,hs.ls,hs.Y,hs.kR,hs.kF,c,aJt hs.i64 _,by show(s.input.drop _).length<=_;rw[Ac];have:=hs.ilen;omega,hs.U⟩,pZ _ _ (aWt hs.i64 _)⟩
 ·exact⟨⟨hs.k8,hs.ls,hs.Y,hs.kR,hs.kF,c,nW,Ay _,hs.U⟩,nW⟩
theorem bKu{e:ia}{c:gP}{s:iM}(hs:jh e s)(ha:ij a)(hn:c.n<18446744073709551616):jh e (jV c a s).2.2/\(jV c a s).1<18446744073709551616:=by
 have f:=sz ha 0;have g1:=sz ha 1;have b:(0:Nat)<18446744073709551616:=fu;unfold jV
 split;· exact⟨hs,hn⟩
 split;· exact⟨hs,f⟩
 split
 ·split
  ·exact⟨hs,b⟩
  ·exact⟨⟨hs.k8,hs.ls,hs.Y,hs.kR,hs.kF,hs.lU,hs.i64,hs.ilen,by have:=hs.U;show s.U - 1<=_;omega⟩,b⟩
 split
 ·refine⟨hs,?_⟩;show(if a.getD 2 0=0 then a.getD 1 0 else a.getD 0 0)<_
  split <;> assumption
 split;· exact⟨hs,sz hs.kF _⟩
 split
 ·exact⟨⟨hs.k8,hs.ls,hs.Y,(AK ..).trans hs.kR,bJt hs.kF _ _ f,hs.lU,hs.i64,hs.ilen,hs.U⟩,b⟩
 split;· exact⟨hs,b⟩
 split
 ·rename_i ad
  split
  ·refine⟨⟨?_,?_,hs.Y,hs.kR,hs.kF,hs.lU,hs.i64,hs.ilen,hs.U⟩,b⟩
   ·show jw (lQ _ _ _ _ _);rename_i d;unfold lQ;rw[gz d];exact aWs hs.k8 _ _ _
   ·show((lQ _ _ _ _ _).length:Int)<=s.Y;rename_i d;have:=hs.ls;unfold lQ;rw[gz d,qM];exact this
  ·exact⟨hs,b⟩
 ·split
  ·exact⟨hs,(re (aYz hs.k8 _ _ _)).1⟩
  ·exact⟨hs,b⟩
 ·have hm:=hs.pC
  split
  ·refine⟨hs,?_⟩;show s.L.length / 256<_;omega
  split
  ·refine⟨⟨aYx hs.k8 _ _,?_,hs.Y,hs.kR,hs.kF,hs.lU,hs.i64,hs.ilen,hs.U⟩,?_⟩
   ·show((lX _ _ _).length:Int)<=s.Y;have:=hs.ls;unfold lX
    split
    ·rename_i g;unfold yZ at g;simp only[decide_eq_true_eq]at g;rw[Aa,Aw];omega
    ·exact this
   ·show rV _ _ _<_;unfold rV
    split <;> omega
  ·exact⟨hs,(re (bQa _ ha)).1⟩
theorem sE{e:ia}{c:gP}{s:iM}(hs:jh e s)(ha:ij a)(hn:c.n<18446744073709551616):(∀ l s',iF e c k a s = .vals l s'->jh e s'/\ij l)/\(∀ x s',iF e c k a s = .trap x s'->jh e s'):=by
 constructor
 ·intro l s' h;obtain⟨_,_,_,_,_,hv⟩:=uZ h;rcases hv with⟨_,_,b⟩|⟨_,rfl,_,rfl⟩
  ·have:=sC (n:=c.n) (outs:=(e.R.getD c.n ⟨[],[]⟩).out) hs ha hn;rw[b]at this;exact this
  ·have:=bKu hs ha hn (c:=c);exact⟨this.1,aYy this.2⟩
 ·intro x s' h;unfold iF at h;simp only at h
  repeat' split at h
  all_goals first
   | (injection h with h1 h2;subst h2;first|exact hs|exact(sC hs ha hn).1|exact(bKu hs ha hn).1)
   | cases h
theorem Ev.ok{p:hU}{r:gR}{s:iM}{R:jD}(f:∀ (i:Nat) q,p.b0[i]? = Ak q->∀ c∈q.K,c.n<18446744073709551616)(h:Ev p lost d r k V s R):(∀ c∈r.K,c.n<18446744073709551616)->jh p.J s->ij V->jh p.J R.s/\ij R.out:=by
 induction h with
 | ret hc ha=>
  intro b hs a;obtain⟨_,rfl⟩:=sr ha;exact⟨hs,vY _ _ _ a⟩
 | trap hc ha=>
  intro b hs a;exact⟨(sE hs (vY _ _ _ a) (b _ (Ax hc))).2 _ _ ha,nW⟩
 | go hc ha hn e=>exact fun b hs a=>e b hs a
 | vals hc ha hn e=>
  intro b hs a;have:=(sE hs (vY _ _ _ a) (b _ (Ax hc))).1 _ _ ha;exact e b this.1 (pD _ _ _ this.2 a)
 | call hc ha hd hq hg h1 he h2 ih1 ih2=>
  intro b hs a;have:=ih1 (f _ _ hq) hs (yK _ (pZ _ _ (vY _ _ _ a)));exact ih2 b this.1 (pD _ _ _ this.2 (aVe _ a))
 | jO hc ha hd hq hg h1 he ih1=>
  intro b hs a;have:=ih1 (f _ _ hq) hs (yK _ (pZ _ _ (vY _ _ _ a)));exact⟨this.1,nW⟩
 | deep hc ha hd=>exact fun b hs a=>⟨hs,nW⟩
structure gT where
 L:List Nat
 Y:Int
 E:List Nat
 U:Int
 input:List Nat
 a0:List Nat
def kf(w:Bc)(v:Bd)(s:gT):Prop:=∃ a g i l,v = .agg #[a,fF fM s.Y,g,fF fM s.U,i,l]/\BR w a s.L/\UR w g s.E/\UR w i s.input/\UR w l s.a0
theorem kf.C{w w':Bc}{B:Nat}{v:Bd}{s:gT}(h:kf w v s)(b:Be B w w')(c:w.heap.size<=B):kf w' v s:=by
 obtain⟨a,g,i,l,e,h1,h2,d,f⟩:=h;exact⟨a,g,i,l,e,h1.C b c,h2.C b c,d.C b c,f.C b c⟩
def gT.of(s:iM):gT:=⟨s.L,s.Y,s.E,s.U,s.input,s.a0⟩
theorem BR.I(h:BR w v l):∃ A c,v = fG A l.length c:=by
 obtain⟨A,c,e,_⟩:=h;exact⟨A,c,e⟩
theorem BR.len{A:Option Addr}{c:Nat}(h:BR w (fG A n c) l):n=l.length/\Src w A n (jv l)/\n<=c/\(A=fS->c=0)/\(n<=140737488355328/\c<=9223372036854775807)/\jw l:=by
 obtain⟨A',c',e,r⟩:=h;injection e with a e2 b;subst a;subst e2;subst b;exact⟨rfl,r⟩
theorem pE(w:Bc)(a b:Obj):Be w.heap.size w ((w.alloc a).alloc b):=((Ad _ _).alloc (Aj _) _).alloc fz _
theorem iY{a b c d f h:Bd}(k:gO w g e #[a,b,c,d,f,h]):
  w.cell? ⟨g,0,fS⟩=fT a/\w.cell? ⟨g,1,fS⟩=fT b/\w.cell? ⟨g,2,fS⟩=fT c/\w.cell? ⟨g,3,fS⟩=fT d/\w.cell? ⟨g,4,fS⟩=fT f/\w.cell? ⟨g,5,fS⟩=fT h:=
 ⟨by simpa using k.cell 0,by simpa using k.cell 1,by simpa using k.cell 2,by simpa using k.cell 3,by simpa using k.cell 4,by simpa using k.cell 5⟩
theorem dVh(v u:Bd)(x y:List Nat)(w:Bc)(ha:BR w v x)(a:BR w u y):Calls fZ 40 #[v,u] w fun e w'=>e = .returned (fH (decide (x=y)))/\w=w':=by
 obtain⟨A,c,rfl⟩:=ha.I;obtain⟨B,d,rfl⟩:=a.I;obtain⟨_,b,_,_,_,f⟩:=ha.len;obtain⟨_,g,_,_,_,h⟩:=a.len;have h1:=bYs (P:=fZ) w 31 9 5 underlying31 underlying5 underlying9 A x.length c x b f;have h2:=bYs (P:=fZ) w 31 9 5 underlying31 underlying5 underlying9 B y.length d y g h;have i:=fQ (eKw f h);clear ha a b g;go_in;go_wp2;go_ret;rw[<-i.out];exact⟨rfl,rfl⟩
theorem dVi(va vb:Bd)(s:gT)(w:Bc)(h1:kf w va s)(h2:kf w vb s):Calls fZ 17 #[va,vb] w fun d w'=>d = .returned (fH fU)/\Be w.heap.size w w':=by
 obtain⟨a,g,i,l,rfl,h,o,p,q⟩:=h1;obtain⟨b,k,j,m,rfl,r,t,u,v⟩:=h2;have e:=fQ (pE w (fO #[a,fF fM s.Y,g,fF fM s.U,i,l] 33) (fO #[b,fF fM s.Y,k,fF fM s.U,j,m] 33));have x:=fQ (fun(w':Bc) (c:Be w.heap.size w w')=>h.C c (Aj _));have y:=fQ (fun(w':Bc) (c:Be w.heap.size w w')=>o.C c (Aj _));have z:=fQ (fun(w':Bc) (c:Be w.heap.size w w')=>p.C c (Aj _));have A:=fQ (fun(w':Bc) (c:Be w.heap.size w w')=>q.C c (Aj _));have B:=fQ (fun(w':Bc) (c:Be w.heap.size w w')=>r.C c (Aj _));have C:=fQ (fun(w':Bc) (c:Be w.heap.size w w')=>t.C c (Aj _));have D:=fQ (fun(w':Bc) (c:Be w.heap.size w w')=>u.C c (Aj _));have E:=fQ (fun(w':Bc) (c:Be w.heap.size w w')=>v.C c (Aj _));clear h o p q r t u v;have f:=fQ (fun n:Nat=>fK e.out n);go_in;go_wp2_with fail;refine(dVh _ _ _ _ _ (x.out _ e.out) (B.out _ e.out)).mono ?_;rintro d w' ⟨rfl,rfl⟩;rw[gD (rfl:s.L=s.L)];go_wp2_with fail;refine(sn _ _ _ _ _ (y.out _ e.out) (C.out _ e.out)).mono ?_;rintro d w' ⟨rfl,n1,rfl⟩;rw[gD (rfl:s.E=s.E)];go_wp2_with fail;refine(sn _ _ _ _ _ (z.out _ (f.out _)) (D.out _ (f.out _))).mono ?_;rintro d w' ⟨rfl,n2,rfl⟩;rw[gD (rfl:s.input=s.input)];go_wp2_with fail;refine(sn _ _ _ _ _ (A.out _ (f.out _)) (E.out _ (f.out _))).mono ?_;rintro d w' ⟨rfl,n3,rfl⟩;rw[gD (rfl:s.a0=s.a0)];go_wp2;go_ret;exact⟨rfl,f.out _⟩
structure kg (ks:List Int) (m:Bool) (s:gT):Prop where
 pg:s.L.length % 256=0
 le:(s.L.length:Int)<=s.Y
 mx:s.Y<=4096
 no:m=gh->s.Y=0
 gl:s.E.length=ks.length
 f0:0<=s.U
 f1:s.U<=1024
 il:s.input.length<=4096
 ll:s.a0.length<=4096
 ft:∀ (k:Nat) (t:Int) (n:Nat),ks[k]? = fT t->s.E[k]? = fT n->jx t n=fU
def lj(ks:List Int)(l:List Nat):Prop:=ks.length=l.length/\∀ (k:Nat) (t:Int) (n:Nat),ks[k]? = fT t->l[k]? = fT n->jx t n=fU
def rf(Q:Prop)(w:Bc)(a:Ending)(w':Bc):Prop:=∃ b:Bool,a = .returned (fH b)/\(b=fU↔Q)/\Be w.heap.size w w'
theorem dKq(vk vl:Bd)(ks:List Int)(l:List Nat)(w:Bc)(c:IR w vk ks)(d:UR w vl l)(A:ks.length<=100000):Calls fZ 34 #[vk,vl] w (rf (lj ks l) w):=by
 obtain⟨A1,c1,rfl⟩:=c.I;obtain⟨A2,c2,rfl⟩:=d.I;have q:=fQ c;have r:=fQ d;have B:=d.len.2.2.2.2.1.1;clear c d;by_cases hlen:ks.length=l.length
 ·obtain⟨n,hn⟩:=fX l.length;have e:ks.length=n:=fu;have s:=fQ hn;have f:=fQ e;rw[hn]at r B;rw[e]at q A;rw[hn,e];clear hn e hlen;go_in;go_wp2;go_loopw [5] (fun i wr=>∃ k:Nat,k<=n/\i = fF fM k/\Hid (Be w.heap.size w wr/\∀ (j:Nat) (t:Int) (n:Nat),j<k->ks[j]? = fT t->l[j]? = fT n->jx t n=fU)) (fun i _=>n - (intOf i).toNat)
  case atStart=>exact⟨0,fu,rfl,fQ ⟨Ad _ _,fun j t n h=>fu⟩⟩
  case round=>
   obtain⟨k,c,rfl,IM⟩:=hrel;by_cases u:k<n
   ·have D:decide ((k:Int)<n)=fU:=fw;have t2:(k:Int)<n:=fu;obtain⟨x,g⟩:∃ x,ks[k]? = fT x:=⟨_,Az (by rw[f.out];exact u)⟩;obtain⟨y,p⟩:∃ y,l[k]? = fT y:=⟨_,Az (by rw[s.out];exact u)⟩;obtain⟨b,o,rfl,hb,hc⟩:=(q.C IM.out.1 (Aj _)).cell g;obtain⟨b2,o2,rfl,af,ag,_⟩:=(r.C IM.out.1 (Aj _)).cell p;have v:=fQ g;have z:=fQ p;clear g p;cases hf:jx x y
    ·have a:=fQ hf;clear hf;go_wp2_with fail;go_quiet ((go_at_call 53;exact AW ((py x y _).mono fun _ _ ⟨h1,h2⟩=>⟨h1.trans (by rw[a.out]),h2.symm⟩)));go_wp2;go_ret;exact⟨gh,rfl,⟨fun h=>(by cases h),fun h=>(by have:=h.2 k x y v.out z.out;rw[a.out]at this;cases this)⟩,fK IM.out.1 _⟩
    ·have a:=fQ hf;clear hf;go_wp2_with fail;go_quiet ((go_at_call 53;exact AW ((py x y _).mono fun _ _ ⟨h1,h2⟩=>⟨h1.trans (by rw[a.out]),h2.symm⟩)));go_wp2;refine⟨⟨k+1,fu,fz,fQ ⟨fK IM.out.1 _,fun j t n hj h1 h2=>?_⟩⟩,fB⟩;rcases BX j k with h|h
     ·exact IM.out.2 j t n h h1 h2
     ·obtain rfl:j=k:=fu;rw[v.out]at h1;rw[z.out]at h2;cases h1;cases h2;exact a.out
   ·go_wp2;go_ret;exact⟨fU,rfl,⟨fun _=>⟨f.trans s.symm,fun j t m h1 h2=>IM.out.2 j t m (by have:=(gw h1).1;have:=f.out;omega) h1 h2⟩,fun _=>rfl⟩,IM.out.1⟩
 ·have C:((ks.length:Int) != (l.length:Int))=fU:=fw;have E:=fQ hlen;clear hlen;go_in;go_wp2;go_ret;exact⟨gh,rfl,⟨fun h=>(by cases h),fun h=>gH h.1 E.out⟩,Ad _ _⟩
theorem dKr(vk vs:Bd)(ks:List Int)(m:Bool)(s:gT)(w:Bc)(z:IR w vk ks)(hs:kf w vs s)(al:ks.length<=100000):Calls fZ 85 #[vk,fH m,vs] w (rf (kg ks m s) w):=by
 obtain⟨A0,c0,rfl⟩:=z.I;obtain⟨a,g,i,l,rfl,h1,h2,L,M⟩:=hs;obtain⟨B,c1,rfl⟩:=h1.I;obtain⟨C,D,rfl⟩:=h2.I;obtain⟨E,F,rfl⟩:=L.I;obtain⟨G,H,rfl⟩:=M.I;have z1:=h1.len.2.2.2.2.1;have z2:=h2.len.2.2.2.2.1;have z3:=L.len.2.2.2.2.1;have z4:=M.len.2.2.2.2.1;obtain⟨Y,N⟩:∃ n,ks.length=n:=⟨_,rfl⟩;obtain⟨n1,O⟩:∃ n,s.L.length=n:=⟨_,rfl⟩;obtain⟨n2,P⟩:∃ n,s.E.length=n:=⟨_,rfl⟩;obtain⟨q,Q⟩:∃ n,s.input.length=n:=⟨_,rfl⟩;obtain⟨r,R⟩:∃ n,s.a0.length=n:=⟨_,rfl⟩;obtain⟨c,S⟩:∃ x,s.Y=x:=⟨_,rfl⟩;obtain⟨f,T⟩:∃ x,s.U=x:=⟨_,rfl⟩;rw[O]at z1 ⊢;rw[P]at h2 z2 ⊢;rw[Q]at z3 ⊢;rw[R]at z4 ⊢;rw[N]at z al ⊢;rw[S,T];have HK:=fQ z;have H2:=fQ h2;have I:=fQ N;have J:=fQ O;have U:=fQ P;have Z:=fQ Q;have N4:=fQ R;have v:=fQ S;have K:=fQ T;have HB:=fQ ((Ad w.heap.size w).alloc (Aj _) (fO #[fG B n1 c1,fF fM c,fG C n2 D,fF fM f,fG E q F,fG G r H] 33));have KB:=fQ (gO.a4 w 33 #[fG B n1 c1,fF fM c,fG C n2 D,fF fM f,fG E q F,fG G r H]);have p:=fQ (fun h:¬kg ks m s=>show rf (kg ks m s) w (.returned (fH gh)) (w.alloc (fO #[fG B n1 c1,fF fM c,fG C n2 D,fF fM f,fG E q F,fG G r H] 33))from⟨gh,rfl,⟨fun e=>(by cases e),fun e=>gH e h⟩,HB.out⟩);clear h1 h2 L M z N O P Q R S T;by_cases b1:n1 % 256=0
 case neg=>
  have q1:((n1:Int) % 256 != 0)=fU:=fw;go_in;go_wp2;go_ret
  exact p.out fun h=>by have:=h.pg;rw[J.out]at this;omega
 have q1:((n1:Int) % 256 != 0)=gh:=fw;by_cases b2:(n1:Int)<=c
 case neg=>
  have q2:decide (c<(n1:Int))=fU:=fw;go_in;go_wp2;go_ret
  exact p.out fun h=>by have:=h.le;rw[J.out,v.out]at this;omega
 have q2:decide (c<(n1:Int))=gh:=fw;by_cases b3:c<=4096
 case neg=>
  have q3:decide (4096<c)=fU:=fw;go_in;go_wp2;go_ret
  exact p.out fun h=>by have:=h.mx;rw[v.out]at this;omega
 have q3:decide (4096<c)=gh:=fw;by_cases u:m=gh/\c≠0
 ·obtain⟨rfl,u⟩:=u;have d:(c != 0)=fU:=(by simpa using u);have an:=fQ u;clear u;go_in;go_wp2;go_ret;exact p.out fun h=>an.out (by have:=h.no rfl;rwa[v.out]at this)
 have B4:=fQ (show m=gh->c=0 from fun e=>Classical.byContradiction fun h=>u ⟨e,h⟩);clear u
 have d:m=fU\/(m=gh/\(c != 0)=gh):=by
  cases m
  ·exact fR ⟨rfl,by have:=B4.out rfl;simp[this]⟩
  ·exact fP rfl
 by_cases V:n2=Y
 case neg=>
  have q5:((n2:Int) != (Y:Int))=fU:=fw;have ao:=fQ V;clear V;rcases d with rfl|⟨rfl,d⟩
  all_goals
   go_in;go_wp2;go_ret;exact p.out fun h=>ao.out (by have:=h.gl;rwa[U.out,I.out]at this)
 subst V;have q5:((n2:Int) != (n2:Int))=gh:=fz;by_cases b6:0<=f
 case neg=>
  have q6:decide (f<0)=fU:=fw;rcases d with rfl|⟨rfl,d⟩
  all_goals
   go_in;go_wp2;go_ret
   exact p.out fun h=>by have:=h.f0;rw[K.out]at this;omega
 have q6:decide (f<0)=gh:=fw;by_cases b7:f<=1024
 case neg=>
  have q7:decide (1024<f)=fU:=fw;rcases d with rfl|⟨rfl,d⟩
  all_goals
   go_in;go_wp2;go_ret
   exact p.out fun h=>by have:=h.f1;rw[K.out]at this;omega
 have q7:decide (1024<f)=gh:=fw;by_cases b8:q<=4096
 case neg=>
  have q8:decide ((4096:Int)<(q:Int))=fU:=fw;rcases d with rfl|⟨rfl,d⟩
  all_goals
   go_in;go_wp2;go_ret
   exact p.out fun h=>by have:=h.il;rw[Z.out]at this;omega
 have q8:decide ((4096:Int)<(q:Int))=gh:=fw;by_cases b9:r<=4096
 case neg=>
  have q9:decide ((4096:Int)<(r:Int))=fU:=fw;rcases d with rfl|⟨rfl,d⟩
  all_goals
   go_in;go_wp2;go_ret
   exact p.out fun h=>by have:=h.ll;rw[N4.out]at this;omega
 have q9:decide ((4096:Int)<(r:Int))=gh:=fw
 have HY:=fQ (fun(hf:∀ (k:Nat) (t:Int) (n:Nat),ks[k]? = fT t->s.E[k]? = fT n->jx t n=fU)=>show kg ks m s from
  ⟨by rw[J.out];exact b1,by rw[J.out,v.out];exact b2,by rw[v.out];exact b3,fun h=>by rw[v.out];exact B4.out h,by rw[U.out,I.out],by rw[K.out];exact b6,by rw[K.out];exact b7,by rw[Z.out];exact b8,by rw[N4.out];exact b9,hf⟩)
 rcases d with rfl|⟨rfl,d⟩
 all_goals
  go_in;go_wp2_with fail;go_loopw [7] (fun i wr=>∃ k:Nat,k<=n2/\i = fF fM k/\Hid (Be w.heap.size w wr/\gO wr w.heap.size 33 #[fG B n1 c1,fF fM c,fG C n2 D,fF fM f,fG E q F,fG G r H]/\∀ (j:Nat) (t:Int) (n:Nat),j<k->ks[j]? = fT t->s.E[j]? = fT n->jx t n=fU)) (fun i _=>n2 - (intOf i).toNat)
  case atStart=>exact⟨0,fu,rfl,fQ ⟨HB.out,KB.out,fun j t n h=>fu⟩⟩
  case round=>
   clear q1 q2 q3 q5 q6 q7 q8 q9;obtain⟨k,z,rfl,IM⟩:=hrel;by_cases aj:k<n2
   ·have t1:decide ((k:Int)<n2)=fU:=fw;have t2:(k:Int)<n2:=fu;obtain⟨x,W⟩:∃ x,ks[k]? = fT x:=⟨_,Az (by rw[I.out];exact aj)⟩;obtain⟨y,X⟩:∃ y,s.E[k]? = fT y:=⟨_,Az (by rw[U.out];exact aj)⟩;obtain⟨b,o,rfl,hb,hc⟩:=(HK.C IM.out.1 (Aj _)).cell W;obtain⟨aq,o2,rfl,ar,au,_⟩:=(H2.C IM.out.1 (Aj _)).cell X;obtain⟨r0,r1,r2,r3,r4,r5⟩:=iY IM.out.2.1;have HX:=fQ W;have ak:=fQ X;clear W X;cases hf:jx x y
    ·have A:=fQ hf;clear hf;go_wp2_with fail;go_quiet ((go_at_call 53;exact AW ((py x y _).mono fun _ _ ⟨h1,h2⟩=>⟨h1.trans (by rw[A.out]),h2.symm⟩)));go_wp2;go_ret;exact⟨gh,rfl,⟨fun h=>(by cases h),fun h=>(by have:=h.ft k x y HX.out ak.out;rw[A.out]at this;cases this)⟩,fK IM.out.1 _⟩
    ·have A:=fQ hf;clear hf;go_wp2_with fail;go_quiet ((go_at_call 53;exact AW ((py x y _).mono fun _ _ ⟨h1,h2⟩=>⟨h1.trans (by rw[A.out]),h2.symm⟩)));go_wp2;refine⟨⟨k+1,fu,fz,fQ ⟨fK IM.out.1 _,IM.out.2.1.drewN _,fun j t n hj h1 h2=>?_⟩⟩,fB⟩;rcases BX j k with h|h
     ·exact IM.out.2.2 j t n h h1 h2
     ·obtain rfl:j=k:=fu;rw[HX.out]at h1;rw[ak.out]at h2;cases h1;cases h2;exact A.out
   ·go_wp2;go_ret;exact⟨fU,rfl,⟨fun _=>HY.out fun j t m h1 h2=>IM.out.2.2 j t m (by have:=(gw h1).1;have:=I.out;omega) h1 h2,fun _=>rfl⟩,IM.out.1⟩
theorem sF{e:ia}(h:iH e=fU):e.E.length<=100000:=by
 unfold iH lY at h;simp only[Ai,decide_eq_true_eq]at h;have:=h.2.1.1;omega
def kh(e:ia)(s:gT):Prop:=iH e=fU/\kg e.E e.L s
theorem bKt(f vs:Bd)(e:ia)(s:gT)(w:Bc)(he:iG w f e)(hs:kf w vs s)(j:e.E.length<=100000):Calls fZ 52 #[f,vs] w (rf (kg e.E e.L s) w):=by
 obtain⟨a,b,d,rfl,_,h2,_⟩:=he;have g:=hs;obtain⟨k,l,m,n,rfl,_⟩:=hs;have c:=fQ (pE w (fO #[a,fF fM e.G,b,d,fH e.L] 26) (fO #[k,fF fM s.Y,l,fF fM s.U,m,n] 33));have o:=fQ (h2.ir.C c.out (Aj _));have p:=fQ (g.C c.out (Aj _));clear h2 g;go_in;go_wp2_with fail;refine(dKr _ _ e.E e.L s _ o.out p.out j).mono ?_;rintro en w1 ⟨q,rfl,h,i⟩;have H1:=fQ h;have r:=fQ (c.trans (i.mono c.out.size));clear h i;go_wp2;go_ret;exact⟨q,rfl,H1.out,r.out⟩
theorem dKs(m vs:Bd)(e:ia)(s:gT)(w:Bc)(he:iG w m e)(hs:kf w vs s)(x:e.E.length<=100000):Calls fZ 33 #[m,vs] w (rf (kh e s) w):=by
 have n:=he;obtain⟨a,b,d,rfl,_⟩:=he;have o:=hs;obtain⟨f,g,i,j,rfl,_⟩:=hs;have k:=fQ (pE w (fO #[a,fF fM e.G,b,d,fH e.L] 26) (fO #[f,fF fM s.Y,g,fF fM s.U,i,j] 33));have p:=fQ (gO.alloc (gO.a4 w 26 #[a,fF fM e.G,b,d,fH e.L]) (fO #[f,fF fM s.Y,g,fF fM s.U,i,j] 33));have q:=fQ (gO.X (w.alloc (fO #[a,fF fM e.G,b,d,fH e.L] 26)) (N:=w.heap.size+1) 33 #[f,fF fM s.Y,g,fF fM s.U,i,j] fz);have r:=fQ n;have y:=fQ o;clear n o;go_in;go_wp2_with fail;refine(aXf _ e _ (r.C k.out (Aj _))).mono ?_;rintro z w1 ⟨rfl,c⟩;have H1:=fQ (k.trans (c.mono k.out.size));have A:=fQ (p.C c p.lt);have B:=fQ (q.C c q.lt);clear c;cases l:iH e
 ·go_wp2;go_ret;exact⟨gh,rfl,⟨fun h=>(by cases h),fun h=>(by have:=h.1;rw[l]at this;cases this)⟩,H1.out⟩
 ·obtain⟨e0,e1,e2,e3,e4⟩:=gZ A.out;obtain⟨s0,s1,s2,s3,s4,s5⟩:=iY B.out;have C:=fQ l;clear l;go_wp2_with fail;refine(bKt _ _ e s _ (r.C H1.out (Aj _)) (y.C H1.out (Aj _)) x).mono ?_;rintro z w2 ⟨D,rfl,t,u⟩;have v:=fQ t;have E:=fQ (H1.trans (u.mono H1.out.size));clear t u;go_wp2;go_ret;exact⟨D,rfl,⟨fun h=>⟨C.out,v.1 h⟩,fun h=>v.2 h.2⟩,E.out⟩
theorem sG:∀ (os:List Int) (c V:List Nat) (k:Nat) (o:Int) (n:Nat),os[k]? = fT o->c[k]? = fT n->iS (os.take (k+1)) (c.take (k+1)) V=(iS (os.take k) (c.take k) V).set o.toNat n
 | [],c,V,k,o,n,h,_=>by simp at h
 | a :: os,[],V,k,o,n,_,h=>by simp at h
 | a :: os,b :: c,V,0,o,n,h,k=>by
  simp at h k;subst h;subst k;cases os <;> cases c <;> rfl
 | a :: os,b :: c,V,k+1,o,n,h,d=>by
  simp only[Bw,iS];exact sG os c _ k o n (by simpa using h) (by simpa using d)
theorem cXf(os:List Int)(a V:List Nat)(k:Nat)(h1:os.length<=k):iS (os.take k) (a.take k) V=iS os a V:=by
 rw[List.take_of_length_le h1]
 induction os generalizing a V k with
 | nil=>cases a <;> cases k <;> rfl
 | cons o os b=>
  match a,k,h1 with
  | [],k+1,_=>rfl
  | n :: a,k+1,h1=>
   simp only[Bw,iS];exact b a _ k (by simpa using h1)
theorem rh:∀ (os:List Int) (a V:List Nat),(iS os a V).length=V.length
 | [],a,V=>by cases a <;> rfl
 | o :: os,[],V=>rfl
 | o :: os,n :: a,V=>by rw[iS,rh os a,AK]
def mO(i:Nat)(V:List Nat):List Nat:=BY i 0++V.drop i
theorem bWa(V:List Nat):mO 0 V=V:=rfl
theorem eZx(h:i<=V.length):(mO i V).length=V.length:=by
 unfold mO;rw[Aa,Aw,Ac];omega
theorem bWb(h:i<V.length):(mO i V).set i 0=mO (i+1) V:=by
 unfold mO;rw[Bz _ _ fz,Aw,Nat.sub_self,List.replicate_succ',List.append_assoc]
 congr 1
 rw[List.drop_eq_getElem_cons h];rfl
theorem bWc(h:i=min lost V.length):mO i V=zeroV lost V:=by
 unfold mO zeroV;subst h;by_cases a:lost<=V.length
 ·rw[BV a]
 ·rw[Nat.min_eq_right fu,Bq (Aj _),Bq fu]
theorem bWd{l:List Int}{p:Int}(h:l[k]? = fT p):jd V (l.take (k+1))=jd V (l.take k) ++ [V.getD p.toNat 0]:=by
 obtain⟨h1,h2⟩:=gw h;unfold jd;rw[List.take_succ_eq_append_getElem h1,h2,List.map_append];rfl
inductive Did (p:hU) (lost d:Nat) (c:gP) (k:Nat) (a:List Nat) (s:iM):iM->Int->Nat->Nat->List Nat->Prop
 | vals {l:List Nat} {s':iM} (ha:iF p.J c k a s = .vals l s'):Did p lost d c k a s s' 0 0 0 l
 | trap {x:Int} {s':iM} (ha:iF p.J c k a s = .trap x s'):Did p lost d c k a s s' x 0 0 []
 | call {n:Nat} {q:gR} {g:iu} {R:jD} (ha:iF p.J c k a s = .call n) (hd:d<16) (hq:p.b0[n - p.J.G.toNat]? = Ak q) (hg:p.J.R[n]? = Ak g)
   (h1:Ev p lost (d+1) q 0 (jb q (ie g.a1 a)) s R):Did p lost d c k a s R.s R.e R.a7 (q.M.toNat+R.kO) R.out
 | deep {n:Nat} (ha:iF p.J c k a s = .call n) (hd:16<=d):Did p lost d c k a s s 37 0 0 []
def zV(e:ia)(c:gP):Bool:=decide (c.op=16/\¬(c.n:Int)<e.G)
def lG(e:ia)(c:gP)(lost:Nat)(V:List Nat):List Nat:=if zV e c=fU then zeroV lost V else V
theorem eZy{e:ia}{c:gP}{s s':iM}(h:iF e c k a s = .vals l s'):zV e c=gh:=by
 obtain⟨_,_,_,_,_,h1|h1⟩:=uZ h
 ·simp[zV];exact fun _=>h1.2.1
 ·simp[zV];exact fun h2=>gH h2 h1.1
theorem Ev.step{p:hU}{r:gR}{s:iM}{R:jD}{c:gP}(h:Ev p lost d r k V s R)(hc:r.K[k]? = Ak c)(h1:c.op≠273)(h2:c.op≠274)(h3:c.op≠275)(i:c.op≠276):
  ∃ (s2:iM) (e2:Int) (dc wd:Nat) (l:List Nat),Did p lost d c k (iw p.J r c V) s s2 e2 dc wd l /\
   (e2=0->∃ R2,Ev p lost d r (k+1) (iS c.O l (lG p.J c lost V)) s2 R2/\R=⟨R2.out,R2.s,R2.e,1+dc+R2.a7,max wd R2.kO⟩/\(c.op=16\/c.op≠16))/\(e2≠0->R=⟨[],s2,e2,1+dc,wd⟩):=by
 cases h with
 | ret a ha=>rw[hc]at a;cases a;exact gH (sr ha).1 i
 | trap a ha=>rw[hc]at a;cases a;exact⟨_,_,_,_,_,.trap ha,fun b=>gH b (qP ha),fun _=>rfl⟩
 | go a ha hn=>rw[hc]at a;cases a;rcases bXb ha with⟨h,_⟩|⟨h,_⟩|⟨h,_⟩ <;> omega
 | @vals _ _ _ _ _ s' _ l R2 a ha hn=>
  rw[hc]at a;cases a;refine⟨_,_,_,_,_,.vals ha,fun _=>⟨R2,?_,?_,fu⟩,fun b=>gH rfl b⟩
  ·unfold lG;rw[gy (by rw[eZy ha];decide)];exact hn
  ·simp
 | @call _ _ q _ n _ _ _ g R1 R2 a ha hd hq hg f he j=>
  rw[hc]at a;cases a;obtain⟨m,rfl,ag⟩:=rZ ha;refine⟨_,_,_,_,_,.call ha hd hq hg f,fun _=>⟨R2,?_,rfl,fu⟩,fun b=>gH he b⟩;unfold lG;rw[gz (by simp[zV,m];omega)];exact j
 | @jO _ _ q _ n _ _ _ g R1 a ha hd hq hg f he=>
  rw[hc]at a;cases a;exact⟨_,_,_,_,_,.call ha hd hq hg f,fun b=>gH b he,fun _=>rfl⟩
 | deep a ha hd=>rw[hc]at a;cases a;exact⟨_,_,_,_,_,.deep ha hd,fun b=>gH b fy,fun _=>rfl⟩
theorem bQb{outs:List Int}{s:iM}(ha:a.length<=8):(iy n outs a s).2.2.a0.length<=s.a0.length+9:=by
 unfold iy
 split <;> (simp;omega)
theorem eZz(c:gP)(a:List Nat)(s:iM):(jV c a s).2.2.a0=s.a0:=by
 unfold jV
 repeat' split
 all_goals rfl
theorem sH{e:ia}{c:gP}{s:iM}(ha:a.length<=8):(∀ l s',iF e c k a s = .vals l s'->s'.a0.length<=s.a0.length+9)/\(∀ x s',iF e c k a s = .trap x s'->s'.a0.length<=s.a0.length+9):=by
 have h1:=bQb (n:=c.n) (outs:=(e.R.getD c.n ⟨[],[]⟩).out) (s:=s) ha;have h2:=eZz c a s;constructor
 ·intro l s' h;obtain⟨_,_,_,_,_,hv⟩:=uZ h;rcases hv with⟨_,_,b⟩|⟨_,_,_,rfl⟩
  ·rw[b]at h1;exact h1
  ·rw[h2];omega
 ·intro x s' h;unfold iF at h;simp only at h
  repeat' split at h
  all_goals first
   | (injection h with h3 d;subst d;first|exact Ae _ _|exact h1|(rw[h2];exact Ae _ _))
   | cases h
theorem sI:∀ (ts:List Int) (l:List Nat),(ie ts l).length<=ts.length
 | [],l=>by cases l <;> exact Aj _
 | t :: ts,[]=>Ay _
 | t :: ts,x :: l=>by simp only[ie,List.length_cons];have:=sI ts l;omega
theorem bXf{e:ia}{r:gR}{c:gP}(a:iq e r)(b:codeOk e r c=fU)(V:List Nat):(iw e r c V).length<=8:=by
 obtain⟨i,o,hf,_⟩:=hY b;have:=(qG a.J a.a2 hf).1;unfold iw jL;rw[hf];exact Ag (sI _ _) this
theorem Ev.a0{p:hU}{lost d k:Nat}{r:gR}{V:List Nat}{s:iM}{R:jD}(hp:iD p)(h:Ev p lost d r k V s R):iq p.J r->R.s.a0.length<=s.a0.length+9*R.a7:=by
 induction h with
 | ret hc ha=>intro _;exact Ae _ _
 | trap hc ha=>
  intro a;exact(sH (bXf a (a.K _ (Ax hc)) _)).2 _ _ ha
 | go hc ha hn b=>intro a;have:=b a;dsimp only;omega
 | vals hc ha hn b=>
  intro a;have h1:=(sH (bXf a (a.K _ (Ax hc)) _)).1 _ _ ha;have:=b a;dsimp only;omega
 | call hc ha hd hq hg h1 he h2 ih1 ih2=>
  intro a;have c:=ih1 (hp.row _ _ hq).1;have a2:=ih2 a;dsimp only;omega
 | jO hc ha hd hq hg h1 he ih1=>
  intro a;have c:=ih1 (hp.row _ _ hq).1;dsimp only;omega
 | deep hc ha hd=>intro _;exact Ae _ _
theorem Did.a0{p:hU}{lost d k:Nat}{c:gP}{a:List Nat}{s s2:iM}{e2:Int}{dc wd:Nat}{l:List Nat}(hp:iD p)(ha:a.length<=8)(h:Did p lost d c k a s s2 e2 dc wd l):s2.a0.length<=s.a0.length+9*(1+dc):=by
 cases h with
 | vals hv=>have:=(sH ha).1 _ _ hv;omega
 | trap hv=>have:=(sH ha).2 _ _ hv;omega
 | call hv hd hq hg h1=>have:=h1.a0 hp (hp.row _ _ hq).1;omega
 | deep hv hd=>omega
theorem Did.ok{p:hU}{lost d k:Nat}{c:gP}{a:List Nat}{s s2:iM}{e2:Int}{dc wd:Nat}{l:List Nat}(b:∀ (i:Nat) q,p.b0[i]? = Ak q->∀ c∈q.K,c.n<18446744073709551616)(hs:jh p.J s)(ha:ij a)(hn:c.n<18446744073709551616)(h:Did p lost d c k a s s2 e2 dc wd l):jh p.J s2/\ij l:=by
 cases h with
 | vals hv=>exact(sE hs ha hn).1 _ _ hv
 | trap hv=>exact⟨(sE hs ha hn).2 _ _ hv,nW⟩
 | call hv hd hq hg h1=>exact h1.ok b (b _ _ hq) hs (yK _ (pZ _ _ ha))
 | deep hv hd=>exact⟨hs,nW⟩
theorem fXm{p:hU}{r:gR}{s:iM}{R:jD}{c:gP}(h:Ev p lost d r k V s R)(hc:r.K[k]? = Ak c)(h1:c.op=276):R=⟨iw p.J r c V,s,0,1,0⟩:=
 h.one (.ret hc (by unfold iF;rw[gz h1]))
theorem fXn{p:hU}{r:gR}{s:iM}{R:jD}{c:gP}(h:Ev p lost d r k V s R)(hc:r.K[k]? = Ak c)(h1:c.op=277):R=⟨[],s,32,1,0⟩:=
 h.one (.trap hc (by unfold iF;rw[gy fu,gz h1]))
theorem fKe{p:hU}{k':Nat}{r:gR}{s:iM}{R:jD}{c:gP}(h:Ev p lost d r k V s R)(hc:r.K[k]? = Ak c)(ha:iF p.J c k (iw p.J r c V) s = .go k'):∃ R2,Ev p lost d r k' V s R2/\R=⟨R2.out,R2.s,R2.e,1+0+R2.a7,max 0 R2.kO⟩:=by
 cases h with
 | go a b hn=>rw[hc]at a;cases a;rw[ha]at b;cases b;exact⟨_,hn,fz⟩
 | ret a b=>rw[hc]at a;cases a;rw[ha]at b;cases b
 | trap a b=>rw[hc]at a;cases a;rw[ha]at b;cases b
 | vals a b hn=>rw[hc]at a;cases a;rw[ha]at b;cases b
 | call a b hd hq hg h1 he h2=>rw[hc]at a;cases a;rw[ha]at b;cases b
 | jO a b hd hq hg h1 he=>rw[hc]at a;cases a;rw[ha]at b;cases b
 | deep a b hd=>rw[hc]at a;cases a;rw[ha]at b;cases b
theorem eJa{e:ia}{c:gP}{s:iM}(h:c.op=273):iF e c k a s = .go (c.to.getD 0 0).toNat:=by
 unfold iF;rw[gy fu,gy fu,gz h]
theorem dVb{e:ia}{c:gP}{s:iM}(h:c.op=274):iF e c k a s = .go (if a.getD 0 0=0 then k+1 else(c.to.getD 0 0).toNat):=by
 unfold iF;rw[gy fu,gy fu,gy fu,gz h]
theorem bWe{e:ia}{c:gP}{s:iM}(h:c.op=275):iF e c k a s = .go (c.to.getD (min (a.getD 0 0) (c.to.length - 1)) 0).toNat:=by
 unfold iF;rw[gy fu,gy fu,gy fu,gy fu,gz h]
theorem eWd{e:ia}{r:gR}{c:gP}(V:List Nat)(a:iq e r)(b:c∈r.K)(d:c.op=276):(iw e r c V).length=r.a2.out.length:=by
 obtain⟨i,o,hf,h1,_⟩:=hY (a.K c b);have f:=hf;rw[d]at hf;have hf:(if c.n=0 then fT (r.a2.out,([]:List Int))else fS)=fT (i,o):=hf
 split at hf
 ·injection hf with hf;injection hf with h2 _;unfold iw jL;rw[f];show(ie i (jd V c.args)).length=_;rw[pY _ _ (by unfold jd;rw[BW];exact h1.symm),h2];unfold jd;rw[BW];exact h1
 ·cases hf
theorem Ev.fYg{p:hU}{r:gR}{s:iM}{R:jD}(h:Ev p lost d r k V s R)(b:iq p.J r)(a:R.e=0):R.out.length=r.a2.out.length:=by
 induction h with
 | ret hc ha=>
  obtain⟨f,rfl⟩:=sr ha;exact eWd _ b (Ax hc) f
 | trap hc ha=>exact gH a (qP ha)
 | go hc ha hn c=>exact c b a
 | vals hc ha hn c=>exact c b a
 | call hc ha hd hq hg h1 he h2 ih1 ih2=>exact ih2 b a
 | jO hc ha hd hq hg h1 he ih1=>exact gH a he
 | deep hc ha hd=>exact gH a (show ¬(37:Int)=0 by decide)
theorem Did.len{p:hU}{r:gR}{c:gP}{s s2:iM}{wd:Nat}(hp:iD p)(b:codeOk p.J r c=fU)(e:e2=0)(h:Did p lost d c k a s s2 e2 dc wd l):c.O.length<=l.length:=by
 cases h with
 | vals hv=>exact cQy hv b
 | trap hv=>exact gH e (qP hv)
 | @call n q g R hv hd hq hg h1=>
  have m:=(hp.row _ _ hq).1;rw[h1.fYg m e];obtain⟨f,rfl,t⟩:=rZ hv;obtain⟨q',g',j,u,v⟩:=ss hp f b t;rw[hq]at j;cases j;obtain⟨i,o,hf,_,w,_⟩:=hY b;rw[f]at hf;have hf:(p.J.R[c.n]?).map (fun g=>(g.a1,g.out))=Ak (i,o):=hf;rw[u]at hf;cases hf;rw[w,v];exact Aj _
 | deep hv hd=>exact gH e fy
theorem Ev.kO{p:hU}{lost d k:Nat}{r:gR}{V:List Nat}{s:iM}{R:jD}(hp:iD p)(h:Ev p lost d r k V s R):R.kO<=4096*(16 - d):=by
 induction h with
 | ret hc ha=>exact Ay _
 | trap hc ha=>exact Ay _
 | go hc ha hn a=>exact a
 | vals hc ha hn a=>exact a
 | call hc ha hd hq hg h1 he h2 ih1 ih2=>
  have:=(hp.row _ _ hq).1.p2;dsimp only;omega
 | jO hc ha hd hq hg h1 he ih1=>
  have:=(hp.row _ _ hq).1.p2;dsimp only;omega
 | deep hc ha hd=>exact Ay _
theorem Did.wd{p:hU}{lost d k:Nat}{c:gP}{a:List Nat}{s s2:iM}{e2:Int}{dc wd:Nat}{l:List Nat}(hp:iD p)(h:Did p lost d c k a s s2 e2 dc wd l):wd<=4096*(16 - d):=by
 cases h with
 | vals hv=>exact Ay _
 | trap hv=>exact Ay _
 | call hv hd hq hg h1=>
  have:=(hp.row _ _ hq).1.p2;have:=h1.kO hp;omega
 | deep hv hd=>exact Ay _
theorem cKi{e:ia}{c:gP}:(lG e c lost V).length=V.length:=by
 unfold lG zeroV
 split
 ·rw[Aa,Aw,Ac];omega
 ·rfl
theorem fXo{e:ia}{c:gP}(h:ij V):ij (lG e c lost V):=by
 unfold lG
 split
 ·exact aVe _ h
 ·exact h
theorem bXg{e:ia}{c:gP}(h:(zV e c=gh/\i=0)\/(zV e c=fU/\i=min lost V.length)):mO i V=lG e c lost V:=by
 unfold lG;rcases h with⟨h1,rfl⟩|⟨h1,h2⟩
 ·rw[gy (by rw[h1];decide)];rfl
 ·rw[gz h1];exact bWc h2
inductive j6 (p:hU) (lost d n:Nat) (g:iu) (a:List Nat) (s:iM):iM->Int->Nat->Nat->List Nat->Prop
 | host (hi:(n:Int)<p.J.G):j6 p lost d n g a s (iy n g.out (ie g.a1 a) s).2.2 (iy n g.out (ie g.a1 a) s).2.1 0 0 (iy n g.out (ie g.a1 a) s).1
 | deep (hi:¬(n:Int)<p.J.G) (hd:16<=d):j6 p lost d n g a s s 37 0 0 []
 | call {q:gR} {R:jD} (hi:¬(n:Int)<p.J.G) (hd:d<16) (hq:p.b0[n - p.J.G.toNat]? = Ak q) (h1:Ev p lost (d+1) q 0 (jb q (ie g.a1 a)) s R):j6 p lost d n g a s R.s R.e R.a7 (q.M.toNat+R.kO) R.out
theorem dKj{outs:List Int}{s:iM}(h:(iy n outs a s).2.1≠0):(iy n outs a s).1 = []:=by
 unfold iy at h ⊢
 split
 ·rename_i h1;rw[gz h1]at h;exact gH rfl h
 ·rfl
theorem Did.gQi{p:hU}{c:gP}{g:iu}{s s2:iM}{wd:Nat}(h:Did p lost d c k a s s2 e2 dc wd l)(e:c.op=16)(hg:p.J.R[c.n]? = Ak g)(f:ie g.a1 a=a):j6 p lost d c.n g a s s2 e2 dc wd l:=by
 have i:p.J.R.getD c.n ⟨[],[]⟩=g:=by rw[Av,hg];rfl
 cases h with
 | vals ha=>
  obtain⟨_,_,_,_,_,h1|h1⟩:=uZ ha
  ·obtain⟨_,hi,j⟩:=h1;have:=j6.host (p:=p) (lost:=lost) (d:=d) (n:=c.n) (g:=g) (a:=a) (s:=s) hi;rw[i]at j;rw[f,j]at this;exact this
  ·exact gH e h1.1
 | trap ha=>
  unfold iF at ha;rw[gy fu,gy fu,gy fu,gy fu,gy fu,gz e,i]at ha
  split at ha
  ·rename_i hi;dsimp only at ha
   split at ha
   ·cases ha
   ·rename_i o;injection ha with h1 h2;have:=j6.host (p:=p) (lost:=lost) (d:=d) (n:=c.n) (g:=g) (a:=a) (s:=s) hi;rw[f,dKj o,h1,h2]at this;exact this
  ·cases ha
 | call ha hd hq m h1=>
  obtain⟨_,rfl,b⟩:=rZ ha;rw[hg]at m;cases m;exact .call b hd hq h1
 | deep ha hd=>
  obtain⟨_,rfl,b⟩:=rZ ha;exact .deep b hd
theorem Did.gQj{p:hU}{c:gP}{s s2:iM}{wd:Nat}(h:Did p lost d c k a s s2 e2 dc wd l)(b:c.op≠16)(h1:c.op≠273)(h2:c.op≠274)(e:c.op≠275)(f:c.op≠276)(g:c.op≠277):
  s2=(jV c a s).2.2/\e2=(jV c a s).2.1/\dc=0/\wd=0/\(e2=0->l = [(jV c a s).1]):=by
 cases h with
 | vals ha=>
  obtain⟨_,_,_,_,_,hv|hv⟩:=uZ ha
  ·exact gH hv.1 b
  ·obtain⟨_,rfl,he,rfl⟩:=hv;exact⟨rfl,he.symm,rfl,rfl,fun _=>rfl⟩
 | trap ha=>
  have i:=qP ha;unfold iF at ha;rw[gy f,gy g,gy h1,gy h2,gy e,gy b]at ha;dsimp only at ha
  split at ha
  ·cases ha
  ·injection ha with j e2;exact⟨e2.symm,j.symm,rfl,rfl,fun h=>gH h i⟩
 | call ha=>exact gH (rZ ha).1 b
 | deep ha=>exact gH (rZ ha).1 b
structure iP where
 fi:Nat
 r:gR
 k:Nat
 V:List Nat
structure jP where
 st:List iP
 s:iM
 out:List Nat
 e:Int
 b1:Nat
 over:Bool
 first:Option (Nat×List Nat)
def cQu:gP:=⟨0,0,[],[],[]⟩
def uX(x:jP)(s:iM)(out:List Nat)(e:Int):jP:={ x with st:=[],s:=s,out:=if e=0 then out else x.out,e:=e,over:=fU }
def pF(x:jP)(out:List Nat):List iP->jP
 | []=>uX x x.s out 0
 | g :: rest=>{ x with st:={ g with V:=iS ((g.r.K[g.k - 1]?).getD cQu).O out (zeroV 8 g.V) } :: rest }
def lp(p:hU)(x:jP)(f:iP)(rest:List iP)(c:gP):mn->jP
 | .go k=>{ x with st:={ f with k:=k } :: rest }
 | .ret l=>pF x l rest
 | .vals l s=>{ x with st:={ f with k:=f.k+1,V:=iS c.O l f.V } :: rest,s:=s }
 | .trap e s=>uX x s [] e
 | .call n=>
  if 16<=rest.length+1 then uX x x.s [] 37
  else match p.b0[n - p.J.G.toNat]?,p.J.R[n]? with
   | some q,fT g=>{ x with st:=⟨n - p.J.G.toNat,q,0,jb q (ie g.a1 (iw p.J f.r c f.V))⟩ :: { f with k:=f.k+1 } :: rest }
   | _,_=>x
def nR(p:hU)(x:jP):jP:=match x.first with
 | some (n,a)=>
  let h:=iy n (p.J.R.getD n ⟨[],[]⟩).out (ie (p.J.R.getD n ⟨[],[]⟩).a1 a) x.s
  uX x h.2.2 h.1 h.2.1
 | none=>match x.st with
  | []=>x
  | f :: rest=>match f.r.K[f.k]? with
   | none=>x
   | some c=>lp p x f rest c (iF p.J c f.k (iw p.J f.r c f.V) x.s)
def kJ(p:hU)(x:jP):jP:=if x.over then x else nR p { x with b1:=x.b1+1 }
def jH(p:hU):Nat->jP->jP
 | 0,x=>x
 | k+1,x=>jH p k (kJ p x)
def ki(x:jP):Nat:=(x.st.map fun f=>f.V.length).sum
def lN(p:hU):Nat->jP->Nat
 | 0,_=>0
 | k+1,x=>max (ki x) (lN p k (kJ p x))
theorem bQz(p:hU)(i j:Nat)(x:jP):jH p (i+j) x=jH p j (jH p i x):=by
 induction i generalizing x with
 | zero=>rw[Bx];rfl
 | succ i a=>rw[BJ];exact a (kJ p x)
theorem eVv(p:hU)(i j:Nat)(x:jP):lN p (i+j) x=max (lN p i x) (lN p j (jH p i x)):=by
 induction i generalizing x with
 | zero=>rw[Bx];show _=max 0 _;rw[Nat.zero_max];rfl
 | succ i a=>
  rw[BJ];show max (ki x) (lN p (i+j) (kJ p x))=max (max (ki x) (lN p i (kJ p x))) (lN p j (jH p i (kJ p x)));rw[a,Nat.max_assoc]
theorem ri:∀ (os:List Int) (a V:List Nat),(iS os a V).length=V.length
 | [],a,V=>by cases a <;> rfl
 | o :: os,[],V=>rfl
 | o :: os,n :: a,V=>by rw[iS,ri,AK]
theorem aJr(lost:Nat)(V:List Nat):(zeroV lost V).length=V.length:=by
 unfold zeroV;rw[Aa,Aw,Ac];omega
theorem rj(r:gR)(a:List Nat):(jb r a).length=r.M.toNat:=by
 unfold jb;rw[ri,Aw]
theorem nS{p:hU}{x:jP}{f:iP}{rest:List iP}{c:gP}{A:mn}(a:x.over=gh)(hf:x.first=fS)(hs:x.st=f :: rest)(hc:f.r.K[f.k]? = fT c)(ha:iF p.J c f.k (iw p.J f.r c f.V) x.s=A):
  kJ p x=lp p { x with b1:=x.b1+1 } f rest c A:=by
 unfold kJ;rw[a];simp only[Ab,if_false];unfold nR;simp only[hf,hs,hc,ha]
def lu(x:jP)(rest:List iP)(R:jD):jP:=if R.e=0 then pF { x with b1:=x.b1+R.a7,s:=R.s } R.out rest else uX { x with b1:=x.b1+R.a7,s:=R.s } R.s [] R.e
theorem bXa{p:hU}{x:jP}(h:∀ j,j<i->(jH p j (kJ p x)).over=gh)(a:x.over=gh):∀ j,j<i+1->(jH p j x).over=gh
 | 0,_=>a
 | j+1,hj=>h j fu
theorem eXt{p:hU}{r:gR}{s:iM}{R:jD}(h:Ev p 8 d r k V s R):
  ∀ (x:jP) (fi:Nat) (rest:List iP),x.over=gh->x.first=fS->x.st=⟨fi,r,k,V⟩ :: rest->x.s=s->rest.length+1=d ->
   jH p R.a7 x=lu x rest R/\(∀ i,i<R.a7->(jH p i x).over=gh)/\lN p R.a7 x=ki x+R.kO:=by
 induction h with
 | @ret d r k V s c l hc ha=>
  intro x fi rest a hf b hs hd;have h1:=nS (p:=p) a hf b hc (hs ▸ ha);refine⟨?_,fun i hi=>?_,?_⟩
  ·show kJ p x=_;rw[h1];simp only[lp,lu,if_true];rw[<-hs]
  ·have:i=0:=(by have:i<1:=hi;omega);subst this;exact a
  ·show max (ki x) 0=_;simp
 | @trap d r k V s s' c e hc ha=>
  intro x fi rest a hf b hs hd;have h1:=nS (p:=p) a hf b hc (hs ▸ ha);refine⟨?_,fun i hi=>?_,?_⟩
  ·show kJ p x=_;rw[h1];simp only[lp,lu,gy (qP ha)];simp only[uX]
  ·have:i=0:=(by have:i<1:=hi;omega);subst this;exact a
  ·show max (ki x) 0=_;simp
 | @go d r k k' V s c R hc ha hn w=>
  intro x fi rest a hf b hs hd;have h1:=nS (p:=p) a hf b hc (hs ▸ ha);have h2:=w (kJ p x) fi rest (by rw[h1];exact a) (by rw[h1];exact hf) (by rw[h1];rfl) (by rw[h1];exact hs) hd;obtain⟨o,t,u⟩:=h2;have y:ki (kJ p x)=ki x:=(by rw[h1];simp only[lp,ki,b,Af]);have m:(1+R.a7:Nat)=R.a7+1:=Ah ..;refine⟨?_,fun i hi=>?_,?_⟩
  ·show jH p (1+R.a7) x=_;rw[m];show jH p R.a7 (kJ p x)=_;rw[o,h1];simp only[lu,lp,m,Ba]
   split <;> first|rfl|(cases rest <;> rfl)
  ·exact bXa (i:=R.a7) t a i (by have:i<1+R.a7:=hi;omega)
  ·show lN p (1+R.a7) x=ki x+R.kO;rw[m];show max (ki x) (lN p R.a7 (kJ p x))=_;rw[u,y];omega
 | @vals d r k V s s' c l R hc ha hn w=>
  intro x fi rest a hf b hs hd;have h1:=nS (p:=p) a hf b hc (hs ▸ ha);have h2:=w (kJ p x) fi rest (by rw[h1];exact a) (by rw[h1];exact hf) (by rw[h1];rfl) (by rw[h1];rfl) hd;obtain⟨o,t,u⟩:=h2;have y:ki (kJ p x)=ki x:=(by rw[h1];simp only[lp,ki,b,Af,ri]);have m:(1+R.a7:Nat)=R.a7+1:=Ah ..;refine⟨?_,fun i hi=>?_,?_⟩
  ·show jH p (1+R.a7) x=_;rw[m];show jH p R.a7 (kJ p x)=_;rw[o,h1];simp only[lu,lp,m,Ba]
   split <;> first|rfl|(cases rest <;> rfl)
  ·exact bXa (i:=R.a7) t a i (by have:i<1+R.a7:=hi;omega)
  ·show lN p (1+R.a7) x=ki x+R.kO;rw[m];show max (ki x) (lN p R.a7 (kJ p x))=_;rw[u,y];omega
 | @call d r q k n V s c g R1 R2 hc ha hd hq hg h1 he h2 ih1 ih2=>
  intro x fi rest a hf b hs z;have f:=nS (p:=p) a hf b hc (hs ▸ ha);have A:¬16<=rest.length+1:=fu;simp only[lp,gy A,hq,hg]at f;obtain⟨o,t,u⟩:=ih1 (kJ p x) (n - p.J.G.toNat) (⟨fi,r,k+1,V⟩ :: rest) (by rw[f];exact a) (by rw[f];exact hf) (by rw[f]) (by rw[f];exact hs) fw
  have v:jH p R1.a7 (kJ p x)={ x with b1:=x.b1+1+R1.a7,s:=R1.s,st:=⟨fi,r,k+1,iS c.O R1.out (zeroV 8 V)⟩ :: rest }:=by
   rw[o,f];simp only[lu,he,if_true,pF,BQ,hc,Option.getD_some]
  obtain⟨C,D,E⟩:=ih2 (jH p R1.a7 (kJ p x)) fi rest (by rw[v];exact a) (by rw[v];exact hf) (by rw[v]) (by rw[v]) z;have B:ki (kJ p x)=ki x+q.M.toNat:=(by rw[f];simp only[ki,b,Af,By,rj];omega);have F:ki (jH p R1.a7 (kJ p x))=ki x:=(by rw[v];simp only[ki,b,Af,By,ri,aJr]);have m:(1+R1.a7+R2.a7:Nat)=(R1.a7+R2.a7)+1:=fu;refine⟨?_,fun i hi=>?_,?_⟩
  ·show jH p (1+R1.a7+R2.a7) x=_;rw[m];show jH p (R1.a7+R2.a7) (kJ p x)=_;rw[bQz,C,v];simp only[lu];have e2:x.b1+1+R1.a7+R2.a7=x.b1+(R1.a7+R2.a7+1):=fu;rw[e2]
   split <;> first|rfl|(cases rest <;> rfl)
  ·refine bXa (i:=R1.a7+R2.a7) (fun j hj=>?_) a i (by have:i<1+R1.a7+R2.a7:=hi;omega);rcases BX j R1.a7 with h|h
   ·exact t j h
   ·have:=D (j - R1.a7) fu;rw[<-bQz]at this
    rwa[show R1.a7+(j - R1.a7)=j by omega]at this
  ·show lN p (1+R1.a7+R2.a7) x=ki x+max (q.M.toNat+R1.kO) R2.kO;rw[m];show max (ki x) (lN p (R1.a7+R2.a7) (kJ p x))=_;rw[eVv,u,E,B,F];omega
 | @jO d r q k n V s c g R1 hc ha hd hq hg h1 he ih1=>
  intro x fi rest a hf b hs z;have f:=nS (p:=p) a hf b hc (hs ▸ ha);have A:¬16<=rest.length+1:=fu;simp only[lp,gy A,hq,hg]at f;obtain⟨o,t,u⟩:=ih1 (kJ p x) (n - p.J.G.toNat) (⟨fi,r,k+1,V⟩ :: rest) (by rw[f];exact a) (by rw[f];exact hf) (by rw[f]) (by rw[f];exact hs) fw;have B:ki (kJ p x)=ki x+q.M.toNat:=(by rw[f];simp only[ki,b,Af,By,rj];omega);have m:(1+R1.a7:Nat)=R1.a7+1:=Ah ..;refine⟨?_,fun i hi=>?_,?_⟩
  ·show jH p (1+R1.a7) x=_;rw[m];show jH p R1.a7 (kJ p x)=_;rw[o,f];simp only[lu,he,if_false,uX]
   congr 1
   omega
  ·exact bXa (i:=R1.a7) t a i (by have:i<1+R1.a7:=hi;omega)
  ·show lN p (1+R1.a7) x=ki x+(q.M.toNat+R1.kO);rw[m];show max (ki x) (lN p R1.a7 (kJ p x))=_;rw[u,B];omega
 | @deep d r k n V s c hc ha hd=>
  intro x fi rest a hf b hs z;have h1:=nS (p:=p) a hf b hc (hs ▸ ha);have G:16<=rest.length+1:=fu;simp only[lp,gz G]at h1;refine⟨?_,fun i hi=>?_,?_⟩
  ·show kJ p x=_;rw[h1];simp only[lu,uX];rw[<-hs];rfl
  ·have:i=0:=(by have:i<1:=hi;omega);subst this;exact a
  ·show max (ki x) 0=_;simp
def kW(p:hU)(n:Nat)(a:List Nat)(s:iM):jP:=
 if(n:Int)<p.J.G then⟨[],s,[],0,0,gh,fT (n,a)⟩
 else match p.b0[n - p.J.G.toNat]?,p.J.R[n]? with
  | some q,fT g=>⟨[⟨n - p.J.G.toNat,q,0,jb q (ie g.a1 a)⟩],s,[],0,0,gh,fS⟩
  | _,_=>⟨[],s,[],0,0,gh,fS⟩
def qQ(p:hU)(n dc:Nat):Nat:=if(n:Int)<p.J.G then 1 else dc
theorem bVw{p:hU}{wd:Nat}{g:iu}{s s2:iM}(hg:p.J.R[n]? = fT g)(h:j6 p 8 0 n g a s s2 e2 dc wd l):
  jH p (qQ p n dc) (kW p n a s)=⟨[],s2,if e2=0 then l else[],e2,qQ p n dc,fU,(kW p n a s).first⟩/\(∀ i,i<qQ p n dc->(jH p i (kW p n a s)).over=gh)/\lN p (qQ p n dc) (kW p n a s)=wd:=by
 have c:p.J.R.getD n ⟨[],[]⟩=g:=by rw[Av,hg];rfl
 cases h with
 | host hi=>
  unfold qQ kW;simp only[gz hi];refine⟨?_,fun i h=>?_,?_⟩
  ·simp only[jH,kJ,nR,c,uX,Ab,if_false]
  ·have:i=0:=fu;subst this;rfl
  ·show max (ki _) 0=0;simp[ki]
 | deep hi hd=>omega
 | @call q R hi hd hq h1=>
  unfold qQ kW;simp only[gy hi,hq,hg];obtain⟨d,e,f⟩:=eXt h1 ⟨[⟨n - p.J.G.toNat,q,0,jb q (ie g.a1 a)⟩],s,[],0,0,gh,fS⟩ _ [] rfl rfl rfl rfl rfl;refine⟨?_,e,?_⟩
  ·rw[d];simp only[lu]
   split
   ·rename_i b;simp only[pF,uX,b,if_true,Bx]
   ·rename_i b;simp only[uX,b,if_false,Bx]
  ·rw[f];simp[ki,rj]
theorem oL{e:ia}(h:iH e=fU){g:iu}(hg:e.R[n]? = fT g):g.a1.length<=8/\g.out.length<=8:=by
 unfold iH at h;simp only[Ai,List.all_eq_true]at h;have:=h.2.2 g (Ax hg);unfold je lY at this;simp only[Ai,decide_eq_true_eq]at this;exact⟨this.1.1,this.2.1⟩
structure kH (p:hU) (f:iP):Prop where
 row:p.b0[f.fi]? = fT f.r
 k:f.k<f.r.K.length
 len:f.V.length=f.r.M.toNat
 a64:ij f.V
def jy:List iP->Prop
 | f :: g :: rest=>(∃ c,g.r.K[g.k - 1]? = fT c/\1<=g.k/\c.op=16/\c.O.length=f.r.a2.out.length)/\jy (g :: rest)
 | _=>True
theorem jy.tail{f:iP}{l:List iP}(h:jy (f :: l)):jy l:=by
 cases l with
 | nil=>trivial
 | cons g rest=>exact h.2
theorem jy.top{f f':iP}{l:List iP}(h:jy (f :: l))(a:f'.r=f.r):jy (f' :: l):=by
 cases l with
 | nil=>trivial
 | cons g rest=>
  obtain⟨⟨c,h1,h2,b,d⟩,e⟩:=h;exact⟨⟨c,h1,h2,b,by rw[a];exact d⟩,e⟩
structure ld (p:hU) (x:jP):Prop where
 nU:∀ f∈x.st,kH p f
 chain:jy x.st
 depth:x.st.length<=16
 st:jh p.J x.s
 mr:ij x.out
 nj:x.out.length<=200000
 live:x.over=gh->x.first=fS->x.st ≠ []
 nf:x.first≠fS->x.st = []
 fst:∀ n a,x.first=fT (n,a)->(n:Int)<p.J.G/\ij a/\∃ g,p.J.R[n]? = fT g/\a.length=g.a1.length
 fin:x.over=fU->x.st = []
 go:x.over=gh->x.out = []/\x.e=0
 a0:x.s.a0.length<=4096+9*x.b1
theorem bQy{p:hU}{x:jP}(h:ld p x){s:iM}{out:List Nat}{e:Int}(hs:jh p.J s)(a:ij out)(b:out.length<=200000)(c:s.a0.length<=4096+9*x.b1):ld p (uX x s out e) where
 nU:=fun f hf=>by simp[uX]at hf
 chain:=trivial
 depth:=Ay _
 st:=hs
 mr:=by show ij (if e=0 then out else x.out);split <;> first|exact a|exact h.mr
 nj:=by show(if e=0 then out else x.out).length<=_;split <;> first|exact b|exact h.nj
 live:=fun h=>by simp[uX]at h
 nf:=fun _=>rfl
 fst:=h.fst
 fin:=fun _=>rfl
 go:=fun h=>by simp[uX]at h
 a0:=c
theorem ld.tick{p:hU}{x:jP}(h:ld p x):ld p { x with b1:=x.b1+1 }:=
 { h with a0:=by have:=h.a0;show x.s.a0.length<=4096+9*(x.b1+1);omega }
theorem ld.stack{p:hU}{x:jP}(h:ld p x){st:List iP}{s:iM}(a:x.over=gh)(hf:x.first=fS)(b:st ≠ [])(h1:∀ f∈st,kH p f)(h2:jy st)(c:st.length<=16)(hs:jh p.J s)(d:s.a0.length<=4096+9*x.b1):ld p { x with st:=st,s:=s }:=
 { h with nU:=h1,chain:=h2,depth:=c,st:=hs,live:=fun _ _=>b,nf:=fun e=>gH hf e,fin:=fun e=>(by rw[show x.over=fU from e]at a;cases a),a0:=d }
theorem kH.at{p:hU}{f:iP}(h:kH p f)(a:k<f.r.K.length):kH p { f with k:=k }:=⟨h.row,a,h.len,h.a64⟩
theorem kH.put{p:hU}{f:iP}(h:kH p f)(a:k<f.r.K.length)(b:V.length=f.V.length)(ha:ij V):kH p { f with k:=k,V:=V }:=⟨h.row,a,b.trans h.len,ha⟩
theorem bVu{p:hU}{f:iP}{c:gP}(hp:iD p)(h:kH p f)(hc:f.r.K[f.k]? = fT c)(h1:c.op≠273)(h2:c.op≠274)(a:c.op≠275)(b:c.op≠276)(d:c.op≠277):f.k+1<f.r.K.length:=by
 have e:=yX (c:=c) (k:=f.k) h1 h2 a b d;have g:((f.k+1:Nat):Int)∈ib c f.k:=(by rw[e];simp);exact zW (hp.row _ _ h.row).1 hc g
theorem fXh{p:hU}{x:jP}{f:iP}{rest:List iP}{c:gP}(hp:iD p)(G:∀ (i:Nat) q,p.b0[i]? = Ak q->∀ c∈q.K,c.n<18446744073709551616)(a:ld p x)(u:x.over=gh)(hf:x.first=fS)(hs:x.st=f :: rest)(hc:f.r.K[f.k]? = fT c)(steps:Nat)(H:steps=x.b1+1):
  ld p (lp p { x with b1:=steps } f rest c (iF p.J c f.k (iw p.J f.r c f.V) x.s)):=by
 subst H;have h:=a.tick;have hF:=a.nU f (by rw[hs];exact AZ ..);have A:=(hp.row _ _ hF.row).1;have D:=Ax hc;have v:=A.K c D;have w:=vY p.J f.r c hF.a64;have I:=bXf A v f.V;have E:=sE (k:=f.k) a.st w (G _ _ hF.row c D);have F:=sH (e:=p.J) (c:=c) (k:=f.k) (s:=x.s) I;have aA:=a.a0;have y:=a.depth;rw[hs]at y;have d:∀ g∈rest,kH p g:=fun g hg=>a.nU g (by rw[hs];exact AV _ hg);have j:=a.chain;rw[hs]at j
 cases ha:iF p.J c f.k (iw p.J f.r c f.V) x.s with
 | go k=>
  obtain⟨hn,_⟩:=bXc ha v;have m:=zW A hc hn
  exact h.stack u hf fz (fun g hg=>by
   rcases List.mem_cons.1 hg with rfl|hg
   ·exact hF.at m
   ·exact d g hg) (j.top rfl) y h.st h.a0
 | ret l=>
  obtain⟨_,rfl⟩:=sr ha;show ld p (pF { x with b1:=x.b1+1 } (iw p.J f.r c f.V) rest)
  cases rest with
  | nil=>exact bQy h h.st w fu h.a0
  | cons g rest=>
   have B:=d g (AZ ..)
   exact h.stack u hf fz (fun q hq=>by
    rcases List.mem_cons.1 hq with rfl|hq
    ·exact B.put B.k ((ri _ _ _).trans (aJr _ _)) (pD _ _ _ w (aVe _ B.a64))
    ·exact d q (AV _ hq)) (j.tail.top rfl) (by simp at y ⊢;omega) h.st h.a0
 | vals l s=>
  obtain⟨h1,h2,J,K,L,_⟩:=uZ ha;have m:=bVu hp hF hc h1 h2 J K L;have hv:=E.1 l s ha;have M:=F.1 l s ha
  exact h.stack u hf fz (fun q hq=>by
   rcases List.mem_cons.1 hq with rfl|hq
   ·exact hF.put m (ri _ _ _) (pD _ _ _ hv.2 hF.a64)
   ·exact d q hq) (j.top rfl) y hv.1 (by show s.a0.length<=4096+9*(x.b1+1);omega)
 | trap e s=>
  have M:=F.2 e s ha;exact bQy h (E.2 e s ha) nW (Ay _) (by show s.a0.length<=4096+9*(x.b1+1);omega)
 | call n=>
  obtain⟨C,rfl,N⟩:=rZ ha;have m:=bVu hp hF hc fu fu fu fu fu;obtain⟨q,g,hq,hg,O⟩:=ss hp C v N;show ld p (if 16<=rest.length+1 then _ else _);by_cases hd:16<=rest.length+1
  ·rw[gz hd];exact bQy h h.st nW (Ay _) h.a0
  ·rw[gy hd];simp only[hq,hg];have P:=(hp.row _ _ hq).1;refine h.stack u hf fz (fun z t=>?_) ⟨⟨c,?_,fz,C,?_⟩,j.top rfl⟩ fw h.st h.a0
   ·rcases List.mem_cons.1 t with rfl|t
    ·exact⟨hq,Aq Nat.one_pos P.n1,rj _ _,yK _ (pZ _ _ w)⟩
    ·rcases List.mem_cons.1 t with rfl|t
     ·exact hF.at m
     ·exact d z t
   ·show f.r.K[f.k+1 - 1]? = fT c;rw[BQ];exact hc
   ·obtain⟨i,o,b,_,Q,_⟩:=hY v;rw[C]at b;have b:(p.J.R[c.n]?).map (fun g=>(g.a1,g.out))=fT (i,o):=b;rw[hg]at b;injection b with b;injection b with e1 e2;rw[Q,<-e2,O]
theorem eXs{p:hU}{x:jP}(hp:iD p)(b:∀ (i:Nat) q,p.b0[i]? = Ak q->∀ c∈q.K,c.n<18446744073709551616)(h:ld p x):ld p (kJ p x):=by
 cases ho:x.over with
 | true=>
  unfold kJ;rw[ho];exact h
 | false=>
  rcases hf:x.first with _|⟨n,a⟩
  ·rcases hs:x.st with _|⟨f,rest⟩
   ·exact gH hs (h.live ho hf)
   ·have hF:=h.nU f (by rw[hs];exact AZ ..);rw[nS ho hf hs (Az hF.k) rfl];exact fXh hp b h ho hf hs (Az hF.k) _ rfl
  ·unfold kJ nR;obtain⟨hi,ha,g,hg,af⟩:=h.fst n a hf;have d:p.J.R.getD n ⟨[],[]⟩=g:=(by rw[Av,hg];rfl);simp only[ho,hf,d,Ab,if_false];have hn:n<18446744073709551616:=(by have:=kY hp.J;omega);have h1:=sC (n:=n) (outs:=g.out) h.st (pZ g.a1 _ ha) hn;have j:=oL hp.J hg;have h2:=bQb (n:=n) (outs:=g.out) (s:=x.s) (a:=ie g.a1 a) (Ag (sI _ _) j.1);have h3:=h.a0
   have l:=bQy h.tick (e:=(iy n g.out (ie g.a1 a) x.s).2.1) h1.1 h1.2 (by
    unfold iy
    split
    ·show(ie g.out _).length<=_;have:=sI g.out (x.s.input.take g.out.length);omega
    ·exact Ay _) (by show _<=4096+9*(x.b1+1);omega)
   rw[show(fT (n,a):Option (Nat×List Nat))=x.first from hf.symm];exact l
theorem cQt{p:hU}(hp:iD p)(a:∀ (i:Nat) q,p.b0[i]? = Ak q->∀ c∈q.K,c.n<18446744073709551616):∀ (i:Nat) {x:jP},ld p x->ld p (jH p i x)
 | 0,_,h=>h
 | i+1,_,h=>cQt hp a i (eXs hp a h)
theorem dJz{p:hU}{x:jP}:(nR p x).b1=x.b1:=by
 unfold nR
 split
 ·rfl
 ·split
  ·rfl
  ·split
   ·rfl
   ·rename_i f rest _ _ c _;generalize iF p.J c f.k (iw p.J f.r c f.V) x.s=A
    cases A with
    | ret l=>cases rest <;> rfl
    | call n=>
     show(if _ then _ else _:jP).b1=_
     split
     ·rfl
     ·split <;> rfl
    | _=>rfl
theorem cJf{p:hU}{x:jP}(h:x.over=gh):(kJ p x).b1=x.b1+1:=by
 unfold kJ;rw[h];simp only[Ab,if_false];exact dJz
theorem bVv{p:hU}:∀ (i:Nat) {x:jP},(∀ j,j<i->(jH p j x).over=gh)->(jH p i x).b1=x.b1+i
 | 0,_,_=>rfl
 | i+1,x,h=>by
  have h1:=bVv i (x:=kJ p x) (fun j hj=>h (j+1) fu);show(jH p i (kJ p x)).b1=_;rw[h1,cJf (x:=x) (h 0 fu)];omega
structure iO where
 w0:Bc
 a:Bd
 b:Bd
 d:Bd
 f:Bd
 p:hU
 mm:Nat
 cb:Nat
 gv:Bd
 fv:Bd
 nb:Nat
 ab:Nat
 av:Bd
 zf:Nat
 jU:Nat
structure iL where
 x:jP
 a8:Nat->Nat
 lv:Bd
 iv:Bd
 mv:Bd
 sv:Bd
 ov:Bd
 ps:List Bd
structure KK (X X':iL) (w w':Bc):Prop where
 os:w'.os=w.os
 tape:w'.tape=w.tape
 output:w'.output=w.output
 size:w.heap.size<=w'.heap.size
 keep:∀ k,k<w.heap.size->X.a8 k=0->w'.heap[k]? = w.heap[k]? /\ X'.a8 k=0
theorem KK.refl(X:iL)(w:Bc):KK X X w w:=⟨rfl,rfl,rfl,Aj _,fun _ _ h=>⟨rfl,h⟩⟩
theorem KK.trans{x y z:iL}{w1 w2 a:Bc}(h:KK x y w1 w2)(k:KK y z w2 a):KK x z w1 a:=
 ⟨k.os.trans h.os,k.tape.trans h.tape,k.output.trans h.output,Ag h.size k.size,fun i hi b=>by
  have h1:=h.keep i hi b;have h2:=k.keep i (Aq hi h.size) h1.2
  exact⟨h2.1.trans h1.1,h2.2⟩⟩
theorem KK.jN{x:iL}(h:Be w.heap.size w w'):KK x x w w':=⟨h.os,h.tape,h.output,h.size,fun k a b=>⟨h.block k a,b⟩⟩
theorem KK.C{z x:iL}(h:KK z x w0 w)(a:Be w.heap.size w w'):KK z x w0 w':=h.trans (KK.jN a)
theorem KK.drew{z x:iL}{w0 w:Bc}(h:KK z x w0 w):KK z x w0 w.drew:=h.C (Ad _ _).drew
theorem KK.to{x x' y:iL}(h:KK x x' w w')(h1:y.a8=x'.a8):KK x y w w':=
 ⟨h.os,h.tape,h.output,h.size,fun k a b=>⟨(h.keep k a b).1,by rw[h1];exact(h.keep k a b).2⟩⟩
theorem KK.from{x y x':iL}(h:KK x x' w w')(h1:y.a8=x.a8):KK y x' w w':=
 ⟨h.os,h.tape,h.output,h.size,fun k a b=>h.keep k a (by rw[<-h1];exact b)⟩
theorem KK.set{x y z:iL}(h:KK z x w0 w)(i:Nat)(u:Bd)(hg:x.a8 g≠0\/w0.heap.size<=g)(a:y.a8=x.a8):KK z y w0 (w.setCell ⟨g,i,fS⟩ u):=
 ⟨h.os,h.tape,h.output,Ag h.size (by simp[AY]),fun k b c=>by
  have h2:=h.keep k b c;refine⟨(AJ _ _ _ _ (fun e=>?_)).trans h2.1,by rw[a];exact h2.2⟩;have e:k=g:=e;subst e;rcases hg with hg|hg
  ·exact hg h2.2
  ·omega⟩
theorem KK.grown{x z:iL}{r:Option Nat}(h:KK z x w0 w)(hg:w.grownBy w' r)(c:∀ k,r=fT k->x.a8 k≠0\/w0.heap.size<=k):KK z x w0 w':=
 ⟨hg.os.trans h.os,hg.tape.trans h.tape,hg.output.trans h.output,Ag h.size hg.size,fun k a d=>by
  have h2:=h.keep k a d;refine⟨(hg.block k (Aq a h.size) (fun e=>?_)).trans h2.1,h2.2⟩;rcases c k e.symm with b|b
  ·exact b h2.2
  ·omega⟩
theorem KK.a9{x x':iL}(h:KK x x' w w'){cs:Array Bd}(k:gO w g e cs)(a:x.a8 g=0):gO w' g e cs:=((h.keep g k.lt a).1).trans k
theorem KK.ur{x x':iL}(h:KK x x' w w')(k:UR w v l)(a:∀ g,v.ownBlock=fT g->x.a8 g=0):UR w' v l:=
 k.heap h.size (fun g hg b=>(h.keep g b (a g hg)).1)
def mY(lab:Nat->Nat)(v:Bd)(c:Nat):Nat->Nat:=fun k=>if v.ownBlock=fT k then c else lab k
theorem zJ{lab:Nat->Nat}{c:Nat}(h:v.ownBlock=fT k):mY lab v c k=c:=by unfold mY;rw[gz h]
theorem uK{lab:Nat->Nat}{c:Nat}(h:v.ownBlock≠fT k):mY lab v c k=lab k:=by unfold mY;rw[gy h]
theorem KK.lH{x z:iL}(h:KK z x w0 w){c:Nat}(hv:∀ k,v.ownBlock=fT k->w0.heap.size<=k\/x.a8 k≠0):KK z { x with a8:=mY x.a8 v c } w0 w:=
 ⟨h.os,h.tape,h.output,h.size,fun k b d=>by
  have h2:=h.keep k b d;refine⟨h2.1,?_⟩;show mY x.a8 v c k=0;rw[uK]
  ·exact h2.2
  ·intro e;rcases hv k e with a|a
   ·omega
   ·exact a h2.2⟩
def ja(C:iO)(X:iL):Array Bd:=#[C.a,fF fM C.p.J.G,C.b,C.d,fH C.p.J.L,C.f,X.mv,fF fM X.x.s.Y,C.gv,fF fM (X.x.s.U:Int),X.iv,X.lv,X.sv,X.ov,fF fM X.x.e,fF fM (X.x.b1:Int),fH X.x.over,C.fv]
def yQ(C:iO)(f:iP)(v:Bd):List Bd:=[fI (fT ⟨C.zf,C.jU+f.fi*5,fS⟩),fF fM (f.k:Int),v]
def iz(C:iO):List iP->List Bd->List Bd
 | f :: l,v :: vs=>iz C l vs++yQ C f v
 | _,_=>[]
def kv(w:Bc)(base:Nat)(lab:Nat->Nat):List iP->List Bd->Prop
 | f :: l,v :: vs=>(w.ownsRow base 52 1 v f.V.length (hH f.V)/\∀ k,v.ownBlock=fT k->lab k=10+l.length)/\kv w base lab l vs
 | [],[]=>True
 | _,_=>False
theorem kv.len{w:Bc}{base:Nat}{lab:Nat->Nat}:∀ {l:List iP} {vs:List Bd},kv w base lab l vs->vs.length=l.length
 | [],[],_=>rfl
 | f :: l,v :: vs,h=>by simp[kv.len h.2]
 | [],_ :: _,h=>h.elim
 | _ :: _,[],h=>h.elim
theorem kv.heap{w w':Bc}{base:Nat}{lab c:Nat->Nat}:∀ {l:List iP} {vs:List Bd},kv w base lab l vs->(∀ k,10<=lab k->lab k<10+l.length->k<w.heap.size->w'.heap[k]? = w.heap[k]? /\ c k=lab k)->kv w' base c l vs
 | [],[],_,_=>trivial
 | f :: l,v :: vs,h,b=>by
  refine⟨⟨yW h.1.1 (fun k a d=>(b k (by rw[h.1.2 k a];omega) (by rw[h.1.2 k a];simp) d).1),fun k a=>?_⟩,h.2.heap (fun k h1 h2=>b k h1 fw)⟩;rw[(b k (by rw[h.1.2 k a];omega) (by rw[h.1.2 k a];simp) (h.1.1.lt k a).2).2,h.1.2 k a]
 | [],_ :: _,h,_=>h.elim
 | _ :: _,[],h,_=>h.elim
theorem rl(C:iO):∀ {l:List iP} {vs:List Bd},vs.length=l.length->(iz C l vs).length=l.length*3
 | [],[],_=>rfl
 | f :: l,v :: vs,h=>by
  have:=rl C (l:=l) (vs:=vs) (by simpa using h);simp[iz,yQ,this];omega
 | [],_ :: _,h=>by simp at h
 | _ :: _,[],h=>by simp at h
def nk(C:iO)(lab:Nat->Nat)(w:Bc):Option (Nat×List Nat)->Prop
 | none=>C.fv = .nilFunc
 | some (n,a)=>(∃ fn ca,C.fv = .func fn #[] ca)/\gO w C.nb 3 #[fF fM (n:Int)]/\gO w C.ab 30 #[C.av]/\UR w C.av a/\lab C.nb=9/\lab C.ab=9/\∀ k,C.av.ownBlock=fT k->lab k=9
structure jl (C:iO) (X:iL) (w:Bc):Prop where
 bel:Be C.w0.heap.size C.w0 w
 lb:∀ k,X.a8 k≠0->C.w0.heap.size<=k/\k<w.heap.size
 cl:X.a8 C.cb=1
 mm:gO w C.mm 70 #[fI (fT ⟨C.cb,0,fS⟩)]
 ml:X.a8 C.mm=2
 kq:w.ownsRow C.w0.heap.size 52 1 C.gv X.x.s.E.length (hH X.x.s.E)
 l3:∀ k,C.gv.ownBlock=fT k->X.a8 k=3
 a0:w.ownsRow C.w0.heap.size 52 1 X.lv X.x.s.a0.length (hH X.x.s.a0)
 l4:∀ k,X.lv.ownBlock=fT k->X.a8 k=4
 inp:UR w X.iv X.x.s.input
 l5:∀ k,X.iv.ownBlock=fT k->X.a8 k=5
 L:BR w X.mv X.x.s.L
 l6:∀ k,X.mv.ownBlock=fT k->X.a8 k=6
 stk:w.ownsRow C.w0.heap.size 83 3 X.sv X.x.st.length (iz C X.x.st X.ps)
 l7:∀ k,X.sv.ownBlock=fT k->X.a8 k=7
 out:UR w X.ov X.x.out
 l8:∀ k,X.ov.ownBlock=fT k->X.a8 k=8
 fst:nk C X.a8 w X.x.first
 mP:kv w C.w0.heap.size X.a8 X.x.st X.ps
structure gU (C:iO) (X:iL) (w:Bc):Prop extends jl C X w where
 cb:gO w C.cb 68 (ja C X)
structure KC (C:iO):Prop where
 rows:jf C.w0 (.agg #[C.a,fF fM C.p.J.G,C.b,C.d,fH C.p.J.L,C.f]) C.p
 ok:iD C.p
 adr:C.p.b0 ≠ []->∃ n c,C.f = fG (fT ⟨C.zf,C.jU,fS⟩) n c
theorem nk.heap{C:iO}{lab d:Nat->Nat}{w w':Bc}{o:Option (Nat×List Nat)}(h:nk C lab w o)(hs:w.heap.size<=w'.heap.size)(b:∀ k,lab k=9->w'.heap[k]? = w.heap[k]? /\ d k=9):nk C d w' o:=by
 cases o with
 | none=>exact h
 | some x=>
  obtain⟨n,a⟩:=x;obtain⟨h1,h2,i,j,e,f,g⟩:=h;exact⟨h1,(b _ e).1.trans h2,(b _ f).1.trans i,j.heap hs (fun k c _=>(b k (g k c)).1),(b _ e).2,(b _ f).2,fun k c=>(b k (g k c)).2⟩
theorem jl.but{C:iO}{X Y:iL}(h:jl C X w)(c:Nat)(hs:w.heap.size<=w'.heap.size)(u:Be C.w0.heap.size C.w0 w')(d:∀ k,X.a8 k≠0->X.a8 k≠c->w'.heap[k]? = w.heap[k]?)
  (y:∀ k,Y.a8 k≠0->C.w0.heap.size<=k/\k<w'.heap.size) (f:∀ k,X.a8 k≠0->X.a8 k≠c->Y.a8 k=X.a8 k)
  (c1:Y.a8 C.cb=1) (i:c≠2)
  (l:c=3/\(w'.ownsRow C.w0.heap.size 52 1 C.gv Y.x.s.E.length (hH Y.x.s.E)/\∀ k,C.gv.ownBlock=fT k->Y.a8 k=3)\/c≠3/\Y.x.s.E=X.x.s.E)
  (m:c=4/\(w'.ownsRow C.w0.heap.size 52 1 Y.lv Y.x.s.a0.length (hH Y.x.s.a0)/\∀ k,Y.lv.ownBlock=fT k->Y.a8 k=4)\/c≠4/\Y.lv=X.lv/\Y.x.s.a0=X.x.s.a0)
  (n:c=5/\(UR w' Y.iv Y.x.s.input/\∀ k,Y.iv.ownBlock=fT k->Y.a8 k=5)\/c≠5/\Y.iv=X.iv/\Y.x.s.input=X.x.s.input)
  (o:c=6/\(BR w' Y.mv Y.x.s.L/\∀ k,Y.mv.ownBlock=fT k->Y.a8 k=6)\/c≠6/\Y.mv=X.mv/\Y.x.s.L=X.x.s.L)
  (p:(w'.ownsRow C.w0.heap.size 83 3 Y.sv Y.x.st.length (iz C Y.x.st Y.ps)/\∀ k,Y.sv.ownBlock=fT k->Y.a8 k=7)\/c≠7/\Y.sv=X.sv/\Y.x.st.length=X.x.st.length/\iz C Y.x.st Y.ps=iz C X.x.st X.ps)
  (r:c=8/\(UR w' Y.ov Y.x.out/\∀ k,Y.ov.ownBlock=fT k->Y.a8 k=8)\/c≠8/\Y.ov=X.ov/\Y.x.out=X.x.out)
  (g:c≠9/\Y.x.first=X.x.first)
  (e10:kv w' C.w0.heap.size Y.a8 Y.x.st Y.ps\/c<10/\Y.x.st=X.x.st/\Y.ps=X.ps):jl C Y w':=by
 have q:∀ {v:Bd} {j:Nat},(∀ k,v.ownBlock=fT k->X.a8 k=j)->j≠0->j≠c->(∀ k,v.ownBlock=fT k->k<w.heap.size->w'.heap[k]? = w.heap[k]?)/\∀ k,v.ownBlock=fT k->Y.a8 k=j:=fun b h1 h2=>
  ⟨fun k a _=>d k (by rw[b k a];exact h1) (by rw[b k a];exact h2),fun k a=>by rw[f k (by rw[b k a];exact h1) (by rw[b k a];exact h2)];exact b k a⟩
 refine⟨u,y,c1,?_,?_,?_,?_,?_,?_,?_,?_,?_,?_,?_,?_,?_,?_,?_,?_⟩
 ·exact(d C.mm (by rw[h.ml];decide) (by rw[h.ml];exact fun e=>i e.symm)).trans h.mm
 ·rw[f C.mm (by rw[h.ml];decide) (by rw[h.ml];exact fun e=>i e.symm)];exact h.ml
 ·rcases l with⟨_,e⟩|⟨hc,e⟩
  ·exact e.1
  ·rw[e];exact yW h.kq (q h.l3 fy (fun e=>hc e.symm)).1
 ·rcases l with⟨_,e⟩|⟨hc,e⟩
  ·exact e.2
  ·exact(q h.l3 fy (fun e=>hc e.symm)).2
 ·rcases m with⟨_,e⟩|⟨hc,e,e'⟩
  ·exact e.1
  ·rw[e,e'];exact yW h.a0 (q h.l4 fy (fun e=>hc e.symm)).1
 ·rcases m with⟨_,e⟩|⟨hc,e,e'⟩
  ·exact e.2
  ·rw[e];exact(q h.l4 fy (fun e=>hc e.symm)).2
 ·rcases n with⟨_,e⟩|⟨hc,e,e'⟩
  ·exact e.1
  ·rw[e,e'];exact h.inp.heap hs (q h.l5 fy (fun e=>hc e.symm)).1
 ·rcases n with⟨_,e⟩|⟨hc,e,e'⟩
  ·exact e.2
  ·rw[e];exact(q h.l5 fy (fun e=>hc e.symm)).2
 ·rcases o with⟨_,e⟩|⟨hc,e,e'⟩
  ·exact e.1
  ·rw[e,e'];exact h.L.heap hs (q h.l6 fy (fun e=>hc e.symm)).1
 ·rcases o with⟨_,e⟩|⟨hc,e,e'⟩
  ·exact e.2
  ·rw[e];exact(q h.l6 fy (fun e=>hc e.symm)).2
 ·rcases p with e|⟨hc,e,e',t⟩
  ·exact e.1
  ·rw[e,e',t];exact yW h.stk (q h.l7 fy (fun e=>hc e.symm)).1
 ·rcases p with e|⟨hc,e,e',t⟩
  ·exact e.2
  ·rw[e];exact(q h.l7 fy (fun e=>hc e.symm)).2
 ·rcases r with⟨_,e⟩|⟨hc,e,e'⟩
  ·exact e.1
  ·rw[e,e'];exact h.out.heap hs (q h.l8 fy (fun e=>hc e.symm)).1
 ·rcases r with⟨_,e⟩|⟨hc,e,e'⟩
  ·exact e.2
  ·rw[e];exact(q h.l8 fy (fun e=>hc e.symm)).2
 ·rw[g.2];exact h.fst.heap hs (fun k a=>⟨d k (by rw[a];decide) (by rw[a];exact fun e=>g.1 e.symm),by rw[f k (by rw[a];decide) (by rw[a];exact fun e=>g.1 e.symm)];exact a⟩)
 ·rcases e10 with e|⟨hc,e,e'⟩
  ·exact e
  ·rw[e,e'];exact h.mP.heap (fun k h1 _ _=>⟨d k fu fu,f k fu fu⟩)
theorem gU.heap{C:iO}{X:iL}{w w':Bc}(h:gU C X w)(hs:w.heap.size<=w'.heap.size)(a:∀ k,X.a8 k≠0->w'.heap[k]? = w.heap[k]?)(c:Be C.w0.heap.size C.w0 w'):gU C X w':=
 { h.tojl.but (Y:=X) 0 hs c (fun k h1 _=>a k h1) (fun k b=>⟨(h.lb k b).1,Aq (h.lb k b).2 hs⟩) (fun _ _ _=>rfl) h.cl fy (fR ⟨fy,rfl⟩) (fR ⟨fy,rfl,rfl⟩) (fR ⟨fy,rfl,rfl⟩) (fR ⟨fy,rfl,rfl⟩) (fR ⟨fy,rfl,rfl,rfl⟩) (fR ⟨fy,rfl,rfl⟩) ⟨fy,rfl⟩ (fR ⟨fy,rfl,rfl⟩)with
  cb:=(a C.cb (by rw[h.cl];decide)).trans h.cb }
theorem gU.C{C:iO}{X:iL}(h:gU C X w)(a:Be w.heap.size w w'):gU C X w':=
 h.heap a.size (fun k b=>a.block k (h.lb k b).2) (h.bel.trans (a.mono h.bel.size))
theorem gU.drewN{C:iO}{X:iL}{w:Bc}(h:gU C X w)(n:Nat):gU C X (w.drewN n):=h.C (fK (Ad _ _) n)
theorem gU.drew{C:iO}{X:iL}{w:Bc}(h:gU C X w):gU C X w.drew:=h.C (Ad _ _).drew
theorem gU.pG{C:iO}{X:iL}(h:gU C X w)(u:Bd)(hg:X.a8 g=0)(a:C.w0.heap.size<=g):gU C X (w.setCell ⟨g,i,fS⟩ u):=
 h.heap (by simp[AY]) (fun k b=>AJ _ _ _ _ (fun e=>b (by have:k=g:=e;rw[this];exact hg))) (h.bel.setCell (p:=⟨g,i,fS⟩) a _)
theorem gU.a6{C:iO}{X:iL}(h:jl C X w)(hk:w.heap.size<=k):X.a8 k=0:=by
 by_cases a:X.a8 k=0
 ·exact a
 ·have:=(h.lb k a).2;omega
theorem jl.lH{C:iO}{X:iL}(h:jl C X w)(v:Bd)(c:Nat)(hv:∀ k,v.ownBlock=fT k->X.a8 k=0/\C.w0.heap.size<=k/\k<w.heap.size):jl C { X with a8:=mY X.a8 v c } w:=by
 have b:∀ k,X.a8 k≠0->mY X.a8 v c k=X.a8 k:=fun k a=>uK (fun e=>a (hv k e).1);refine h.but (Y:={ X with a8:=mY X.a8 v c }) 0 (Aj _) h.bel (fun _ _ _=>rfl) (fun k a=>?_) (fun k a _=>b k a) ((b _ (by rw[h.cl];decide)).trans h.cl) fy (fR ⟨fy,rfl⟩) (fR ⟨fy,rfl,rfl⟩) (fR ⟨fy,rfl,rfl⟩) (fR ⟨fy,rfl,rfl⟩) (fR ⟨fy,rfl,rfl,rfl⟩) (fR ⟨fy,rfl,rfl⟩) ⟨fy,rfl⟩ (fR ⟨fy,rfl,rfl⟩);have a:mY X.a8 v c k≠0:=a;by_cases e:v.ownBlock=fT k
 ·exact(hv k e).2
 ·rw[uK e]at a;exact h.lb k a
theorem gU.lH{C:iO}{X:iL}{w:Bc}(h:gU C X w)(v:Bd)(c:Nat)(hv:∀ k,v.ownBlock=fT k->X.a8 k=0/\C.w0.heap.size<=k/\k<w.heap.size):gU C { X with a8:=mY X.a8 v c } w:=
 { h.tojl.lH v c hv with cb:=h.cb }
theorem jl.fYb{C:iO}{Y:iL}(a:jl C Y w){cs:Array Bd}(f:gO w C.cb 68 cs)(i:Nat)(u:Bd)(hc:cs.setIfInBounds i u=ja C Y):gU C Y (w.setCell ⟨C.cb,i,fS⟩ u):=by
 have g:C.w0.heap.size<=C.cb:=(a.lb C.cb (by rw[a.cl];decide)).1;have b:w.heap.size<=(w.setCell ⟨C.cb,i,fS⟩ u).heap.size:=(by simp[AY]);have h:∀ k,Y.a8 k≠0->Y.a8 k≠1->(w.setCell ⟨C.cb,i,fS⟩ u).heap[k]? = w.heap[k]?:=fun k _ h1=>AJ _ _ _ _ (fun e=>h1 (by have:k=C.cb:=e;rw[this];exact a.cl));have c:=fY f i u;rw[hc]at c;exact { a.but (Y:=Y) 1 b (a.bel.setCell (p:=⟨C.cb,i,fS⟩) g _) h (fun k d=>⟨(a.lb k d).1,Aq (a.lb k d).2 b⟩) (fun _ _ _=>rfl) a.cl fy (fR ⟨fy,rfl⟩) (fR ⟨fy,rfl,rfl⟩) (fR ⟨fy,rfl,rfl⟩) (fR ⟨fy,rfl,rfl⟩) (fR ⟨fy,rfl,rfl,rfl⟩) (fR ⟨fy,rfl,rfl⟩) ⟨fy,rfl⟩ (fR ⟨fy,rfl,rfl⟩)with cb:=c }
theorem gU.n9{C:iO}{X Y:iL}(h:gU C X w)(a:jl C Y w)(i:Nat)(u:Bd)(hc:(ja C X).setIfInBounds i u=ja C Y):gU C Y (w.setCell ⟨C.cb,i,fS⟩ u):=a.fYb h.cb i u hc
theorem gU.cell{C:iO}{X:iL}{w:Bc}(h:gU C X w)(i:Nat):w.cell? ⟨C.cb,i,fS⟩=(ja C X)[i]?:=h.cb.cell i
theorem gU.fWi{C:iO}{X:iL}(h:gU C X w):w.cell? ⟨C.mm,0,fS⟩=fT (fI (fT ⟨C.cb,0,fS⟩)):=h.mm.cell 0
theorem eZd{base size cap:Nat}{b:List Bd}(h:w.ownsRow base e size (fG (fT ⟨g,0,fS⟩) n cap) n b){m:Nat}(c:m<=n):w.ownsRow base e size (fG (fT ⟨g,0,fS⟩) m cap) m (b.take (m*size)):=by
 have d:m*size<=n*size:=Nat.mul_le_mul_right size c;rcases h.2 with⟨h1,_⟩|⟨g',ae,cur,h1,f,hg,ah,i,j,k⟩
 ·cases h1
 ·injection h1 with a e2 l;injection a with a;injection a with a;subst a;subst l;refine⟨?_,fR ⟨g,cap,cur,rfl,f,hg,fu,i,j,?_⟩⟩
  ·rw[BZ,h.1];omega
  ·rw[<-k,List.take_take,BV d]
theorem kv.cons{base:Nat}{lab:Nat->Nat}{f:iP}{l:List iP}:∀ {ps:List Bd},kv w base lab (f :: l) ps->∃ v vs,ps=v :: vs
 | v :: vs,_=>⟨v,vs,rfl⟩
 | [],h=>h.elim
theorem jl.same{C:iO}{X:iL}(h:jl C X w)(Y:iL)(a:Y.a8=X.a8:=by rfl)(c:Y.x.s.E=X.x.s.E:=by rfl)(d:Y.lv=X.lv:=by rfl)(e:Y.x.s.a0=X.x.s.a0:=by rfl)(f:Y.iv=X.iv:=by rfl)(g:Y.x.s.input=X.x.s.input:=by rfl)
  (i:Y.mv=X.mv:=by rfl) (j:Y.x.s.L=X.x.s.L:=by rfl) (l:Y.sv=X.sv:=by rfl) (b:Y.x.st=X.x.st:=by rfl) (m:Y.ov=X.ov:=by rfl) (n:Y.x.out=X.x.out:=by rfl) (o:Y.x.first=X.x.first:=by rfl) (e10:Y.ps=X.ps:=by rfl):jl C Y w:=
 h.but 0 (Aj _) h.bel (fun _ _ _=>rfl) (fun k p=>h.lb k (by rw[<-a];exact p)) (fun k _ _=>by rw[a]) (by rw[a];exact h.cl) fy (fR ⟨fy,c⟩) (fR ⟨fy,d,e⟩) (fR ⟨fy,f,g⟩) (fR ⟨fy,i,j⟩) (fR ⟨fy,l,by rw[b],by rw[b,e10]⟩) (fR ⟨fy,m,n⟩) ⟨fy,o⟩ (fR ⟨fy,b,e10⟩)
theorem gU.nl{C:iO}{X:iL}(h:jl C X w):X.a8 C.cb≠0:=by rw[h.cl];decide
theorem gU.fYp{C:iO}{X:iL}(h:gU C X w)(n:Nat):gU C { X with x:={ X.x with b1:=n } } (w.setCell ⟨C.cb,15,fS⟩ (fF fM (n:Int))):=
 h.n9 (h.tojl.same _) 15 _ (by simp[ja])
theorem gU.fYz{C:iO}{X:iL}(h:gU C X w)(n:Nat):gU C { X with x:={ X.x with s:={ X.x.s with U:=n } } } (w.setCell ⟨C.cb,9,fS⟩ (fF fM (n:Int))):=
 h.n9 (h.tojl.same _) 9 _ (by simp[ja])
theorem gU.gQa{C:iO}{X:iL}(h:gU C X w)(n:Int):gU C { X with x:={ X.x with e:=n } } (w.setCell ⟨C.cb,14,fS⟩ (fF fM n)):=
 h.n9 (h.tojl.same _) 14 _ (by simp[ja])
theorem gU.gQb{C:iO}{X:iL}(h:gU C X w)(b:Bool):gU C { X with x:={ X.x with over:=b } } (w.setCell ⟨C.cb,16,fS⟩ (fH b)):=
 h.n9 (h.tojl.same _) 16 _ (by simp[ja])
theorem gU.gQc{C:iO}{X:iL}(h:gU C X w):gU C { X with sv:=fG fS 0 0,ps:=[],x:={ X.x with st:=[] } } (w.setCell ⟨C.cb,12,fS⟩ (fG fS 0 0)):=
 h.n9 (Y:={ X with sv:=fG fS 0 0,ps:=[],x:={ X.x with st:=[] } }) { h.tojl with stk:=World.ownsRow_nil _ _ _ _,l7:=(fun _ e=>by cases e),mP:=trivial } 12 _ (by simp[ja])
theorem gU.gQd{C:iO}{X:iL}(h:gU C X w)(v:Bd)(l:List Nat)(hv:UR w v l)(a:∀ k,v.ownBlock=fT k->X.a8 k=8):gU C { X with ov:=v,x:={ X.x with out:=l } } (w.setCell ⟨C.cb,13,fS⟩ v):=
 h.n9 (Y:={ X with ov:=v,x:={ X.x with out:=l } }) { h.tojl with out:=hv,l8:=a } 13 _ (by simp[ja])
theorem gU.oM{C:iO}{X:iL}(h:gU C X w)(v:Bd)(l:List Nat)(hv:BR w v l)(a:∀ k,v.ownBlock=fT k->X.a8 k=6):gU C { X with mv:=v,x:={ X.x with s:={ X.x.s with L:=l } } } (w.setCell ⟨C.cb,6,fS⟩ v):=
 h.n9 (Y:={ X with mv:=v,x:={ X.x with s:={ X.x.s with L:=l } } }) { h.tojl with L:=hv,l6:=a } 6 _ (by simp[ja])
theorem gU.sL{C:iO}{X:iL}(h:gU C X w)(v:Bd)(l:List Nat)(hv:UR w v l)(a:∀ k,v.ownBlock=fT k->X.a8 k=5):gU C { X with iv:=v,x:={ X.x with s:={ X.x.s with input:=l } } } (w.setCell ⟨C.cb,10,fS⟩ v):=
 h.n9 (Y:={ X with iv:=v,x:={ X.x with s:={ X.x.s with input:=l } } }) { h.tojl with inp:=hv,l5:=a } 10 _ (by simp[ja])
theorem gU.fYd{C:iO}{X:iL}(h:gU C X w)(v:Bd)(st:List iP)(ps:List Bd)(hv:w.ownsRow C.w0.heap.size 83 3 v st.length (iz C st ps))(a:∀ k,v.ownBlock=fT k->X.a8 k=7)(hp:kv w C.w0.heap.size X.a8 st ps):gU C { X with sv:=v,ps:=ps,x:={ X.x with st:=st } } (w.setCell ⟨C.cb,12,fS⟩ v):=
 h.n9 (Y:={ X with sv:=v,ps:=ps,x:={ X.x with st:=st } }) { h.tojl with stk:=hv,l7:=a,mP:=hp } 12 _ (by simp[ja])
theorem KC.row{C:iO}(l:KC C){w:Bc}(m:Be C.w0.heap.size C.w0 w){i:Nat}{r:gR}(g:C.p.b0[i]? = fT r):∃ p q s u,C.zf<w.heap.size/\w.cell? ⟨C.zf,C.jU+i*5,fS⟩=fT p/\w.cell? ⟨C.zf,C.jU+i*5+1,fS⟩=fT q/\w.cell? ⟨C.zf,C.jU+i*5+2,fS⟩=fT (fF fM r.M)/\w.cell? ⟨C.zf,C.jU+i*5+3,fS⟩=fT s/\w.cell? ⟨C.zf,C.jU+i*5+4,fS⟩=fT u /\
  Ints C.w0 p r.a2.a1/\Ints C.w0 q r.a2.out/\Ints C.w0 s r.params/\Structs 5 jE C.w0 u r.K:=by
 obtain⟨n,c,hf⟩:=l.adr (fun e=>by rw[e]at g;simp at g);obtain⟨a,b,d,f,e,_,_,_,t⟩:=l.rows;injection e with e;injection e with e;simp only[List.cons.injEq,and_true]at e;obtain⟨_,_,_,_,_,y⟩:=e;rw[<-y,hf]at t;obtain⟨b',o,p,q,s,u,e,x,z,A,k2,B,D,h⟩:=t.row g;injection e with e;injection e with E e2;subst E;subst e2;have k:=fun(j:Nat) (v:Bd) (hj:C.w0.cell? ⟨C.zf,j,fS⟩=fT v)=>(m.cell (p:=⟨C.zf,j,fS⟩) x).trans hj;exact⟨p,q,s,u,Aq x m.size,k _ _ z,k _ _ A,k _ _ k2,k _ _ B,k _ _ D,h⟩
theorem KC.K{C:iO}{w:Bc}(a:Be C.w0.heap.size C.w0 w){A:Option Addr}{n f:Nat}{l:List gP}(h:Structs 5 jE C.w0 (fG A n f) l){k:Nat}{c:gP}(hc:l[k]? = fT c):n=l.length/\k<n/\∃ b o p q r,A=fT ⟨b,o,fS⟩/\b<w.heap.size/\w.cell? ⟨b,o+k*5,fS⟩=fT (fF fM c.op)/\w.cell? ⟨b,o+k*5+1,fS⟩=fT (fF fN (c.n:Int))/\w.cell? ⟨b,o+k*5+2,fS⟩=fT p/\w.cell? ⟨b,o+k*5+3,fS⟩=fT q/\w.cell? ⟨b,o+k*5+4,fS⟩=fT r /\
  jz C.w0 (.agg #[fF fM c.op,fF fN (c.n:Int),p,q,r]) c:=by
 have hn:=h.kj.1;refine⟨hn,by rw[hn];exact(gw hc).1,?_⟩;obtain⟨b,o,p,q,r,e,d,g,i,k2,m,s,t,h1,h2,u⟩:=h.K hc;have k:=fun(j:Nat) (v:Bd) (hj:C.w0.cell? ⟨b,j,fS⟩=fT v)=>(a.cell (p:=⟨b,j,fS⟩) d).trans hj;exact⟨b,o,p,q,r,e,Aq d a.size,k _ _ g,k _ _ i,k _ _ k2,k _ _ m,k _ _ s,p,q,r,rfl,t,h1,h2,u⟩
theorem KC.a2{C:iO}(m:KC C){w:Bc}(o:Be C.w0.heap.size C.w0 w){n:Nat}{g:iu}(hg:C.p.J.R[n]? = fT g):∃ h i l cs p q,C.a = fG (fT ⟨h,i,fS⟩) l cs/\n<l/\l<=64/\h<w.heap.size/\w.cell? ⟨h,i+n*2,fS⟩=fT p/\w.cell? ⟨h,i+n*2+1,fS⟩=fT q/\Ints C.w0 p g.a1/\Ints C.w0 q g.out:=by
 obtain⟨a,b,d,f,e,h1,_,_,_⟩:=m.rows;injection e with e;injection e with e;simp only[List.cons.injEq,and_true]at e;obtain⟨t,_⟩:=e;obtain⟨A,c,r,_⟩:=h1.len;have h2:=h1;rw[r]at h2;obtain⟨h,i,p,q,e2,s,u,x,k2,y⟩:=h2.a2 hg;subst e2;have k:=fun(j:Nat) (v:Bd) (hj:C.w0.cell? ⟨h,j,fS⟩=fT v)=>(o.cell (p:=⟨h,j,fS⟩) s).trans hj;exact⟨h,i,_,c,p,q,t.trans r,(gw hg).1,(kY m.ok.J).1,Aq s o.size,k _ _ u,k _ _ x,k2,y⟩
theorem gU.top{C:iO}{X:iL}(h:jl C X w){f:iP}{rest:List iP}(d:X.x.st=f :: rest):∃ g c v vs,X.sv = fG (fT ⟨g,0,fS⟩) (rest.length+1) c/\rest.length+1<=c/\X.ps=v :: vs/\w.cell? ⟨g,rest.length*3,fS⟩=fT (fI (fT ⟨C.zf,C.jU+f.fi*5,fS⟩))/\w.cell? ⟨g,rest.length*3+1,fS⟩=fT (fF fM (f.k:Int))/\w.cell? ⟨g,rest.length*3+2,fS⟩=fT v /\
  (∀ i,w.frozen? ⟨g,i,fS⟩=gh)/\g<w.heap.size/\X.a8 g=7/\w.ownsRow C.w0.heap.size 52 1 v f.V.length (hH f.V)/\∀ k,v.ownBlock=fT k->X.a8 k=10+rest.length:=by
 have h1:=h.mP;have h2:=h.stk;have b:=h.l7;rw[d]at h1 h2
 cases hps:X.ps with
 | nil=>rw[hps]at h1;exact h1.elim
 | cons v vs=>
  rw[hps]at h1 h2;have l:=rl C h1.2.len;rcases h2.2 with⟨_,e⟩|⟨g,c,cur,e,_,hg,hc,r⟩
  ·simp at e
  ·rw[e]at h2 b
   have a:∀ j,j<3->w.cell? ⟨g,rest.length*3+j,fS⟩=(yQ C f v)[j]?:=fun j hj=>by
    rw[h2.cellAt (rest.length*3+j) fw];show(iz C rest vs++yQ C f v)[_]? = _;rw[<-l,List.getElem?_append_right fu,Bj]
   exact⟨g,c,v,vs,e,hc,rfl,a 0 fu,a 1 fu,a 2 fu,fun i=>h2.frozenAt i,(Array.getElem?_eq_some_iff.1 hg).1,b g rfl,h1.1.1,h1.1.2⟩
theorem gU.gQe{C:iO}{X:iL}(h:gU C X w){f:iP}{rest:List iP}(d:X.x.st=f :: rest){c:Nat}(e:X.sv = fG (fT ⟨g,0,fS⟩) (rest.length+1) c):gU C { X with sv:=fG (fT ⟨g,0,fS⟩) rest.length c,ps:=X.ps.tail,x:={ X.x with st:=rest } } (w.setCell ⟨C.cb,12,fS⟩ (fG (fT ⟨g,0,fS⟩) rest.length c)):=by
 have h1:=h.mP;have h2:=h.stk;have a:=h.l7;rw[d]at h1 h2
 cases hps:X.ps with
 | nil=>rw[hps]at h1;exact h1.elim
 | cons v vs=>
  rw[hps]at h1 h2;rw[e]at h2 a;have b:=eZd h2 (m:=rest.length) fz;refine h.fYd _ rest vs ?_ (fun k i=>a k i) h1.2;rw[show(iz C (f :: rest) (v :: vs)).take (rest.length*3)=iz C rest vs from ?_]at b
  ·exact b
  ·show(iz C rest vs++yQ C f v).take _=_;rw[<-rl C h1.2.len,List.take_left]
theorem gU.setAt{C:iO}{X:iL}(h:gU C X w){f:iP}{rest:List iP}(o:X.x.st=f :: rest){c:Nat}(a:X.sv = fG (fT ⟨g,0,fS⟩) n c)(k:Nat):gU C { X with x:={ X.x with st:={ f with k:=k } :: rest } } (w.setCell ⟨g,rest.length*3+1,fS⟩ (fF fM (k:Int))):=by
 have h1:=h.mP;have h2:=h.stk;have b:=h.l7;rw[o]at h1 h2;rw[a]at b;have hg:=b g rfl;obtain⟨v,vs,d⟩:=h1.cons
 ·rw[d]at h1 h2;rw[a]at h2
  have hn:n=rest.length+1:=by
   rcases h2.2 with⟨e,_⟩|⟨_,_,_,e,_⟩
   ·cases e
   ·injection e
  subst hn;have l:=(h2.stored (rest.length*3+1) (fF fM (k:Int))).1;have q:=rl C h1.2.len
  have he:(iz C (f :: rest) (v :: vs)).set (rest.length*3+1) (fF fM (k:Int))=iz C ({ f with k:=k } :: rest) (v :: vs):=by
   show(iz C rest vs++yQ C f v).set _ _=iz C rest vs++yQ C { f with k:=k } v;rw[<-q,Bz _ _ fu,Bj];rfl
  rw[he]at l;have r:C.w0.heap.size<=g:=(h.lb g (by rw[hg];decide)).1;have m:w.heap.size<=(w.setCell ⟨g,rest.length*3+1,fS⟩ (fF fM (k:Int))).heap.size:=(by simp[AY]);have i:∀ j,X.a8 j≠0->X.a8 j≠7->(w.setCell ⟨g,rest.length*3+1,fS⟩ (fF fM (k:Int))).heap[j]? = w.heap[j]?:=fun j _ hj=>AJ _ _ _ _ (fun e=>hj (by have:j=g:=e;rw[this];exact hg));refine⟨h.tojl.but (Y:={ X with x:={ X.x with st:={ f with k:=k } :: rest } }) 7 m (h.bel.setCell (p:=⟨g,_,fS⟩) r _) i (fun j hj=>⟨(h.lb j hj).1,Aq (h.lb j hj).2 m⟩) (fun _ _ _=>rfl) h.cl fy (fR ⟨fy,rfl⟩) (fR ⟨fy,rfl,rfl⟩) (fR ⟨fy,rfl,rfl⟩) (fR ⟨fy,rfl,rfl⟩) (fP ?_) (fR ⟨fy,rfl,rfl⟩) ⟨fy,rfl⟩ (fP ?_),(i C.cb (by rw[h.cl];decide) (by rw[h.cl];decide)).trans h.cb⟩
  ·refine⟨?_,fun j hj=>?_⟩
   ·show Bb _ _ _ _ X.sv (rest.length+1) (iz C ({ f with k:=k } :: rest) X.ps);rw[a,d];exact l
   ·have hj:X.sv.ownBlock=fT j:=hj;rw[a]at hj;exact b j hj
  ·show kv _ _ X.a8 ({ f with k:=k } :: rest) X.ps;rw[d];exact(show kv w C.w0.heap.size X.a8 ({ f with k:=k } :: rest) (v :: vs)from⟨⟨h1.1.1,h1.1.2⟩,h1.2⟩).heap (fun j h5 _ _=>⟨i j fu fu,rfl⟩)
theorem gU.gQf{C:iO}{X:iL}(h:gU C X w){f:iP}{rest:List iP}(a:X.x.st=f :: rest){vs:List Bd}(b:X.ps=v :: vs)(V:List Nat)(hV:V.length=f.V.length)(c:w'.ownsRow C.w0.heap.size 52 1 v V.length (hH V))(hs:w.heap.size<=w'.heap.size)(d:Be C.w0.heap.size C.w0 w')
  (g:∀ j,X.a8 j≠0->v.ownBlock≠fT j->w'.heap[j]? = w.heap[j]?):gU C { X with x:={ X.x with st:={ f with V:=V } :: rest } } w':=by
 have h1:=h.mP;rw[a,b]at h1;have ob':∀ j,X.a8 j≠0->X.a8 j≠10+rest.length->w'.heap[j]? = w.heap[j]?:=fun j hj hn=>g j hj (fun e=>hn (h1.1.2 j e));refine⟨h.tojl.but (Y:={ X with x:={ X.x with st:={ f with V:=V } :: rest } }) (10+rest.length) hs d ob' (fun j hj=>⟨(h.lb j hj).1,Aq (h.lb j hj).2 hs⟩) (fun _ _ _=>rfl) h.cl fu (fR ⟨fu,rfl⟩) (fR ⟨fu,rfl,rfl⟩) (fR ⟨fu,rfl,rfl⟩) (fR ⟨fu,rfl,rfl⟩) (fR ⟨fu,rfl,?_,?_⟩) (fR ⟨fu,rfl,rfl⟩) ⟨fu,rfl⟩ (fP ?_),(ob' C.cb (by rw[h.cl];decide) (by rw[h.cl];omega)).trans h.cb⟩
 ·show rest.length+1=X.x.st.length;rw[a];rfl
 ·show iz C ({ f with V:=V } :: rest) X.ps=iz C X.x.st X.ps;rw[a,b];rfl
 ·show kv w' C.w0.heap.size X.a8 ({ f with V:=V } :: rest) X.ps;rw[b];exact⟨⟨c,h1.1.2⟩,h1.2.heap (fun j h5 h6 _=>⟨ob' j fu fu,rfl⟩)⟩
theorem gU.fYq{C:iO}{X:iL}(h:gU C X w){f:iP}{rest:List iP}(a:X.x.st=f :: rest){c:Nat}{vs:List Bd}(b:X.ps = fG (fT ⟨g,0,fS⟩) f.V.length c :: vs)(j N:Nat):gU C { X with x:={ X.x with st:={ f with V:=f.V.set j N } :: rest } } (w.setCell ⟨g,j,fS⟩ (fF fN (N:Int))):=by
 have h1:=h.mP;rw[a,b]at h1;have hg:=h1.1.2 g rfl;refine h.gQf a b _ (AK ..) ?_ (by simp[AY]) (h.bel.setCell (p:=⟨g,j,fS⟩) (h.lb g (by rw[hg];omega)).1 _) (fun k _ d=>AJ _ _ _ _ (fun e=>d (by have:k=g:=e;rw[this];rfl)));rw[AK,<-qO];exact(h1.1.1.stored j _).1
theorem gU.sM{C:iO}{X:iL}(h:gU C X w){c:Nat}(a:C.gv = fG (fT ⟨g,0,fS⟩) n c)(k N:Nat):gU C { X with x:={ X.x with s:={ X.x.s with E:=X.x.s.E.set k N } } } (w.setCell ⟨g,k,fS⟩ (fF fN (N:Int))):=by
 have hg:=h.l3 g (by rw[a];rfl);have h2:=h.kq;rw[a]at h2
 have hn:n=X.x.s.E.length:=by
  rcases h2.2 with⟨e,_⟩|⟨_,_,_,e,_⟩
  ·cases e
  ·injection e
 subst hn;have f:C.w0.heap.size<=g:=(h.lb g (by rw[hg];decide)).1;have b:w.heap.size<=(w.setCell ⟨g,k,fS⟩ (fF fN (N:Int))).heap.size:=(by simp[AY]);have d:∀ j,X.a8 j≠0->X.a8 j≠3->(w.setCell ⟨g,k,fS⟩ (fF fN (N:Int))).heap[j]? = w.heap[j]?:=fun j _ hj=>AJ _ _ _ _ (fun e=>hj (by have:j=g:=e;rw[this];exact hg));refine⟨h.tojl.but (Y:={ X with x:={ X.x with s:={ X.x.s with E:=X.x.s.E.set k N } } }) 3 b (h.bel.setCell (p:=⟨g,k,fS⟩) f _) d (fun j hj=>⟨(h.lb j hj).1,Aq (h.lb j hj).2 b⟩) (fun _ _ _=>rfl) h.cl fy (fP ⟨rfl,?_,h.l3⟩) (fR ⟨fy,rfl,rfl⟩) (fR ⟨fy,rfl,rfl⟩) (fR ⟨fy,rfl,rfl⟩) (fR ⟨fy,rfl,rfl,rfl⟩) (fR ⟨fy,rfl,rfl⟩) ⟨fy,rfl⟩ (fR ⟨fy,rfl,rfl⟩),(d C.cb (by rw[h.cl];decide) (by rw[h.cl];decide)).trans h.cb⟩;show Bb _ _ _ _ C.gv (X.x.s.E.set k N).length (hH (X.x.s.E.set k N));rw[a,AK,<-qO];exact(h2.stored k _).1
theorem bJp{C:iO}{X:iL}(h:jl C X w){c:Nat}(hv:∀ k,v.ownBlock=fT k->X.a8 k=c)(hc:c≠0)(hg:w.grownBy w' v.ownBlock)(b:v'.ownBlock=v.ownBlock\/v'.ownBlock=fT w.heap.size)(d:∀ k,v'.ownBlock=fT k->k<w'.heap.size):
  (∀ k,X.a8 k≠0->X.a8 k≠c->w'.heap[k]? = w.heap[k]?)/\Be C.w0.heap.size C.w0 w'/\(∀ k,mY X.a8 v' c k≠0->C.w0.heap.size<=k/\k<w'.heap.size)/\(∀ k,X.a8 k≠0->mY X.a8 v' c k=X.a8 k):=by
 refine⟨fun k h1 h2=>hg.block k (h.lb k h1).2 (fun e=>h2 (hv k e.symm)),h.bel.grown hg h.bel.size (fun k a=>(h.lb k (by rw[hv k a];exact hc)).1),fun k a=>?_,fun k a=>?_⟩
 ·by_cases e:v'.ownBlock=fT k
  ·refine⟨?_,d k e⟩;rcases b with e2|e2
   ·exact(h.lb k (by rw[hv k (by rw[<-e2];exact e)];exact hc)).1
   ·rw[e]at e2;injection e2 with e2;subst e2;exact h.bel.size
  ·rw[uK e]at a;exact⟨(h.lb k a).1,Aq (h.lb k a).2 hg.size⟩
 ·by_cases e:v'.ownBlock=fT k
  ·rw[zJ e];rcases b with e2|e2
   ·exact(hv k (by rw[<-e2];exact e)).symm
   ·rw[e]at e2;injection e2 with e2;have:=(h.lb k a).2;omega
  ·exact uK e
theorem jl.gQg{C:iO}{X:iL}(h:jl C X w)(b:w'.ownsRow C.w0.heap.size 52 1 v' l.length (hH l))(hg:w.grownBy w' X.lv.ownBlock)(d:v'.ownBlock=X.lv.ownBlock\/v'.ownBlock=fT w.heap.size):
  jl C { X with a8:=mY X.a8 v' 4,lv:=v',x:={ X.x with s:={ X.x.s with a0:=l } } } w':=by
 obtain⟨e,f,g,c⟩:=bJp h h.l4 fy hg d (fun k a=>(b.lt k a).2);exact h.but (Y:={ X with a8:=mY X.a8 v' 4,lv:=v',x:={ X.x with s:={ X.x.s with a0:=l } } }) 4 hg.size f e g (fun k h1 _=>c k h1) ((c C.cb (by rw[h.cl];decide)).trans h.cl) fy (fR ⟨fy,rfl⟩) (fP ⟨rfl,b,fun k a=>zJ a⟩) (fR ⟨fy,rfl,rfl⟩) (fR ⟨fy,rfl,rfl⟩) (fR ⟨fy,rfl,rfl,rfl⟩) (fR ⟨fy,rfl,rfl⟩) ⟨fy,rfl⟩ (fR ⟨fy,rfl,rfl⟩)
theorem jl.gQh{C:iO}{X:iL}(h:jl C X w){pv:Bd}{f:iP}(e:w'.ownsRow C.w0.heap.size 83 3 v' (X.x.st.length+1) (iz C X.x.st X.ps++yQ C f pv))(hg:w.grownBy w' X.sv.ownBlock)(g:v'.ownBlock=X.sv.ownBlock\/v'.ownBlock=fT w.heap.size)
  (hp:w.ownsRow C.w0.heap.size 52 1 pv f.V.length (hH f.V)) (b:∀ k,pv.ownBlock=fT k->X.a8 k=10+X.x.st.length) :
  jl C { X with a8:=mY X.a8 v' 7,sv:=v',ps:=pv :: X.ps,x:={ X.x with st:=f :: X.x.st } } w':=by
 obtain⟨d,i,l,c⟩:=bJp h h.l7 fy hg g (fun k a=>(e.lt k a).2);refine h.but (Y:={ X with a8:=mY X.a8 v' 7,sv:=v',ps:=pv :: X.ps,x:={ X.x with st:=f :: X.x.st } }) 7 hg.size i d l (fun k h1 _=>c k h1) ((c C.cb (by rw[h.cl];decide)).trans h.cl) fy (fR ⟨fy,rfl⟩) (fR ⟨fy,rfl,rfl⟩) (fR ⟨fy,rfl,rfl⟩) (fR ⟨fy,rfl,rfl⟩) (fP ⟨e,fun k a=>zJ a⟩) (fR ⟨fy,rfl,rfl⟩) ⟨fy,rfl⟩ (fP ⟨⟨yW hp (fun k a ad=>d k (by rw[b k a];omega) (by rw[b k a];omega)),fun k a=>?_⟩,?_⟩)
 ·show mY X.a8 v' 7 k=_;rw[c k (by rw[b k a];omega),b k a]
 ·exact h.mP.heap (fun j h5 _ _=>⟨d j fu fu,c j fu⟩)
end Go.Proofs.YtabibkpfgmolkaaGreatDoor

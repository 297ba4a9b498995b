/- Lemmas for the claim, part 9. Conditions: none. -/
import Derived.Test.YtabibkpfgmolkaaGreatDoorPt08
set_option maxRecDepth 100000
set_option maxHeartbeats 16000000
set_option linter.unusedVariables false
set_option linter.unusedSimpArgs false
open Go.Lib renaming hid→fQ
open Go.Proofs.Tryz renaming prog→fZ
open Go.RowKit
open Nat renaming le_refl→Aj,lt_of_lt_of_le→Ax,add_zero→Aw,pow_succ→Ae,pow_pos→Ag,lt_of_le_of_lt→Ah,mod_lt→Bj,zero_add→Bq,mod_one→Bx,mul_one→Bz
open List renaming getElem_cons_zero→Aq,getD_eq_getElem?_getD→Ak,map_cons→AJ,map_nil→AQ,setIfInBounds_toArray→AV,getElem_cons_succ→AW,set_cons_zero→AY,set_cons_succ→Ab,not_mem_nil→Ai
open Go.Calls renaming quiet_of_same→Az
open Go.RowKit.Below renaming refl→Av,cell→Ay,size→AK
open Go.Addr renaming add_lit→AX
open Int renaming eq_ofNat_of_zero_le→AZ,tdiv_eq_ediv_of_nonneg→Af
open Go.IntWalk renaming i64_in→Ac
open Go.World renaming setCell→Ad
open Go renaming World→Bk,Value→Bv,Calls→By,Addr→BJ
open Go.RowKit renaming Below→Bw
open Go.Value renaming int->fF,slice->fG,bool->fH,tuple->fI,agg->fM,pointer->fN
open Go.IntKind renaming i64->fO,u64->fP
open Go.Obj renaming cells->fR
open Go.Ending renaming returned->fS
open Option renaming none->fT,some->fU
open Bool renaming true->gh,false->gj
namespace Go.Proofs.YtabibkpfgmolkaaGreatDoor
variable {w:Bk}{a l:List Nat}{k:Nat}
section
open Go.Lib
theorem aVw:∀ f,bitLenAux f 0=0
 | 0=>rfl
 | f+1=>by simp[bitLenAux]
theorem aYa:∀ (k f y:Nat),k<f->2 ^ k<=y->y<2 ^ (k+1)->bitLenAux f y=k+1
 | 0,f+1,y,_,h1,h2=>by
  obtain rfl:y=1:=(by simp at h1 h2;omega);simp[bitLenAux,aVw]
 | k+1,f+1,y,hf,h1,h2=>by
  rw[bitLenAux,gy fu,aYa k f (y / 2) fu fu fu];omega
theorem bXu:∀ (k f:Nat),k<f->ctzFrom f (2 ^ k)=k
 | 0,f+1,_=>by simp[ctzFrom]
 | k+1,f+1,h=>by
  have hp:2 ^ (k+1)=2 ^ k*2:=Ae ..;rw[ctzFrom,gy fu,hp,Nat.mul_div_cancel _ fy,bXu k f fu];omega
theorem bXv:∀ (k f x:Nat),x<2 ^ k->x≠0->ctzFrom f (x+2 ^ k)=ctzFrom f x
 | 0,f,x,h,a=>by simp at h;omega
 | k+1,0,x,h,a=>rfl
 | k+1,f+1,x,h,a=>by
  unfold ctzFrom;by_cases b:x % 2=1
  ·rw[gz b,gz fu]
  ·rw[gy b,gy fu,show(x+2 ^ (k+1)) / 2=x / 2+2 ^ k by omega,bXv k f (x / 2) fu fu]
theorem eJw(a k:Nat):a % 2 ^ (k+1)=a % 2 ^ k+2 ^ k*(a / 2 ^ k % 2):=by rw[Ae];exact Nat.mod_mul
theorem fXy{W x:Nat}(a:x≠0)(b:x<2 ^ k)(c:k<=W):ctz W x<W:=by
 rw[ctz,gy a];obtain⟨m,_,d⟩:=ctzFrom_spec W x fu (Ax b (Nat.pow_le_pow_right fy c));exact d
theorem eJx(a k:Nat):popAux (k+1) a=popAux k a+a / 2 ^ k % 2:=by rw[sw k 1];simp[popAux]
end
def fKn(W a:Nat)(fv b mv i:Bv):Prop:=∃ k:Nat,k<=W/\i = fF fO k/\fv = fF fO ((W:Int) - (Lib.bitLen (a % 2 ^ k):Nat))/\b = fF fO ((Lib.ctz W (a % 2 ^ k):Nat):Int)/\mv = fF fO ((Lib.popAux k a:Nat):Int)
theorem cKn{a:Nat}(ha:a<18446744073709551616)(b:Bool)(h:decide (a / 2 ^ k % 2=1)=b):(Go.bits .and fP ((a:Int) / 2 ^ k) 1 == 1)=b:=by
 rw[show((a:Int) / 2 ^ k)=((a / 2 ^ k:Nat):Int) by push_cast;rfl,show(1:Int)=((1:Nat):Int)from rfl,bits_and_u64_nat _ _ (Ah (Nat.div_le_self _ _) ha) fy,Nat.and_one_is_mod];rw[<-h];have:a / 2 ^ k % 2<2:=Bj _ fy;by_cases c:a / 2 ^ k % 2=1
 ·simp[c]
 ·have h2:a / 2 ^ k % 2=0:=fu;simp[h2]
theorem cXt(k a W:Nat)(w:Bk)(x:k<3)(p:(W=64/\a<18446744073709551616)\/(W=32/\a<4294967296)):By fZ 141 #[fF fO k,fF fP a,fF fO W] w fun e w'=>e = fS (fF fP ((lE W a).getD k 0))/\Bw w.heap.size w w':=by
 have q:=fQ (show a<18446744073709551616 by omega);have F:=fQ (show a<2 ^ W by rcases p with⟨rfl,h⟩|⟨rfl,h⟩ <;> simpa using h);have ak:W<=64:=fu;have ao:0<W:=fu;have G:=fQ (bKx p x);clear p;go_in;go_wp2_with fail;go_loop [7,8,9,10] (fun fv H mv i=>fKn W a fv H mv i) (fun _ _ _ i=>W+1 - (intOf i).toNat)
 case atStart=>exact⟨0,fu,rfl,by simp[Bx,Lib.bitLen,aVw],by simp[Bx,Lib.ctz],by simp[Lib.popAux]⟩
 case round=>
  obtain⟨j,hj,rfl,rfl,rfl,rfl⟩:=hrel;by_cases z:j<W
  ·have l:=fQ (eJw a j);have A:=fQ (eJx a j);have B:=fQ (show a % 2 ^ j<2 ^ j from Bj _ (Ag fy));have r:Lib.bitLen (a % 2 ^ j)<=64:=aKp 64 _ 64 (Ah (Nat.mod_le _ _) q.out);have s:Lib.popAux j a<=64:=(by have:=pW j a;omega);by_cases b:a / 2 ^ j % 2=1
   ·have J:=cKn (k:=j) q.out gh (by simpa using b)
    have C:=fQ (show Lib.bitLen (a % 2 ^ (j+1))=j+1 by
     refine aYa j 64 _ fu ?_ ?_
     ·rw[l.out,b];omega
     ·exact Bj _ (Ag fy))
    have c:=fQ (show Lib.popAux (j+1) a=Lib.popAux j a+1 by rw[A.out,b]);by_cases d:a % 2 ^ j=0
    ·have n:=fQ (show Lib.ctz W (a % 2 ^ (j+1))=j by
      rw[l.out,b,d,Lib.ctz,gy (by have:0<2 ^ j:=Ag fy;omega),Bz,Bq]
      exact bXu j W z)
     rw[d,show Lib.ctz W 0=W by simp[Lib.ctz]];clear b d;generalize Lib.bitLen 0=f at r ⊢;generalize Lib.popAux j a=m at s c ⊢;go_wp2;refine⟨⟨j+1,fu,fz,?_,?_,?_⟩,fB⟩
     ·rw[C.out];congr 1;omega
     ·rw[n.out]
     ·rw[c.out];simp
    ·have n:=fQ (show Lib.ctz W (a % 2 ^ (j+1))=Lib.ctz W (a % 2 ^ j) by
      rw[l.out,b,Bz,Lib.ctz,gy fu,Lib.ctz,gy d]
      exact bXv j W _ B.out d)
     have L:=fXy d B.out (by omega:j<=W);clear b d;generalize Lib.ctz W (a % 2 ^ j)=t at n L ⊢;have K:((t:Int) == (W:Int))=gj:=fw;generalize Lib.bitLen (a % 2 ^ j)=f at r ⊢;generalize Lib.popAux j a=m at s c ⊢;go_wp2;refine⟨⟨j+1,fu,fz,?_,?_,?_⟩,fB⟩
     ·rw[C.out];congr 1;omega
     ·rw[n.out]
     ·rw[c.out];simp
   ·have J:=cKn (k:=j) q.out gj (by simpa using b);have D:=fQ (show a % 2 ^ (j+1)=a % 2 ^ j by rw[l.out,show a / 2 ^ j % 2=0 by omega,Nat.mul_zero,Aw]);have c:=fQ (show Lib.popAux (j+1) a=Lib.popAux j a by rw[A.out];omega);clear b;generalize u:Lib.bitLen (a % 2 ^ j)=f at r ⊢;generalize E:Lib.popAux j a=m at s c ⊢;generalize v:Lib.ctz W (a % 2 ^ j)=t;replace u:=fQ u;replace E:=fQ E;replace v:=fQ v;go_wp2;refine⟨⟨j+1,fu,fz,?_,?_,?_⟩,fB⟩
    ·rw[D.out,u.out]
    ·rw[D.out,v.out]
    ·rw[c.out]
  ·obtain rfl:j=W:=fu;rw[Nat.mod_eq_of_lt F.out];obtain⟨y,g⟩:=fX ((lE j a).getD k 0);have hy:0<=y/\y<=64:=(by rw[<-g];exact G.out);have aq:IntKind.u64.wrap y=y:=(by rw[IntKind.wrap_u64];omega);have o:=cXr g x (gO.a4 w 3 _);have ar:(k:Int)<3:=fu;simp only[lE,AJ,AQ,List.toArray]at o;replace g:=fQ g;generalize Lib.bitLen a=f at o ⊢;generalize Lib.popAux j a=m at o ⊢;generalize Lib.ctz j a=t at o ⊢;go_wp2;go_ret;exact⟨ry g.out.symm,(Av _ _).alloc (Aj _) _⟩
theorem eWx(kk:Int)(k a b:Nat)(w:Bk)(c:kk=(k:Int))(d:k<10)(ha:a<18446744073709551616)(f:b<18446744073709551616):By fZ 140 #[fF fO kk,fF fP a,fF fP b,fF fO 64] w fun e w'=>e = fS (fF fP (b01 ((sY a b (wrap64 a) (wrap64 b)).getD k gj)))/\Bw w.heap.size w w':=by
 subst c;exact dWo k a b w d ha f
theorem eWy(kk:Int)(k a b:Nat)(w:Bk)(c:kk=(k:Int))(d:k<10)(ha:a<18446744073709551616)(f:b<18446744073709551616):By fZ 140 #[fF fO kk,fF fP a,fF fP b,fF fO 32] w fun e w'=>e = fS (fF fP (b01 ((sY a b (wrap32 a) (wrap32 b)).getD k gj)))/\Bw w.heap.size w w':=by
 subst c;exact dWp k a b w d ha f
theorem eWz(kk:Int)(k a:Nat)(w:Bk)(b:kk=(k:Int))(c:k<3)(ha:a<18446744073709551616):By fZ 141 #[fF fO kk,fF fP a,fF fO 64] w fun e w'=>e = fS (fF fP ((lE 64 a).getD k 0))/\Bw w.heap.size w w':=by
 subst b;exact cXt k a 64 w c (.inl ⟨rfl,ha⟩)
theorem eYa(kk:Int)(k a:Nat)(w:Bk)(b:kk=(k:Int))(c:k<3)(ha:a<4294967296):By fZ 141 #[fF fO kk,fF fP a,fF fO 32] w fun e w'=>e = fS (fF fP ((lE 32 a).getD k 0))/\Bw w.heap.size w w':=by
 subst b;exact cXt k a 32 w c (.inr ⟨rfl,ha⟩)
theorem eYb(kk:Int)(k a b:Nat)(w:Bk)(c:kk=(k:Int))(d:k<15)(ha:a<18446744073709551616)(f:b<18446744073709551616):By fZ 142 #[fF fO kk,fF fP a,fF fP b,fF fO 64] w fun e w'=>e = fS (fI #[fF fP (gY 3 126 k a b).1,fF fO (gY 3 126 k a b).2])/\w'=w:=by
 subst c;exact(eYr k a b w d ha f).mono fun _ _ ⟨h1,h2⟩=>⟨h1,h2.symm⟩
theorem eYc(kk:Int)(k a b:Nat)(w:Bk)(c:kk=(k:Int))(d:k<15)(ha:a<4294967296)(f:b<4294967296):By fZ 142 #[fF fO kk,fF fP a,fF fP b,fF fO 32] w fun e w'=>e = fS (fI #[fF fP (gY 3 127 k a b).1,fF fO (gY 3 127 k a b).2])/\w'=w:=by
 subst c;exact(fQc k a b w d ha f).mono fun _ _ ⟨h1,h2⟩=>⟨h1,h2.symm⟩
theorem eYd(x:Int):wrap64 (wrap32 x)=wrap32 x:=by unfold wrap64 wrap32;omega
theorem cXu(z:Int):IntKind.u64.wrap z=IntKind.u64.wrap (wrap64 z):=by rw[oW,IntKind.wrap_u64]
theorem dWa(z:Int):IntKind.u64.wrap z % 4294967296=wrap64 z % 4294967296:=by rw[nX];unfold wrap64;omega
theorem eYe(x:Nat):IntKind.u64.wrap (IntKind.i8.wrap x)=tZ 0 126 x:=by rw[eKm rfl];exact cXu _
theorem eJy(x:Nat):IntKind.u64.wrap (IntKind.i16.wrap x)=tZ 1 126 x:=by rw[eKo rfl];exact cXu _
theorem eJz(x:Nat):IntKind.u64.wrap (wrap32 x)=tZ 2 126 x:=by rw[eKp rfl];exact cXu _
theorem eYf(x:Nat):IntKind.u64.wrap (IntKind.i8.wrap x) % 4294967296=tZ 0 127 x:=by rw[eKl rfl];exact dWa _
theorem eKa(x:Nat):IntKind.u64.wrap (IntKind.i16.wrap x) % 4294967296=tZ 1 127 x:=by rw[eKn rfl];exact dWa _
theorem cYh(op:Int)(A:Option BJ)(n c:Nat)(l:List Nat)(w:Bk)(hg:gQ op=fT):
  By fZ 118 #[fF fO op,fG A n c] w (jW (oV op l) w):=by
 have a:=fQ (show oV op l=(0,1) by simp[oV,hg]);have b:=fQ (show(gQ op).isSome=gj by simp[hg]);have d:=fQ (show(gJ op).length=0 by simp[gJ,hg]);clear hg;go_in;go_wp2_with fail;refine(kV op _).mono ?_;rintro e w1 ⟨A1,c1,rfl,ho,f⟩;rw[b.out,d.out];go_wp2;go_ret2;unfold jW;rw[a.out];exact⟨rfl,f⟩
theorem dWb(op a b c d:Int)(A:Option BJ)(n h:Nat)(l:List Nat)(w:Bk)(hg:gQ op=fU (a,b,c,d))(i:l.length=n)(g:(gJ op).length≠n):
  By fZ 118 #[fF fO op,fG A n h] w (jW (oV op l) w):=by
 have j:=fQ (show oV op l=(0,1) by simp[oV,hg,i,g]);have k:=fQ (show(gQ op).isSome=gh by simp[hg]);generalize f:(gJ op).length=m at g;replace f:=fQ f;have ad:((m:Int) != (n:Int))=gh:=fw;clear hg;go_in;go_wp2_with fail;refine(kV op _).mono ?_;rintro e w1 ⟨A1,c1,rfl,ho,o⟩;rw[k.out,f.out];go_wp2;go_ret2;unfold jW;rw[j.out];exact⟨rfl,o⟩
theorem eKb(op:Int)(n:Nat)(G:n<1)(o:op=69+(n:Int))(x:Nat)(H:x<4294967296)(A:Option BJ)(I:Nat)(w:Bk)(hs:Src w A 1 (hH [x])):
  By fZ 118 #[fF fO op,fG A 1 I] w (jW ((b01 ((x:Int) == 0),0)) w):=by
 have z1:69<=op:=fu;have z2:op<=69:=fu
 have hg:gQ op=fU (69,1,0,127):=by
  rcases rW op with⟨hg,a,b,z5,z6,z7⟩|⟨hg,a,b⟩|⟨hg,a,b⟩|⟨hg,a,b⟩|⟨hg,a,b⟩|⟨hg,a,b⟩|⟨hg,a,b⟩|⟨hg,a,b⟩|⟨hg,a,b⟩|⟨hg,a,b⟩|⟨hg,a,b⟩|⟨hg,a,b⟩|⟨hg,a,b⟩ <;> first|exact hg|(exfalso;omega)
 have t0:(op == 69)=gh:=pr fu fu;clear o;have J:=fQ (show(gQ op).isSome=gh by simp[hg]);have K:=fQ (show gJ op = [127] by simp[gJ,hg]);have q:=fQ (show(gJ op).length=1 by simp[gJ,hg]);obtain⟨ab,m,rfl,aK⟩:=hs.addr fu;have r:=fQ hs;clear hg hs;go_in;go_wp2_with fail;refine(kV op _).mono ?_;rintro e w1 ⟨A2,c2,rfl,h,j⟩;rw[J.out,q.out];rw[q.out,K.out]at h;obtain⟨d,aL,e,L,aM,_⟩:=lZ h fu;injection e with M e2 N;subst M;subst N;have O:w.heap.size<=w1.heap.size:=j.size;have s:d<w1.heap.size:=L;have t:=fQ h;have P:=fQ j;have u:ab<w1.heap.size:=fu;have l:w1.cell? ⟨d,0,fT⟩=fU (fF fO 127):=(by have:=t.cells (g:=d) rfl 0 (fF fO 127) rfl;rwa[AX]at this);have f:=(r.C j (Aj _)).at_ (k:=0) fu;simp only[hH,AJ,AQ,Aq,Aw]at f;have y:iK 127 x=gh:=nB H
 have z:∀ k,k<1->∃ v:Nat,w1.cell? ⟨ab,m+k,fT⟩=fU (fF fP v)/\iK 127 v=gh/\w1.cell? ⟨d,k,fT⟩=fU (fF fO 127):=by
  intro k G;rcases(show k=0 by omega)with rfl
  ·exact⟨x,f,y,l⟩
 have B:=fQ z;clear h j t r y z;go_wp2_with fail;go_loopw [9] (fun i wr=>∃ k:Nat,k<=1/\i = fF fO k/\Hid (Bw w1.heap.size w1 wr)) (fun i _=>1+1 - (intOf i).toNat)
 case atStart=>exact⟨0,fu,rfl,fQ (Av _ _)⟩
 case round=>
  rename_i wr;obtain⟨k,aN,rfl,c⟩:=hrel;by_cases Q:k<1
  ·obtain⟨v,C,D,E⟩:=B.out k Q;have aE:(k:Int)<1:=fu;have aF:=(c.out.cell (p:=⟨ab,m+k,fT⟩) u).trans C;have aG:=(c.out.cell (p:=⟨d,k,fT⟩) s).trans E;have R:=fQ D;clear C D E f l;go_wp2_with fail;go_quiet ((go_at_call 53;exact Az ((oJ 127 v _).mono fun _ _ ⟨h1,h2⟩=>⟨h1.trans (by rw[R.out]),h2.symm⟩)));go_wp2;exact⟨⟨k+1,fu,fz,fQ (fK c.out _)⟩,fB⟩
  ·obtain rfl:k=1:=fu;have aH:=(c.out.cell (p:=⟨ab,m,fT⟩) u).trans f;have aI:=(c.out.cell (p:=⟨d,0,fT⟩) s).trans l;have F:=fQ (P.trans (c.out.mono O));clear f l  B;go_wp2_with fail;refine gu (oN _) ?_;go_wp2_with (go_at_call 139;refine gu (jK _ _ _ _) ?_);refine gu (aVa _ _) ?_;go_wp2;go_ret2;unfold jW;exact⟨rfl,F.out⟩
theorem eKc(op:Int)(l:Nat)(u:l<10)(z:op=70+(l:Int))(x y:Nat)(M:x<4294967296)(N:y<4294967296)(A:Option BJ)(O:Nat)(w:Bk)(hs:Src w A 2 (hH [x,y])):
  By fZ 118 #[fF fO op,fG A 2 O] w (jW ((b01 ((sY x y (wrap32 x) (wrap32 y)).getD l gj),0)) w):=by
 have z1:70<=op:=fu;have z2:op<=79:=fu
 have hg:gQ op=fU (70,10,1,127):=by
  rcases rW op with⟨hg,a,b,z5,z6,z7⟩|⟨hg,a,b⟩|⟨hg,a,b⟩|⟨hg,a,b⟩|⟨hg,a,b⟩|⟨hg,a,b⟩|⟨hg,a,b⟩|⟨hg,a,b⟩|⟨hg,a,b⟩|⟨hg,a,b⟩|⟨hg,a,b⟩|⟨hg,a,b⟩|⟨hg,a,b⟩ <;> first|exact hg|(exfalso;omega)
 have t0:(op == 69)=gj:=eqF fu;have t1:(op == 80)=gj:=eqF fu;have t2:inB op 70 79=gh:=inT fu fu;have P:=fQ z;clear z;have Q:=fQ (show(gQ op).isSome=gh by simp[hg]);have R:=fQ (show gJ op = [127,127] by simp[gJ,hg]);have B:=fQ (show(gJ op).length=2 by simp[gJ,hg]);obtain⟨ab,m,rfl,aR⟩:=hs.addr fu;have q:=fQ hs;clear hg hs;go_in;go_wp2_with fail;refine(kV op _).mono ?_;rintro e w1 ⟨A2,c2,rfl,n,f⟩;rw[Q.out,B.out];rw[B.out,R.out]at n;obtain⟨c,aS,e,S,aT,_⟩:=lZ n fu;injection e with T e2 U;subst T;subst U;have V:w.heap.size<=w1.heap.size:=f.size;have C:c<w1.heap.size:=S;have r:=fQ n;have W:=fQ f;have s:ab<w1.heap.size:=fu;have o:w1.cell? ⟨c,0,fT⟩=fU (fF fO 127):=(by have:=r.cells (g:=c) rfl 0 (fF fO 127) rfl;rwa[AX]at this);have h:=(q.C f (Aj _)).at_ (k:=0) fu;simp only[hH,AJ,AQ,Aq,Aw]at h;have t:w1.cell? ⟨c,1,fT⟩=fU (fF fO 127):=(by have:=r.cells (g:=c) rfl 1 (fF fO 127) rfl;rwa[AX]at this);have j:=(q.C f (Aj _)).at_ (k:=1) fu;simp only[hH,AJ,AQ,Aq,AW]at j;have D:iK 127 x=gh:=nB M;have E:iK 127 y=gh:=nB N
 have F:∀ k,k<2->∃ v:Nat,w1.cell? ⟨ab,m+k,fT⟩=fU (fF fP v)/\iK 127 v=gh/\w1.cell? ⟨c,k,fT⟩=fU (fF fO 127):=by
  intro k u;rcases(show k=0\/k=1 by omega)with rfl|rfl
  ·exact⟨x,h,D,o⟩
  ·exact⟨y,j,E,t⟩
 have G:=fQ F;clear n f r q D F E;go_wp2_with fail;go_loopw [9] (fun i wr=>∃ k:Nat,k<=2/\i = fF fO k/\Hid (Bw w1.heap.size w1 wr)) (fun i _=>2+1 - (intOf i).toNat)
 case atStart=>exact⟨0,fu,rfl,fQ (Av _ _)⟩
 case round=>
  rename_i wr;obtain⟨k,aU,rfl,d⟩:=hrel;by_cases X:k<2
  ·obtain⟨v,H,I,J⟩:=G.out k X;have aJ:(k:Int)<2:=fu;have aK:=(d.out.cell (p:=⟨ab,m+k,fT⟩) s).trans H;have aL:=(d.out.cell (p:=⟨c,k,fT⟩) C).trans J;have Y:=fQ I;clear H I J h o j t;go_wp2_with fail;go_quiet ((go_at_call 53;exact Az ((oJ 127 v _).mono fun _ _ ⟨h1,h2⟩=>⟨h1.trans (by rw[Y.out]),h2.symm⟩)));go_wp2;exact⟨⟨k+1,fu,fz,fQ (fK d.out _)⟩,fB⟩
  ·obtain rfl:k=2:=fu;have aM:=(d.out.cell (p:=⟨ab,m,fT⟩) s).trans h;have aN:=(d.out.cell (p:=⟨c,0,fT⟩) C).trans o;have aO:=(d.out.cell (p:=⟨ab,m+1,fT⟩) s).trans j;have K:=fQ (W.trans (d.out.mono V));have Z:w.heap.size<=wr.heap.size:=K.out.size;clear h o j t G;go_wp2_with fail;refine gu (oN _) ?_;go_wp2_with (go_at_call 139;refine gu (jK _ _ _ _) ?_);go_region_with ((go_at_call 140;refine(eWy _ l x y _ (by have:=P.out;rw[Ac _ fu];omega) u fu fu).mono ?_;rintro e w2 ⟨rfl,L⟩;have aQ:=fQ L;clear L))
   all_goals
    go_wp2;go_ret2;unfold jW;exact⟨rfl,K.drew.trans (aQ.mono Z)⟩
theorem eKd(op:Int)(n:Nat)(G:n<1)(o:op=80+(n:Int))(x:Nat)(hx:x<18446744073709551616)(A:Option BJ)(H:Nat)(w:Bk)(hs:Src w A 1 (hH [x])):
  By fZ 118 #[fF fO op,fG A 1 H] w (jW ((b01 ((x:Int) == 0),0)) w):=by
 have z1:80<=op:=fu;have z2:op<=80:=fu
 have hg:gQ op=fU (80,1,0,126):=by
  rcases rW op with⟨hg,a,b,z5,z6,z7⟩|⟨hg,a,b⟩|⟨hg,a,b⟩|⟨hg,a,b⟩|⟨hg,a,b⟩|⟨hg,a,b⟩|⟨hg,a,b⟩|⟨hg,a,b⟩|⟨hg,a,b⟩|⟨hg,a,b⟩|⟨hg,a,b⟩|⟨hg,a,b⟩|⟨hg,a,b⟩ <;> first|exact hg|(exfalso;omega)
 have t0:(op == 69)=gj:=eqF fu;have t1:(op == 80)=gh:=pr fu fu;clear o;have I:=fQ (show(gQ op).isSome=gh by simp[hg]);have J:=fQ (show gJ op = [126] by simp[gJ,hg]);have q:=fQ (show(gJ op).length=1 by simp[gJ,hg]);obtain⟨ab,m,rfl,aK⟩:=hs.addr fu;have r:=fQ hs;clear hg hs;go_in;go_wp2_with fail;refine(kV op _).mono ?_;rintro e w1 ⟨A2,c2,rfl,h,j⟩;rw[I.out,q.out];rw[q.out,J.out]at h;obtain⟨d,aL,e,K,aM,_⟩:=lZ h fu;injection e with L e2 M;subst L;subst M;have N:w.heap.size<=w1.heap.size:=j.size;have s:d<w1.heap.size:=K;have t:=fQ h;have O:=fQ j;have u:ab<w1.heap.size:=fu;have l:w1.cell? ⟨d,0,fT⟩=fU (fF fO 126):=(by have:=t.cells (g:=d) rfl 0 (fF fO 126) rfl;rwa[AX]at this);have f:=(r.C j (Aj _)).at_ (k:=0) fu;simp only[hH,AJ,AQ,Aq,Aw]at f;have y:iK 126 x=gh:=nA _
 have z:∀ k,k<1->∃ v:Nat,w1.cell? ⟨ab,m+k,fT⟩=fU (fF fP v)/\iK 126 v=gh/\w1.cell? ⟨d,k,fT⟩=fU (fF fO 126):=by
  intro k G;rcases(show k=0 by omega)with rfl
  ·exact⟨x,f,y,l⟩
 have B:=fQ z;clear h j t r y z;go_wp2_with fail;go_loopw [9] (fun i wr=>∃ k:Nat,k<=1/\i = fF fO k/\Hid (Bw w1.heap.size w1 wr)) (fun i _=>1+1 - (intOf i).toNat)
 case atStart=>exact⟨0,fu,rfl,fQ (Av _ _)⟩
 case round=>
  rename_i wr;obtain⟨k,aN,rfl,c⟩:=hrel;by_cases P:k<1
  ·obtain⟨v,C,D,E⟩:=B.out k P;have aE:(k:Int)<1:=fu;have aF:=(c.out.cell (p:=⟨ab,m+k,fT⟩) u).trans C;have aG:=(c.out.cell (p:=⟨d,k,fT⟩) s).trans E;have Q:=fQ D;clear C D E f l;go_wp2_with fail;go_quiet ((go_at_call 53;exact Az ((oJ 126 v _).mono fun _ _ ⟨h1,h2⟩=>⟨h1.trans (by rw[Q.out]),h2.symm⟩)));go_wp2;exact⟨⟨k+1,fu,fz,fQ (fK c.out _)⟩,fB⟩
  ·obtain rfl:k=1:=fu;have aH:=(c.out.cell (p:=⟨ab,m,fT⟩) u).trans f;have aI:=(c.out.cell (p:=⟨d,0,fT⟩) s).trans l;have F:=fQ (O.trans (c.out.mono N));clear f l  B;go_wp2_with fail;refine gu (oO _) ?_;go_wp2_with (go_at_call 139;refine gu (jK _ _ _ _) ?_);refine gu (aVa _ _) ?_;go_wp2;go_ret2;unfold jW;exact⟨rfl,F.out⟩
theorem eKe(op:Int)(l:Nat)(u:l<10)(z:op=81+(l:Int))(x y:Nat)(hx:x<18446744073709551616)(hy:y<18446744073709551616)(A:Option BJ)(M:Nat)(w:Bk)(hs:Src w A 2 (hH [x,y])):
  By fZ 118 #[fF fO op,fG A 2 M] w (jW ((b01 ((sY x y (wrap64 x) (wrap64 y)).getD l gj),0)) w):=by
 have z1:81<=op:=fu;have z2:op<=90:=fu
 have hg:gQ op=fU (81,10,1,126):=by
  rcases rW op with⟨hg,a,b,z5,z6,z7⟩|⟨hg,a,b⟩|⟨hg,a,b⟩|⟨hg,a,b⟩|⟨hg,a,b⟩|⟨hg,a,b⟩|⟨hg,a,b⟩|⟨hg,a,b⟩|⟨hg,a,b⟩|⟨hg,a,b⟩|⟨hg,a,b⟩|⟨hg,a,b⟩|⟨hg,a,b⟩ <;> first|exact hg|(exfalso;omega)
 have t0:(op == 69)=gj:=eqF fu;have t1:(op == 80)=gj:=eqF fu;have t2:inB op 70 79=gj:=iR fu;have t3:inB op 81 90=gh:=inT fu fu;have N:=fQ z;clear z;have O:=fQ (show(gQ op).isSome=gh by simp[hg]);have P:=fQ (show gJ op = [126,126] by simp[gJ,hg]);have B:=fQ (show(gJ op).length=2 by simp[gJ,hg]);obtain⟨ab,m,rfl,aR⟩:=hs.addr fu;have q:=fQ hs;clear hg hs;go_in;go_wp2_with fail;refine(kV op _).mono ?_;rintro e w1 ⟨A2,c2,rfl,n,f⟩;rw[O.out,B.out];rw[B.out,P.out]at n;obtain⟨c,aS,e,Q,aT,_⟩:=lZ n fu;injection e with R e2 S;subst R;subst S;have T:w.heap.size<=w1.heap.size:=f.size;have C:c<w1.heap.size:=Q;have r:=fQ n;have U:=fQ f;have s:ab<w1.heap.size:=fu;have o:w1.cell? ⟨c,0,fT⟩=fU (fF fO 126):=(by have:=r.cells (g:=c) rfl 0 (fF fO 126) rfl;rwa[AX]at this);have h:=(q.C f (Aj _)).at_ (k:=0) fu;simp only[hH,AJ,AQ,Aq,Aw]at h;have t:w1.cell? ⟨c,1,fT⟩=fU (fF fO 126):=(by have:=r.cells (g:=c) rfl 1 (fF fO 126) rfl;rwa[AX]at this);have j:=(q.C f (Aj _)).at_ (k:=1) fu;simp only[hH,AJ,AQ,Aq,AW]at j;have D:iK 126 x=gh:=nA _;have E:iK 126 y=gh:=nA _
 have F:∀ k,k<2->∃ v:Nat,w1.cell? ⟨ab,m+k,fT⟩=fU (fF fP v)/\iK 126 v=gh/\w1.cell? ⟨c,k,fT⟩=fU (fF fO 126):=by
  intro k u;rcases(show k=0\/k=1 by omega)with rfl|rfl
  ·exact⟨x,h,D,o⟩
  ·exact⟨y,j,E,t⟩
 have G:=fQ F;clear n f r q D F E;go_wp2_with fail;go_loopw [9] (fun i wr=>∃ k:Nat,k<=2/\i = fF fO k/\Hid (Bw w1.heap.size w1 wr)) (fun i _=>2+1 - (intOf i).toNat)
 case atStart=>exact⟨0,fu,rfl,fQ (Av _ _)⟩
 case round=>
  rename_i wr;obtain⟨k,aU,rfl,d⟩:=hrel;by_cases V:k<2
  ·obtain⟨v,H,I,J⟩:=G.out k V;have aJ:(k:Int)<2:=fu;have aK:=(d.out.cell (p:=⟨ab,m+k,fT⟩) s).trans H;have aL:=(d.out.cell (p:=⟨c,k,fT⟩) C).trans J;have W:=fQ I;clear H I J h o j t;go_wp2_with fail;go_quiet ((go_at_call 53;exact Az ((oJ 126 v _).mono fun _ _ ⟨h1,h2⟩=>⟨h1.trans (by rw[W.out]),h2.symm⟩)));go_wp2;exact⟨⟨k+1,fu,fz,fQ (fK d.out _)⟩,fB⟩
  ·obtain rfl:k=2:=fu;have aM:=(d.out.cell (p:=⟨ab,m,fT⟩) s).trans h;have aN:=(d.out.cell (p:=⟨c,0,fT⟩) C).trans o;have aO:=(d.out.cell (p:=⟨ab,m+1,fT⟩) s).trans j;have K:=fQ (U.trans (d.out.mono T));have X:w.heap.size<=wr.heap.size:=K.out.size;clear h o j t G;go_wp2_with fail;refine gu (oO _) ?_;go_wp2_with (go_at_call 139;refine gu (jK _ _ _ _) ?_);go_region_with ((go_at_call 140;refine(eWx _ l x y _ (by have:=N.out;rw[Ac _ fu];omega) u fu fu).mono ?_;rintro e w2 ⟨rfl,L⟩;have Y:=fQ L;clear L))
   all_goals
    go_wp2;go_ret2;unfold jW;exact⟨rfl,K.drew.trans (Y.mono X)⟩
theorem dWj(op:Int)(h:Nat)(o:h<3)(q:op=103+(h:Int))(x:Nat)(r:x<4294967296)(A:Option BJ)(I:Nat)(w:Bk)(hs:Src w A 1 (hH [x])):
  By fZ 118 #[fF fO op,fG A 1 I] w (jW (((lE 32 x).getD h 0,0)) w):=by
 have z1:103<=op:=fu;have z2:op<=105:=fu
 have hg:gQ op=fU (103,3,2,127):=by
  rcases rW op with⟨hg,a,b,z5,z6,z7⟩|⟨hg,a,b⟩|⟨hg,a,b⟩|⟨hg,a,b⟩|⟨hg,a,b⟩|⟨hg,a,b⟩|⟨hg,a,b⟩|⟨hg,a,b⟩|⟨hg,a,b⟩|⟨hg,a,b⟩|⟨hg,a,b⟩|⟨hg,a,b⟩|⟨hg,a,b⟩ <;> first|exact hg|(exfalso;omega)
 have t0:(op == 69)=gj:=eqF fu;have t1:(op == 80)=gj:=eqF fu;have t2:inB op 70 79=gj:=iR fu;have t3:inB op 81 90=gj:=iR fu;have t4:inB op 103 105=gh:=inT fu fu;have J:=fQ q;clear q;have K:=fQ (show(gQ op).isSome=gh by simp[hg]);have L:=fQ (show gJ op = [127] by simp[gJ,hg]);have s:=fQ (show(gJ op).length=1 by simp[gJ,hg]);obtain⟨ab,n,rfl,aM⟩:=hs.addr fu;have t:=fQ hs;clear hg hs;go_in;go_wp2_with fail;refine(kV op _).mono ?_;rintro e w1 ⟨A2,c2,rfl,j,l⟩;rw[K.out,s.out];rw[s.out,L.out]at j;obtain⟨d,aN,e,M,aO,_⟩:=lZ j fu;injection e with N e2 O;subst N;subst O;have P:w.heap.size<=w1.heap.size:=l.size;have u:d<w1.heap.size:=M;have y:=fQ j;have Q:=fQ l;have z:ab<w1.heap.size:=fu;have m:w1.cell? ⟨d,0,fT⟩=fU (fF fO 127):=(by have:=y.cells (g:=d) rfl 0 (fF fO 127) rfl;rwa[AX]at this);have f:=(t.C l (Aj _)).at_ (k:=0) fu;simp only[hH,AJ,AQ,Aq,Aw]at f;have B:iK 127 x=gh:=nB r
 have C:∀ k,k<1->∃ v:Nat,w1.cell? ⟨ab,n+k,fT⟩=fU (fF fP v)/\iK 127 v=gh/\w1.cell? ⟨d,k,fT⟩=fU (fF fO 127):=by
  intro k o;rcases(show k=0 by omega)with rfl
  ·exact⟨x,f,B,m⟩
 have D:=fQ C;clear j l y t B C;go_wp2_with fail;go_loopw [9] (fun i wr=>∃ k:Nat,k<=1/\i = fF fO k/\Hid (Bw w1.heap.size w1 wr)) (fun i _=>1+1 - (intOf i).toNat)
 case atStart=>exact⟨0,fu,rfl,fQ (Av _ _)⟩
 case round=>
  rename_i wr;obtain⟨k,aP,rfl,c⟩:=hrel;by_cases R:k<1
  ·obtain⟨v,E,F,G⟩:=D.out k R;have aF:(k:Int)<1:=fu;have aG:=(c.out.cell (p:=⟨ab,n+k,fT⟩) z).trans E;have aH:=(c.out.cell (p:=⟨d,k,fT⟩) u).trans G;have S:=fQ F;clear E F G f m;go_wp2_with fail;go_quiet ((go_at_call 53;exact Az ((oJ 127 v _).mono fun _ _ ⟨h1,h2⟩=>⟨h1.trans (by rw[S.out]),h2.symm⟩)));go_wp2;exact⟨⟨k+1,fu,fz,fQ (fK c.out _)⟩,fB⟩
  ·obtain rfl:k=1:=fu;have aI:=(c.out.cell (p:=⟨ab,n,fT⟩) z).trans f;have aJ:=(c.out.cell (p:=⟨d,0,fT⟩) u).trans m;have H:=fQ (Q.trans (c.out.mono P));have T:w.heap.size<=wr.heap.size:=H.out.size;clear f m  D;go_wp2_with fail;refine gu (oN _) ?_;go_wp2_with (go_at_call 139;refine gu (jK _ _ _ _) ?_);refine(eYa _ h x _ (by have:=J.out;omega) o r).mono ?_;rintro e w2 ⟨rfl,U⟩;go_wp2;go_ret2;unfold jW;exact⟨rfl,H.trans (U.mono T)⟩
theorem dWk(op:Int)(f:Nat)(z:f<15)(B:op=106+(f:Int))(x y:Nat)(C:x<4294967296)(D:y<4294967296)(A:Option BJ)(O:Nat)(w:Bk)(hs:Src w A 2 (hH [x,y])):
  By fZ 118 #[fF fO op,fG A 2 O] w (jW (gY 3 127 f x y) w):=by
 have z1:106<=op:=fu;have z2:op<=120:=fu
 have hg:gQ op=fU (106,15,3,127):=by
  rcases rW op with⟨hg,a,b,z5,z6,z7⟩|⟨hg,a,b⟩|⟨hg,a,b⟩|⟨hg,a,b⟩|⟨hg,a,b⟩|⟨hg,a,b⟩|⟨hg,a,b⟩|⟨hg,a,b⟩|⟨hg,a,b⟩|⟨hg,a,b⟩|⟨hg,a,b⟩|⟨hg,a,b⟩|⟨hg,a,b⟩ <;> first|exact hg|(exfalso;omega)
 have t0:(op == 69)=gj:=eqF fu;have t1:(op == 80)=gj:=eqF fu;have t2:inB op 70 79=gj:=iR fu;have t3:inB op 81 90=gj:=iR fu;have t4:inB op 103 105=gj:=iR fu;have t5:inB op 121 123=gj:=iR fu;have t6:inB op 106 120=gh:=inT fu fu;have P:=fQ B;clear B;have Q:=fQ (show(gQ op).isSome=gh by simp[hg]);have R:=fQ (show gJ op = [127,127] by simp[gJ,hg]);have E:=fQ (show(gJ op).length=2 by simp[gJ,hg]);obtain⟨ab,m,rfl,aO⟩:=hs.addr fu;have r:=fQ hs;clear hg hs;go_in;go_wp2_with fail;refine(kV op _).mono ?_;rintro e w1 ⟨A2,c2,rfl,n,h⟩;rw[Q.out,E.out];rw[E.out,R.out]at n;obtain⟨c,aP,e,S,aQ,_⟩:=lZ n fu;injection e with T e2 U;subst T;subst U;have V:w.heap.size<=w1.heap.size:=h.size;have F:c<w1.heap.size:=S;have s:=fQ n;have W:=fQ h;have t:ab<w1.heap.size:=fu;have o:w1.cell? ⟨c,0,fT⟩=fU (fF fO 127):=(by have:=s.cells (g:=c) rfl 0 (fF fO 127) rfl;rwa[AX]at this);have j:=(r.C h (Aj _)).at_ (k:=0) fu;simp only[hH,AJ,AQ,Aq,Aw]at j;have u:w1.cell? ⟨c,1,fT⟩=fU (fF fO 127):=(by have:=s.cells (g:=c) rfl 1 (fF fO 127) rfl;rwa[AX]at this);have l:=(r.C h (Aj _)).at_ (k:=1) fu;simp only[hH,AJ,AQ,Aq,AW]at l;have G:iK 127 x=gh:=nB C;have H:iK 127 y=gh:=nB D
 have I:∀ k,k<2->∃ v:Nat,w1.cell? ⟨ab,m+k,fT⟩=fU (fF fP v)/\iK 127 v=gh/\w1.cell? ⟨c,k,fT⟩=fU (fF fO 127):=by
  intro k z;rcases(show k=0\/k=1 by omega)with rfl|rfl
  ·exact⟨x,j,G,o⟩
  ·exact⟨y,l,H,u⟩
 have J:=fQ I;clear n h s r G I H;go_wp2_with fail;go_loopw [9] (fun i wr=>∃ k:Nat,k<=2/\i = fF fO k/\Hid (Bw w1.heap.size w1 wr)) (fun i _=>2+1 - (intOf i).toNat)
 case atStart=>exact⟨0,fu,rfl,fQ (Av _ _)⟩
 case round=>
  rename_i wr;obtain⟨k,aR,rfl,d⟩:=hrel;by_cases X:k<2
  ·obtain⟨v,K,L,M⟩:=J.out k X;have aI:(k:Int)<2:=fu;have aJ:=(d.out.cell (p:=⟨ab,m+k,fT⟩) t).trans K;have aK:=(d.out.cell (p:=⟨c,k,fT⟩) F).trans M;have Y:=fQ L;clear K L M j o l u;go_wp2_with fail;go_quiet ((go_at_call 53;exact Az ((oJ 127 v _).mono fun _ _ ⟨h1,h2⟩=>⟨h1.trans (by rw[Y.out]),h2.symm⟩)));go_wp2;exact⟨⟨k+1,fu,fz,fQ (fK d.out _)⟩,fB⟩
  ·obtain rfl:k=2:=fu;have aL:=(d.out.cell (p:=⟨ab,m,fT⟩) t).trans j;have aM:=(d.out.cell (p:=⟨c,0,fT⟩) F).trans o;have aN:=(d.out.cell (p:=⟨ab,m+1,fT⟩) t).trans l;have N:=fQ (W.trans (d.out.mono V));clear j o l u J;go_wp2_with fail;refine gu (oN _) ?_;generalize q:gY 3 127 f x y=Z;replace q:=fQ q;obtain⟨aU,aV⟩:=Z;go_wp2_with (go_at_call 139;refine gu (jK _ _ _ _) ?_);go_quiet ((go_at_call 142;exact Az ((eYc _ f x y _ (by have:=P.out;rw[Ac _ fu];omega) z C D).mono fun _ _ ⟨h1,h2⟩=>⟨h1.trans (by rw[q.out]),h2⟩)));go_wp2;go_ret2;unfold jW;rw[q.out];exact⟨rfl,fK N.out _⟩
theorem dWl(op:Int)(h:Nat)(o:h<3)(q:op=121+(h:Int))(x:Nat)(H:x<18446744073709551616)(A:Option BJ)(I:Nat)(w:Bk)(hs:Src w A 1 (hH [x])):
  By fZ 118 #[fF fO op,fG A 1 I] w (jW (((lE 64 x).getD h 0,0)) w):=by
 have z1:121<=op:=fu;have z2:op<=123:=fu
 have hg:gQ op=fU (121,3,2,126):=by
  rcases rW op with⟨hg,a,b,z5,z6,z7⟩|⟨hg,a,b⟩|⟨hg,a,b⟩|⟨hg,a,b⟩|⟨hg,a,b⟩|⟨hg,a,b⟩|⟨hg,a,b⟩|⟨hg,a,b⟩|⟨hg,a,b⟩|⟨hg,a,b⟩|⟨hg,a,b⟩|⟨hg,a,b⟩|⟨hg,a,b⟩ <;> first|exact hg|(exfalso;omega)
 have t0:(op == 69)=gj:=eqF fu;have t1:(op == 80)=gj:=eqF fu;have t2:inB op 70 79=gj:=iR fu;have t3:inB op 81 90=gj:=iR fu;have t4:inB op 103 105=gj:=iR fu;have t5:inB op 121 123=gh:=inT fu fu;have J:=fQ q;clear q;have K:=fQ (show(gQ op).isSome=gh by simp[hg]);have L:=fQ (show gJ op = [126] by simp[gJ,hg]);have r:=fQ (show(gJ op).length=1 by simp[gJ,hg]);obtain⟨ab,n,rfl,aM⟩:=hs.addr fu;have s:=fQ hs;clear hg hs;go_in;go_wp2_with fail;refine(kV op _).mono ?_;rintro e w1 ⟨A2,c2,rfl,j,l⟩;rw[K.out,r.out];rw[r.out,L.out]at j;obtain⟨d,aN,e,M,aO,_⟩:=lZ j fu;injection e with N e2 O;subst N;subst O;have P:w.heap.size<=w1.heap.size:=l.size;have t:d<w1.heap.size:=M;have u:=fQ j;have Q:=fQ l;have y:ab<w1.heap.size:=fu;have m:w1.cell? ⟨d,0,fT⟩=fU (fF fO 126):=(by have:=u.cells (g:=d) rfl 0 (fF fO 126) rfl;rwa[AX]at this);have f:=(s.C l (Aj _)).at_ (k:=0) fu;simp only[hH,AJ,AQ,Aq,Aw]at f;have z:iK 126 x=gh:=nA _
 have B:∀ k,k<1->∃ v:Nat,w1.cell? ⟨ab,n+k,fT⟩=fU (fF fP v)/\iK 126 v=gh/\w1.cell? ⟨d,k,fT⟩=fU (fF fO 126):=by
  intro k o;rcases(show k=0 by omega)with rfl
  ·exact⟨x,f,z,m⟩
 have C:=fQ B;clear j l u s z B;go_wp2_with fail;go_loopw [9] (fun i wr=>∃ k:Nat,k<=1/\i = fF fO k/\Hid (Bw w1.heap.size w1 wr)) (fun i _=>1+1 - (intOf i).toNat)
 case atStart=>exact⟨0,fu,rfl,fQ (Av _ _)⟩
 case round=>
  rename_i wr;obtain⟨k,aP,rfl,c⟩:=hrel;by_cases R:k<1
  ·obtain⟨v,D,E,F⟩:=C.out k R;have aF:(k:Int)<1:=fu;have aG:=(c.out.cell (p:=⟨ab,n+k,fT⟩) y).trans D;have aH:=(c.out.cell (p:=⟨d,k,fT⟩) t).trans F;have S:=fQ E;clear D E F f m;go_wp2_with fail;go_quiet ((go_at_call 53;exact Az ((oJ 126 v _).mono fun _ _ ⟨h1,h2⟩=>⟨h1.trans (by rw[S.out]),h2.symm⟩)));go_wp2;exact⟨⟨k+1,fu,fz,fQ (fK c.out _)⟩,fB⟩
  ·obtain rfl:k=1:=fu;have aI:=(c.out.cell (p:=⟨ab,n,fT⟩) y).trans f;have aJ:=(c.out.cell (p:=⟨d,0,fT⟩) t).trans m;have G:=fQ (Q.trans (c.out.mono P));have T:w.heap.size<=wr.heap.size:=G.out.size;clear f m  C;go_wp2_with fail;refine gu (oO _) ?_;go_wp2_with (go_at_call 139;refine gu (jK _ _ _ _) ?_);refine(eWz _ h x _ (by have:=J.out;omega) o H).mono ?_;rintro e w2 ⟨rfl,U⟩;go_wp2;go_ret2;unfold jW;exact⟨rfl,G.trans (U.mono T)⟩
theorem dWm(op:Int)(f:Nat)(z:f<15)(B:op=124+(f:Int))(x y:Nat)(M:x<18446744073709551616)(N:y<18446744073709551616)(A:Option BJ)(O:Nat)(w:Bk)(hs:Src w A 2 (hH [x,y])):
  By fZ 118 #[fF fO op,fG A 2 O] w (jW (gY 3 126 f x y) w):=by
 have z1:124<=op:=fu;have z2:op<=138:=fu
 have hg:gQ op=fU (124,15,3,126):=by
  rcases rW op with⟨hg,a,b,z5,z6,z7⟩|⟨hg,a,b⟩|⟨hg,a,b⟩|⟨hg,a,b⟩|⟨hg,a,b⟩|⟨hg,a,b⟩|⟨hg,a,b⟩|⟨hg,a,b⟩|⟨hg,a,b⟩|⟨hg,a,b⟩|⟨hg,a,b⟩|⟨hg,a,b⟩|⟨hg,a,b⟩ <;> first|exact hg|(exfalso;omega)
 have t0:(op == 69)=gj:=eqF fu;have t1:(op == 80)=gj:=eqF fu;have t2:inB op 70 79=gj:=iR fu;have t3:inB op 81 90=gj:=iR fu;have t4:inB op 103 105=gj:=iR fu;have t5:inB op 121 123=gj:=iR fu;have t6:inB op 106 120=gj:=iR fu;have t7:inB op 124 138=gh:=inT fu fu;have P:=fQ B;clear B;have Q:=fQ (show(gQ op).isSome=gh by simp[hg]);have R:=fQ (show gJ op = [126,126] by simp[gJ,hg]);have C:=fQ (show(gJ op).length=2 by simp[gJ,hg]);obtain⟨ab,m,rfl,aO⟩:=hs.addr fu;have r:=fQ hs;clear hg hs;go_in;go_wp2_with fail;refine(kV op _).mono ?_;rintro e w1 ⟨A2,c2,rfl,n,h⟩;rw[Q.out,C.out];rw[C.out,R.out]at n;obtain⟨c,aP,e,S,aQ,_⟩:=lZ n fu;injection e with T e2 U;subst T;subst U;have V:w.heap.size<=w1.heap.size:=h.size;have D:c<w1.heap.size:=S;have s:=fQ n;have W:=fQ h;have t:ab<w1.heap.size:=fu;have o:w1.cell? ⟨c,0,fT⟩=fU (fF fO 126):=(by have:=s.cells (g:=c) rfl 0 (fF fO 126) rfl;rwa[AX]at this);have j:=(r.C h (Aj _)).at_ (k:=0) fu;simp only[hH,AJ,AQ,Aq,Aw]at j;have u:w1.cell? ⟨c,1,fT⟩=fU (fF fO 126):=(by have:=s.cells (g:=c) rfl 1 (fF fO 126) rfl;rwa[AX]at this);have l:=(r.C h (Aj _)).at_ (k:=1) fu;simp only[hH,AJ,AQ,Aq,AW]at l;have E:iK 126 x=gh:=nA _;have F:iK 126 y=gh:=nA _
 have G:∀ k,k<2->∃ v:Nat,w1.cell? ⟨ab,m+k,fT⟩=fU (fF fP v)/\iK 126 v=gh/\w1.cell? ⟨c,k,fT⟩=fU (fF fO 126):=by
  intro k z;rcases(show k=0\/k=1 by omega)with rfl|rfl
  ·exact⟨x,j,E,o⟩
  ·exact⟨y,l,F,u⟩
 have H:=fQ G;clear n h s r E G F;go_wp2_with fail;go_loopw [9] (fun i wr=>∃ k:Nat,k<=2/\i = fF fO k/\Hid (Bw w1.heap.size w1 wr)) (fun i _=>2+1 - (intOf i).toNat)
 case atStart=>exact⟨0,fu,rfl,fQ (Av _ _)⟩
 case round=>
  rename_i wr;obtain⟨k,aR,rfl,d⟩:=hrel;by_cases X:k<2
  ·obtain⟨v,I,J,K⟩:=H.out k X;have aI:(k:Int)<2:=fu;have aJ:=(d.out.cell (p:=⟨ab,m+k,fT⟩) t).trans I;have aK:=(d.out.cell (p:=⟨c,k,fT⟩) D).trans K;have Y:=fQ J;clear I J K j o l u;go_wp2_with fail;go_quiet ((go_at_call 53;exact Az ((oJ 126 v _).mono fun _ _ ⟨h1,h2⟩=>⟨h1.trans (by rw[Y.out]),h2.symm⟩)));go_wp2;exact⟨⟨k+1,fu,fz,fQ (fK d.out _)⟩,fB⟩
  ·obtain rfl:k=2:=fu;have aL:=(d.out.cell (p:=⟨ab,m,fT⟩) t).trans j;have aM:=(d.out.cell (p:=⟨c,0,fT⟩) D).trans o;have aN:=(d.out.cell (p:=⟨ab,m+1,fT⟩) t).trans l;have L:=fQ (W.trans (d.out.mono V));clear j o l u H;go_wp2_with fail;refine gu (oO _) ?_;generalize q:gY 3 126 f x y=Z;replace q:=fQ q;obtain⟨aU,aV⟩:=Z;go_wp2_with (go_at_call 139;refine gu (jK _ _ _ _) ?_);go_quiet ((go_at_call 142;exact Az ((eYb _ f x y _ (by have:=P.out;rw[Ac _ fu];omega) z M N).mono fun _ _ ⟨h1,h2⟩=>⟨h1.trans (by rw[q.out]),h2⟩)));go_wp2;go_ret2;unfold jW;rw[q.out];exact⟨rfl,fK L.out _⟩
theorem dWn(op:Int)(n:Nat)(G:n<1)(o:op=167+(n:Int))(x:Nat)(hx:x<18446744073709551616)(A:Option BJ)(H:Nat)(w:Bk)(hs:Src w A 1 (hH [x])):
  By fZ 118 #[fF fO op,fG A 1 H] w (jW (((x:Int) % 4294967296,0)) w):=by
 have z1:167<=op:=fu;have z2:op<=167:=fu
 have hg:gQ op=fU (167,1,4,126):=by
  rcases rW op with⟨hg,a,b,z5,z6,z7⟩|⟨hg,a,b⟩|⟨hg,a,b⟩|⟨hg,a,b⟩|⟨hg,a,b⟩|⟨hg,a,b⟩|⟨hg,a,b⟩|⟨hg,a,b⟩|⟨hg,a,b⟩|⟨hg,a,b⟩|⟨hg,a,b⟩|⟨hg,a,b⟩|⟨hg,a,b⟩ <;> first|exact hg|(exfalso;omega)
 have t0:(op == 69)=gj:=eqF fu;have t1:(op == 80)=gj:=eqF fu;have t2:inB op 70 79=gj:=iR fu;have t3:inB op 81 90=gj:=iR fu;have t4:inB op 103 105=gj:=iR fu;have t5:inB op 121 123=gj:=iR fu;have t6:inB op 106 120=gj:=iR fu;have t7:inB op 124 138=gj:=iR fu;have t8:(op == 167)=gh:=pr fu fu;clear o;have I:=fQ (show(gQ op).isSome=gh by simp[hg]);have J:=fQ (show gJ op = [126] by simp[gJ,hg]);have q:=fQ (show(gJ op).length=1 by simp[gJ,hg]);obtain⟨ab,m,rfl,aK⟩:=hs.addr fu;have r:=fQ hs;clear hg hs;go_in;go_wp2_with fail;refine(kV op _).mono ?_;rintro e w1 ⟨A2,c2,rfl,h,j⟩;rw[I.out,q.out];rw[q.out,J.out]at h;obtain⟨d,aL,e,K,aM,_⟩:=lZ h fu;injection e with L e2 M;subst L;subst M;have N:w.heap.size<=w1.heap.size:=j.size;have s:d<w1.heap.size:=K;have t:=fQ h;have O:=fQ j;have u:ab<w1.heap.size:=fu;have l:w1.cell? ⟨d,0,fT⟩=fU (fF fO 126):=(by have:=t.cells (g:=d) rfl 0 (fF fO 126) rfl;rwa[AX]at this);have f:=(r.C j (Aj _)).at_ (k:=0) fu;simp only[hH,AJ,AQ,Aq,Aw]at f;have y:iK 126 x=gh:=nA _
 have z:∀ k,k<1->∃ v:Nat,w1.cell? ⟨ab,m+k,fT⟩=fU (fF fP v)/\iK 126 v=gh/\w1.cell? ⟨d,k,fT⟩=fU (fF fO 126):=by
  intro k G;rcases(show k=0 by omega)with rfl
  ·exact⟨x,f,y,l⟩
 have B:=fQ z;clear h j t r y z;go_wp2_with fail;go_loopw [9] (fun i wr=>∃ k:Nat,k<=1/\i = fF fO k/\Hid (Bw w1.heap.size w1 wr)) (fun i _=>1+1 - (intOf i).toNat)
 case atStart=>exact⟨0,fu,rfl,fQ (Av _ _)⟩
 case round=>
  rename_i wr;obtain⟨k,aN,rfl,c⟩:=hrel;by_cases P:k<1
  ·obtain⟨v,C,D,E⟩:=B.out k P;have aE:(k:Int)<1:=fu;have aF:=(c.out.cell (p:=⟨ab,m+k,fT⟩) u).trans C;have aG:=(c.out.cell (p:=⟨d,k,fT⟩) s).trans E;have Q:=fQ D;clear C D E f l;go_wp2_with fail;go_quiet ((go_at_call 53;exact Az ((oJ 126 v _).mono fun _ _ ⟨h1,h2⟩=>⟨h1.trans (by rw[Q.out]),h2.symm⟩)));go_wp2;exact⟨⟨k+1,fu,fz,fQ (fK c.out _)⟩,fB⟩
  ·obtain rfl:k=1:=fu;have aH:=(c.out.cell (p:=⟨ab,m,fT⟩) u).trans f;have aI:=(c.out.cell (p:=⟨d,0,fT⟩) s).trans l;have F:=fQ (O.trans (c.out.mono N));clear f l  B;go_wp2_with fail;refine gu (oO _) ?_;go_wp2_with (go_at_call 139;refine gu (jK _ _ _ _) ?_);refine gu (mS _ _ fu fu) ?_;go_wp2;go_ret2;unfold jW;exact⟨rfl,F.out⟩
theorem dWc(x:Nat)(C:x<4294967296)(A:Option BJ)(D:Nat)(w:Bk)(hs:Src w A 1 (hH [x])):
  By fZ 118 #[fF fO 172,fG A 1 D] w (jW ((IntKind.u64.wrap (wrap64 (wrap32 x)),0)) w):=by
 have hg:gQ 172=fU (172,2,5,127):=fC;have t0:inB 172 70 79=gj:=fy;have t1:inB 172 81 90=gj:=fy;have t2:inB 172 103 105=gj:=fy;have t3:inB 172 121 123=gj:=fy;have t4:inB 172 106 120=gj:=fy;have t5:inB 172 124 138=gj:=fy;have E:=fQ (show(gQ 172).isSome=gh by simp[hg]);have F:=fQ (show gJ 172 = [127] by simp[gJ,hg]);have l:=fQ (show(gJ 172).length=1 by simp[gJ,hg]);obtain⟨ab,j,rfl,aI⟩:=hs.addr fu;have m:=fQ hs;clear hg hs;go_in;go_wp2_with fail;refine(kV 172 _).mono ?_;rintro e w1 ⟨A2,c2,rfl,d,f⟩;rw[E.out,l.out];rw[l.out,F.out]at d;obtain⟨b,aJ,e,G,aK,_⟩:=lZ d fu;injection e with H e2 I;subst H;subst I;have J:w.heap.size<=w1.heap.size:=f.size;have n:b<w1.heap.size:=G;have o:=fQ d;have K:=fQ f;have q:ab<w1.heap.size:=fu;have h:w1.cell? ⟨b,0,fT⟩=fU (fF fO 127):=(by have:=o.cells (g:=b) rfl 0 (fF fO 127) rfl;rwa[AX]at this);have c:=(m.C f (Aj _)).at_ (k:=0) fu;simp only[hH,AJ,AQ,Aq,Aw]at c;have r:iK 127 x=gh:=nB C
 have s:∀ k,k<1->∃ v:Nat,w1.cell? ⟨ab,j+k,fT⟩=fU (fF fP v)/\iK 127 v=gh/\w1.cell? ⟨b,k,fT⟩=fU (fF fO 127):=by
  intro k hk;rcases(show k=0 by omega)with rfl
  ·exact⟨x,c,r,h⟩
 have t:=fQ s;clear d f o m r s;go_wp2_with fail;go_loopw [9] (fun i wr=>∃ k:Nat,k<=1/\i = fF fO k/\Hid (Bw w1.heap.size w1 wr)) (fun i _=>1+1 - (intOf i).toNat)
 case atStart=>exact⟨0,fu,rfl,fQ (Av _ _)⟩
 case round=>
  rename_i wr;obtain⟨k,aL,rfl,a⟩:=hrel;by_cases L:k<1
  ·obtain⟨v,u,y,z⟩:=t.out k L;have aD:(k:Int)<1:=fu;have aE:=(a.out.cell (p:=⟨ab,j+k,fT⟩) q).trans u;have aF:=(a.out.cell (p:=⟨b,k,fT⟩) n).trans z;have M:=fQ y;clear u y z c h;go_wp2_with fail;go_quiet ((go_at_call 53;exact Az ((oJ 127 v _).mono fun _ _ ⟨h1,h2⟩=>⟨h1.trans (by rw[M.out]),h2.symm⟩)));go_wp2;exact⟨⟨k+1,fu,fz,fQ (fK a.out _)⟩,fB⟩
  ·obtain rfl:k=1:=fu;have aG:=(a.out.cell (p:=⟨ab,j,fT⟩) q).trans c;have aH:=(a.out.cell (p:=⟨b,0,fT⟩) n).trans h;have B:=fQ (K.trans (a.out.mono J));clear c h  t;go_wp2_with fail;refine gu (oN _) ?_;go_wp2_with (go_at_call 139;refine gu (jK _ _ _ _) ?_);refine gu (rz (x:Int) _ fu fu) ?_;go_wp2;go_ret2;unfold jW;exact⟨hJ (by first|rfl|rw[eYd]),B.out⟩
theorem dWd(x:Nat)(C:x<4294967296)(A:Option BJ)(D:Nat)(w:Bk)(hs:Src w A 1 (hH [x])):
  By fZ 118 #[fF fO 173,fG A 1 D] w (jW (((x:Int),0)) w):=by
 have hg:gQ 173=fU (172,2,5,127):=fC;have t0:inB 173 70 79=gj:=fy;have t1:inB 173 81 90=gj:=fy;have t2:inB 173 103 105=gj:=fy;have t3:inB 173 121 123=gj:=fy;have t4:inB 173 106 120=gj:=fy;have t5:inB 173 124 138=gj:=fy;have E:=fQ (show(gQ 173).isSome=gh by simp[hg]);have F:=fQ (show gJ 173 = [127] by simp[gJ,hg]);have l:=fQ (show(gJ 173).length=1 by simp[gJ,hg]);obtain⟨ab,j,rfl,aI⟩:=hs.addr fu;have m:=fQ hs;clear hg hs;go_in;go_wp2_with fail;refine(kV 173 _).mono ?_;rintro e w1 ⟨A2,c2,rfl,d,f⟩;rw[E.out,l.out];rw[l.out,F.out]at d;obtain⟨b,aJ,e,G,aK,_⟩:=lZ d fu;injection e with H e2 I;subst H;subst I;have J:w.heap.size<=w1.heap.size:=f.size;have n:b<w1.heap.size:=G;have o:=fQ d;have K:=fQ f;have q:ab<w1.heap.size:=fu;have h:w1.cell? ⟨b,0,fT⟩=fU (fF fO 127):=(by have:=o.cells (g:=b) rfl 0 (fF fO 127) rfl;rwa[AX]at this);have c:=(m.C f (Aj _)).at_ (k:=0) fu;simp only[hH,AJ,AQ,Aq,Aw]at c;have r:iK 127 x=gh:=nB C
 have s:∀ k,k<1->∃ v:Nat,w1.cell? ⟨ab,j+k,fT⟩=fU (fF fP v)/\iK 127 v=gh/\w1.cell? ⟨b,k,fT⟩=fU (fF fO 127):=by
  intro k hk;rcases(show k=0 by omega)with rfl
  ·exact⟨x,c,r,h⟩
 have t:=fQ s;clear d f o m r s;go_wp2_with fail;go_loopw [9] (fun i wr=>∃ k:Nat,k<=1/\i = fF fO k/\Hid (Bw w1.heap.size w1 wr)) (fun i _=>1+1 - (intOf i).toNat)
 case atStart=>exact⟨0,fu,rfl,fQ (Av _ _)⟩
 case round=>
  rename_i wr;obtain⟨k,aL,rfl,a⟩:=hrel;by_cases L:k<1
  ·obtain⟨v,u,y,z⟩:=t.out k L;have aD:(k:Int)<1:=fu;have aE:=(a.out.cell (p:=⟨ab,j+k,fT⟩) q).trans u;have aF:=(a.out.cell (p:=⟨b,k,fT⟩) n).trans z;have M:=fQ y;clear u y z c h;go_wp2_with fail;go_quiet ((go_at_call 53;exact Az ((oJ 127 v _).mono fun _ _ ⟨h1,h2⟩=>⟨h1.trans (by rw[M.out]),h2.symm⟩)));go_wp2;exact⟨⟨k+1,fu,fz,fQ (fK a.out _)⟩,fB⟩
  ·obtain rfl:k=1:=fu;have aG:=(a.out.cell (p:=⟨ab,j,fT⟩) q).trans c;have aH:=(a.out.cell (p:=⟨b,0,fT⟩) n).trans h;have B:=fQ (K.trans (a.out.mono J));clear c h  t;go_wp2_with fail;refine gu (oN _) ?_;go_wp2_with (go_at_call 139;refine gu (jK _ _ _ _) ?_);go_ret2;unfold jW;exact⟨rfl,B.out⟩
theorem dWe(x:Nat)(C:x<4294967296)(A:Option BJ)(D:Nat)(w:Bk)(hs:Src w A 1 (hH [x])):
  By fZ 118 #[fF fO 192,fG A 1 D] w (jW ((tZ 0 127 x,0)) w):=by
 have hg:gQ 192=fU (192,2,6,127):=fC;have t0:inB 192 70 79=gj:=fy;have t1:inB 192 81 90=gj:=fy;have t2:inB 192 103 105=gj:=fy;have t3:inB 192 121 123=gj:=fy;have t4:inB 192 106 120=gj:=fy;have t5:inB 192 124 138=gj:=fy;have E:=fQ (show(gQ 192).isSome=gh by simp[hg]);have F:=fQ (show gJ 192 = [127] by simp[gJ,hg]);have l:=fQ (show(gJ 192).length=1 by simp[gJ,hg]);obtain⟨ab,j,rfl,aJ⟩:=hs.addr fu;have m:=fQ hs;clear hg hs;go_in;go_wp2_with fail;refine(kV 192 _).mono ?_;rintro e w1 ⟨A2,c2,rfl,d,f⟩;rw[E.out,l.out];rw[l.out,F.out]at d;obtain⟨b,aK,e,G,aL,_⟩:=lZ d fu;injection e with H e2 I;subst H;subst I;have J:w.heap.size<=w1.heap.size:=f.size;have n:b<w1.heap.size:=G;have o:=fQ d;have K:=fQ f;have q:ab<w1.heap.size:=fu;have h:w1.cell? ⟨b,0,fT⟩=fU (fF fO 127):=(by have:=o.cells (g:=b) rfl 0 (fF fO 127) rfl;rwa[AX]at this);have c:=(m.C f (Aj _)).at_ (k:=0) fu;simp only[hH,AJ,AQ,Aq,Aw]at c;have r:iK 127 x=gh:=nB C
 have s:∀ k,k<1->∃ v:Nat,w1.cell? ⟨ab,j+k,fT⟩=fU (fF fP v)/\iK 127 v=gh/\w1.cell? ⟨b,k,fT⟩=fU (fF fO 127):=by
  intro k hk;rcases(show k=0 by omega)with rfl
  ·exact⟨x,c,r,h⟩
 have t:=fQ s;clear d f o m r s;go_wp2_with fail;go_loopw [9] (fun i wr=>∃ k:Nat,k<=1/\i = fF fO k/\Hid (Bw w1.heap.size w1 wr)) (fun i _=>1+1 - (intOf i).toNat)
 case atStart=>exact⟨0,fu,rfl,fQ (Av _ _)⟩
 case round=>
  rename_i wr;obtain⟨k,aM,rfl,a⟩:=hrel;by_cases L:k<1
  ·obtain⟨v,u,y,z⟩:=t.out k L;have aD:(k:Int)<1:=fu;have aE:=(a.out.cell (p:=⟨ab,j+k,fT⟩) q).trans u;have aF:=(a.out.cell (p:=⟨b,k,fT⟩) n).trans z;have M:=fQ y;clear u y z c h;go_wp2_with fail;go_quiet ((go_at_call 53;exact Az ((oJ 127 v _).mono fun _ _ ⟨h1,h2⟩=>⟨h1.trans (by rw[M.out]),h2.symm⟩)));go_wp2;exact⟨⟨k+1,fu,fz,fQ (fK a.out _)⟩,fB⟩
  ·obtain rfl:k=1:=fu;have aG:=(a.out.cell (p:=⟨ab,j,fT⟩) q).trans c;have aH:=(a.out.cell (p:=⟨b,0,fT⟩) n).trans h;have B:=fQ (K.trans (a.out.mono J));have N:w.heap.size<=wr.heap.size:=B.out.size;have aN:ab<wr.heap.size:=(by have:=a.out.size;omega);clear c h  t;go_wp2_with fail;refine gu (oN _) ?_;go_wp2_with (go_at_call 139;refine gu (jK _ _ _ _) ?_);refine gu (cKo (x:Int) _ fu fu) ?_;go_wp2_with fail;refine gu (mS _ _ (by first|exact(nV _).1|omega) (by first|exact(nV _).2|omega)) ?_;go_wp2;go_ret2;unfold jW;exact⟨hJ (eYf x),B.alloc N _⟩
theorem dWf(x:Nat)(C:x<4294967296)(A:Option BJ)(D:Nat)(w:Bk)(hs:Src w A 1 (hH [x])):
  By fZ 118 #[fF fO 193,fG A 1 D] w (jW ((tZ 1 127 x,0)) w):=by
 have hg:gQ 193=fU (192,2,6,127):=fC;have t0:inB 193 70 79=gj:=fy;have t1:inB 193 81 90=gj:=fy;have t2:inB 193 103 105=gj:=fy;have t3:inB 193 121 123=gj:=fy;have t4:inB 193 106 120=gj:=fy;have t5:inB 193 124 138=gj:=fy;have E:=fQ (show(gQ 193).isSome=gh by simp[hg]);have F:=fQ (show gJ 193 = [127] by simp[gJ,hg]);have l:=fQ (show(gJ 193).length=1 by simp[gJ,hg]);obtain⟨ab,j,rfl,aJ⟩:=hs.addr fu;have m:=fQ hs;clear hg hs;go_in;go_wp2_with fail;refine(kV 193 _).mono ?_;rintro e w1 ⟨A2,c2,rfl,d,f⟩;rw[E.out,l.out];rw[l.out,F.out]at d;obtain⟨b,aK,e,G,aL,_⟩:=lZ d fu;injection e with H e2 I;subst H;subst I;have J:w.heap.size<=w1.heap.size:=f.size;have n:b<w1.heap.size:=G;have o:=fQ d;have K:=fQ f;have q:ab<w1.heap.size:=fu;have h:w1.cell? ⟨b,0,fT⟩=fU (fF fO 127):=(by have:=o.cells (g:=b) rfl 0 (fF fO 127) rfl;rwa[AX]at this);have c:=(m.C f (Aj _)).at_ (k:=0) fu;simp only[hH,AJ,AQ,Aq,Aw]at c;have r:iK 127 x=gh:=nB C
 have s:∀ k,k<1->∃ v:Nat,w1.cell? ⟨ab,j+k,fT⟩=fU (fF fP v)/\iK 127 v=gh/\w1.cell? ⟨b,k,fT⟩=fU (fF fO 127):=by
  intro k hk;rcases(show k=0 by omega)with rfl
  ·exact⟨x,c,r,h⟩
 have t:=fQ s;clear d f o m r s;go_wp2_with fail;go_loopw [9] (fun i wr=>∃ k:Nat,k<=1/\i = fF fO k/\Hid (Bw w1.heap.size w1 wr)) (fun i _=>1+1 - (intOf i).toNat)
 case atStart=>exact⟨0,fu,rfl,fQ (Av _ _)⟩
 case round=>
  rename_i wr;obtain⟨k,aM,rfl,a⟩:=hrel;by_cases L:k<1
  ·obtain⟨v,u,y,z⟩:=t.out k L;have aD:(k:Int)<1:=fu;have aE:=(a.out.cell (p:=⟨ab,j+k,fT⟩) q).trans u;have aF:=(a.out.cell (p:=⟨b,k,fT⟩) n).trans z;have M:=fQ y;clear u y z c h;go_wp2_with fail;go_quiet ((go_at_call 53;exact Az ((oJ 127 v _).mono fun _ _ ⟨h1,h2⟩=>⟨h1.trans (by rw[M.out]),h2.symm⟩)));go_wp2;exact⟨⟨k+1,fu,fz,fQ (fK a.out _)⟩,fB⟩
  ·obtain rfl:k=1:=fu;have aG:=(a.out.cell (p:=⟨ab,j,fT⟩) q).trans c;have aH:=(a.out.cell (p:=⟨b,0,fT⟩) n).trans h;have B:=fQ (K.trans (a.out.mono J));have N:w.heap.size<=wr.heap.size:=B.out.size;have aN:ab<wr.heap.size:=(by have:=a.out.size;omega);clear c h  t;go_wp2_with fail;refine gu (oN _) ?_;go_wp2_with (go_at_call 139;refine gu (jK _ _ _ _) ?_);refine gu (cXv (x:Int) _ fu fu) ?_;go_wp2_with fail;refine gu (mS _ _ (by first|exact(nV _).1|omega) (by first|exact(nV _).2|omega)) ?_;go_wp2;go_ret2;unfold jW;exact⟨hJ (eKa x),B.alloc N _⟩
theorem dWg(x:Nat)(hx:x<18446744073709551616)(A:Option BJ)(C:Nat)(w:Bk)(hs:Src w A 1 (hH [x])):
  By fZ 118 #[fF fO 194,fG A 1 C] w (jW ((tZ 0 126 x,0)) w):=by
 have hg:gQ 194=fU (194,3,6,126):=fC;have t0:inB 194 70 79=gj:=fy;have t1:inB 194 81 90=gj:=fy;have t2:inB 194 103 105=gj:=fy;have t3:inB 194 121 123=gj:=fy;have t4:inB 194 106 120=gj:=fy;have t5:inB 194 124 138=gj:=fy;have D:=fQ (show(gQ 194).isSome=gh by simp[hg]);have E:=fQ (show gJ 194 = [126] by simp[gJ,hg]);have l:=fQ (show(gJ 194).length=1 by simp[gJ,hg]);obtain⟨ab,j,rfl,aJ⟩:=hs.addr fu;have m:=fQ hs;clear hg hs;go_in;go_wp2_with fail;refine(kV 194 _).mono ?_;rintro e w1 ⟨A2,c2,rfl,d,f⟩;rw[D.out,l.out];rw[l.out,E.out]at d;obtain⟨b,aK,e,F,aL,_⟩:=lZ d fu;injection e with G e2 H;subst G;subst H;have I:w.heap.size<=w1.heap.size:=f.size;have n:b<w1.heap.size:=F;have o:=fQ d;have J:=fQ f;have q:ab<w1.heap.size:=fu;have h:w1.cell? ⟨b,0,fT⟩=fU (fF fO 126):=(by have:=o.cells (g:=b) rfl 0 (fF fO 126) rfl;rwa[AX]at this);have c:=(m.C f (Aj _)).at_ (k:=0) fu;simp only[hH,AJ,AQ,Aq,Aw]at c;have r:iK 126 x=gh:=nA _
 have s:∀ k,k<1->∃ v:Nat,w1.cell? ⟨ab,j+k,fT⟩=fU (fF fP v)/\iK 126 v=gh/\w1.cell? ⟨b,k,fT⟩=fU (fF fO 126):=by
  intro k hk;rcases(show k=0 by omega)with rfl
  ·exact⟨x,c,r,h⟩
 have t:=fQ s;clear d f o m r s;go_wp2_with fail;go_loopw [9] (fun i wr=>∃ k:Nat,k<=1/\i = fF fO k/\Hid (Bw w1.heap.size w1 wr)) (fun i _=>1+1 - (intOf i).toNat)
 case atStart=>exact⟨0,fu,rfl,fQ (Av _ _)⟩
 case round=>
  rename_i wr;obtain⟨k,aM,rfl,a⟩:=hrel;by_cases K:k<1
  ·obtain⟨v,u,y,z⟩:=t.out k K;have aD:(k:Int)<1:=fu;have aE:=(a.out.cell (p:=⟨ab,j+k,fT⟩) q).trans u;have aF:=(a.out.cell (p:=⟨b,k,fT⟩) n).trans z;have L:=fQ y;clear u y z c h;go_wp2_with fail;go_quiet ((go_at_call 53;exact Az ((oJ 126 v _).mono fun _ _ ⟨h1,h2⟩=>⟨h1.trans (by rw[L.out]),h2.symm⟩)));go_wp2;exact⟨⟨k+1,fu,fz,fQ (fK a.out _)⟩,fB⟩
  ·obtain rfl:k=1:=fu;have aG:=(a.out.cell (p:=⟨ab,j,fT⟩) q).trans c;have aH:=(a.out.cell (p:=⟨b,0,fT⟩) n).trans h;have B:=fQ (J.trans (a.out.mono I));have M:w.heap.size<=wr.heap.size:=B.out.size;have aN:ab<wr.heap.size:=(by have:=a.out.size;omega);clear c h  t;go_wp2_with fail;refine gu (oO _) ?_;go_wp2_with (go_at_call 139;refine gu (jK _ _ _ _) ?_);refine gu (cKo (x:Int) _ fu fu) ?_;go_wp2_with fail;refine gu (mR _ _) ?_;go_wp2;go_ret2;unfold jW;exact⟨hJ (eYe x),B.alloc M _⟩
theorem dWh(x:Nat)(hx:x<18446744073709551616)(A:Option BJ)(C:Nat)(w:Bk)(hs:Src w A 1 (hH [x])):
  By fZ 118 #[fF fO 195,fG A 1 C] w (jW ((tZ 1 126 x,0)) w):=by
 have hg:gQ 195=fU (194,3,6,126):=fC;have t0:inB 195 70 79=gj:=fy;have t1:inB 195 81 90=gj:=fy;have t2:inB 195 103 105=gj:=fy;have t3:inB 195 121 123=gj:=fy;have t4:inB 195 106 120=gj:=fy;have t5:inB 195 124 138=gj:=fy;have D:=fQ (show(gQ 195).isSome=gh by simp[hg]);have E:=fQ (show gJ 195 = [126] by simp[gJ,hg]);have l:=fQ (show(gJ 195).length=1 by simp[gJ,hg]);obtain⟨ab,j,rfl,aJ⟩:=hs.addr fu;have m:=fQ hs;clear hg hs;go_in;go_wp2_with fail;refine(kV 195 _).mono ?_;rintro e w1 ⟨A2,c2,rfl,d,f⟩;rw[D.out,l.out];rw[l.out,E.out]at d;obtain⟨b,aK,e,F,aL,_⟩:=lZ d fu;injection e with G e2 H;subst G;subst H;have I:w.heap.size<=w1.heap.size:=f.size;have n:b<w1.heap.size:=F;have o:=fQ d;have J:=fQ f;have q:ab<w1.heap.size:=fu;have h:w1.cell? ⟨b,0,fT⟩=fU (fF fO 126):=(by have:=o.cells (g:=b) rfl 0 (fF fO 126) rfl;rwa[AX]at this);have c:=(m.C f (Aj _)).at_ (k:=0) fu;simp only[hH,AJ,AQ,Aq,Aw]at c;have r:iK 126 x=gh:=nA _
 have s:∀ k,k<1->∃ v:Nat,w1.cell? ⟨ab,j+k,fT⟩=fU (fF fP v)/\iK 126 v=gh/\w1.cell? ⟨b,k,fT⟩=fU (fF fO 126):=by
  intro k hk;rcases(show k=0 by omega)with rfl
  ·exact⟨x,c,r,h⟩
 have t:=fQ s;clear d f o m r s;go_wp2_with fail;go_loopw [9] (fun i wr=>∃ k:Nat,k<=1/\i = fF fO k/\Hid (Bw w1.heap.size w1 wr)) (fun i _=>1+1 - (intOf i).toNat)
 case atStart=>exact⟨0,fu,rfl,fQ (Av _ _)⟩
 case round=>
  rename_i wr;obtain⟨k,aM,rfl,a⟩:=hrel;by_cases K:k<1
  ·obtain⟨v,u,y,z⟩:=t.out k K;have aD:(k:Int)<1:=fu;have aE:=(a.out.cell (p:=⟨ab,j+k,fT⟩) q).trans u;have aF:=(a.out.cell (p:=⟨b,k,fT⟩) n).trans z;have L:=fQ y;clear u y z c h;go_wp2_with fail;go_quiet ((go_at_call 53;exact Az ((oJ 126 v _).mono fun _ _ ⟨h1,h2⟩=>⟨h1.trans (by rw[L.out]),h2.symm⟩)));go_wp2;exact⟨⟨k+1,fu,fz,fQ (fK a.out _)⟩,fB⟩
  ·obtain rfl:k=1:=fu;have aG:=(a.out.cell (p:=⟨ab,j,fT⟩) q).trans c;have aH:=(a.out.cell (p:=⟨b,0,fT⟩) n).trans h;have B:=fQ (J.trans (a.out.mono I));have M:w.heap.size<=wr.heap.size:=B.out.size;have aN:ab<wr.heap.size:=(by have:=a.out.size;omega);clear c h  t;go_wp2_with fail;refine gu (oO _) ?_;go_wp2_with (go_at_call 139;refine gu (jK _ _ _ _) ?_);refine gu (cXv (x:Int) _ fu fu) ?_;go_wp2_with fail;refine gu (mR _ _) ?_;go_wp2;go_ret2;unfold jW;exact⟨hJ (eJy x),B.alloc M _⟩
theorem dWi(x:Nat)(hx:x<18446744073709551616)(A:Option BJ)(C:Nat)(w:Bk)(hs:Src w A 1 (hH [x])):
  By fZ 118 #[fF fO 196,fG A 1 C] w (jW ((tZ 2 126 x,0)) w):=by
 have hg:gQ 196=fU (194,3,6,126):=fC;have t0:inB 196 70 79=gj:=fy;have t1:inB 196 81 90=gj:=fy;have t2:inB 196 103 105=gj:=fy;have t3:inB 196 121 123=gj:=fy;have t4:inB 196 106 120=gj:=fy;have t5:inB 196 124 138=gj:=fy;have D:=fQ (show(gQ 196).isSome=gh by simp[hg]);have E:=fQ (show gJ 196 = [126] by simp[gJ,hg]);have l:=fQ (show(gJ 196).length=1 by simp[gJ,hg]);obtain⟨ab,j,rfl,aJ⟩:=hs.addr fu;have m:=fQ hs;clear hg hs;go_in;go_wp2_with fail;refine(kV 196 _).mono ?_;rintro e w1 ⟨A2,c2,rfl,d,f⟩;rw[D.out,l.out];rw[l.out,E.out]at d;obtain⟨b,aK,e,F,aL,_⟩:=lZ d fu;injection e with G e2 H;subst G;subst H;have I:w.heap.size<=w1.heap.size:=f.size;have n:b<w1.heap.size:=F;have o:=fQ d;have J:=fQ f;have q:ab<w1.heap.size:=fu;have h:w1.cell? ⟨b,0,fT⟩=fU (fF fO 126):=(by have:=o.cells (g:=b) rfl 0 (fF fO 126) rfl;rwa[AX]at this);have c:=(m.C f (Aj _)).at_ (k:=0) fu;simp only[hH,AJ,AQ,Aq,Aw]at c;have r:iK 126 x=gh:=nA _
 have s:∀ k,k<1->∃ v:Nat,w1.cell? ⟨ab,j+k,fT⟩=fU (fF fP v)/\iK 126 v=gh/\w1.cell? ⟨b,k,fT⟩=fU (fF fO 126):=by
  intro k hk;rcases(show k=0 by omega)with rfl
  ·exact⟨x,c,r,h⟩
 have t:=fQ s;clear d f o m r s;go_wp2_with fail;go_loopw [9] (fun i wr=>∃ k:Nat,k<=1/\i = fF fO k/\Hid (Bw w1.heap.size w1 wr)) (fun i _=>1+1 - (intOf i).toNat)
 case atStart=>exact⟨0,fu,rfl,fQ (Av _ _)⟩
 case round=>
  rename_i wr;obtain⟨k,aM,rfl,a⟩:=hrel;by_cases K:k<1
  ·obtain⟨v,u,y,z⟩:=t.out k K;have aD:(k:Int)<1:=fu;have aE:=(a.out.cell (p:=⟨ab,j+k,fT⟩) q).trans u;have aF:=(a.out.cell (p:=⟨b,k,fT⟩) n).trans z;have L:=fQ y;clear u y z c h;go_wp2_with fail;go_quiet ((go_at_call 53;exact Az ((oJ 126 v _).mono fun _ _ ⟨h1,h2⟩=>⟨h1.trans (by rw[L.out]),h2.symm⟩)));go_wp2;exact⟨⟨k+1,fu,fz,fQ (fK a.out _)⟩,fB⟩
  ·obtain rfl:k=1:=fu;have aG:=(a.out.cell (p:=⟨ab,j,fT⟩) q).trans c;have aH:=(a.out.cell (p:=⟨b,0,fT⟩) n).trans h;have B:=fQ (J.trans (a.out.mono I));have M:w.heap.size<=wr.heap.size:=B.out.size;have aN:ab<wr.heap.size:=(by have:=a.out.size;omega);clear c h  t;go_wp2_with fail;refine gu (oO _) ?_;go_wp2_with (go_at_call 139;refine gu (jK _ _ _ _) ?_);refine gu (rz (x:Int) _ fu fu) ?_;go_wp2_with fail;refine gu (mR _ _) ?_;go_wp2;go_ret2;unfold jW;exact⟨hJ (eJz x),B.alloc M _⟩
theorem bYg{d:Int}(h:(l.take k).all (iK d)=gh)(a:k<l.length)(hf:iK d l[k]=gh):(l.take (k+1)).all (iK d)=gh:=by
 rw[List.take_succ_eq_append_getElem a,List.all_append,h];simp[hf]
theorem dVy(op a b c d:Int)(A:Option BJ)(n J:Nat)(l:List Nat)(w:Bk)(hg:gQ op=fU (a,b,c,d))(hs:Src w A n (hH l))(t:ij l)(f:(gJ op).length=n)(u:l.all (iK d)=gj):
  By fZ 118 #[fF fO op,fG A n J] w (jW (0,1) w):=by
 have x:l.length=n:=by have:=hs.1;simpa[hH]using this
 have y:∀ k,k<n->(gJ op)[k]? = fU d:=by
  intro k h
  revert f
  simp only[gJ,hg]
  split
  ·intro f;simp at f;rcases(show k=0\/k=1 by omega)with rfl|rfl <;> rfl
  ·intro f;simp at f;rcases(show k=0 by omega)with rfl;rfl
 have K:0<n:=by
  revert f
  simp only[gJ,hg]
  split <;> (intro f;simp at f;omega)
 have aM:n<=2:=by
  revert f
  simp only[gJ,hg]
  split <;> (intro f;simp at f;omega)
 have L:=fQ (show(gQ op).isSome=gh by simp[hg]);have z:=fQ f;obtain⟨ab,B,rfl,aN⟩:=hs.addr K;have C:=fQ hs;have D:=fQ y;have M:=fQ u;have s:=fQ x;clear hg hs f y u x t;go_in;go_wp2_with fail;refine(kV op _).mono ?_;rintro e w1 ⟨A2,c2,rfl,j,m⟩;rw[L.out,z.out];rw[z.out]at j;obtain⟨o,aP,e,N,aQ,_⟩:=lZ j fu;injection e with O e2 P;subst O;subst P;have Q:w.heap.size<=w1.heap.size:=m.size;have R:o<w1.heap.size:=N;have S:=fQ m;have T:ab<w1.heap.size:=fu
 have U:=fQ (show ∀ k,k<n->∃ v:Nat,l[k]? = fU v/\w1.cell? ⟨ab,B+k,fT⟩=fU (fF fP v)/\w1.cell? ⟨o,k,fT⟩=fU (fF fO d)from by
  intro k h;have V:k<l.length:=(by rw[s.out];exact h);refine⟨l[k],List.getElem?_eq_getElem V,?_,?_⟩
  ·have:=(C.C m (Aj _)).at_ (k:=k) h
   simpa[hH]using this
  ·have:=j.cells (g:=o) rfl k (fF fO d) (by simp[qz,List.getElem?_map,D.out k h])
   rwa[AX,Bq]at this)
 clear j m C D;go_wp2_with fail;go_loopw [9] (fun i wr=>∃ k:Nat,k<=n/\i = fF fO k/\Hid ((l.take k).all (iK d)=gh)/\Hid (Bw w1.heap.size w1 wr)) (fun i _=>n+1 - (intOf i).toNat)
 case atStart=>exact⟨0,fu,rfl,fQ rfl,fQ (Av _ _)⟩
 case round=>
  rename_i wr;obtain⟨k,aR,rfl,E,q⟩:=hrel;by_cases F:k<n
  ·obtain⟨v,G,H,I⟩:=U.out k F;have aG:(k:Int)<n:=fu;have aH:=(q.out.cell (p:=⟨ab,B+k,fT⟩) T).trans H;have aI:=(q.out.cell (p:=⟨o,k,fT⟩) R).trans I;have W:=fQ G;clear G H I;have X:=fQ (S.trans (q.out.mono Q))
   cases hf:iK d v with
   | true=>
    have r:=fQ hf;clear hf;go_wp2_with fail;go_quiet ((go_at_call 53;exact Az ((oJ d v _).mono fun _ _ ⟨h1,h2⟩=>⟨h1.trans (by rw[r.out]),h2.symm⟩)));go_wp2;exact⟨⟨k+1,fu,fz,fQ (bYg E.out (by rw[s.out];exact F) (by have:=W.out;obtain⟨aS,Y⟩:=gw this;rw[Y];exact r.out)),fQ (fK q.out _)⟩,fB⟩
   | false=>
    have r:=fQ hf;clear hf;go_wp2_with fail;go_quiet ((go_at_call 53;exact Az ((oJ d v _).mono fun _ _ ⟨h1,h2⟩=>⟨h1.trans (by rw[r.out]),h2.symm⟩)));go_wp2;go_ret2;exact⟨rfl,fK X.out _⟩
  ·exfalso
   have:=E.out;rw[List.take_of_length_le (by rw[s.out];omega),M.out]at this;cases this
theorem dVz(op:Int)(A:Option BJ)(n f:Nat)(l:List Nat)(w:Bk)(hs:Src w A n (hH l))(i:ij l):
  By fZ 118 #[fF fO op,fG A n f] w (jW (oV op l) w):=by
 have o:l.length=n:=by have:=hs.1;simpa[hH]using this
 cases hg:gQ op with
 | none=>exact cYh op A n f l w hg
 | some g=>
  obtain⟨a,b,c,d⟩:=g;by_cases m:(gJ op).length=n
  ·cases s:l.all (iK d)with
   | false=>
    have e:oV op l=(0,1):=(by simp[oV,hg,s]);rw[e];exact dVy op a b c d A n f l w hg hs i m s
   | true=>
    have e:oV op l=oZ c d (op - a) (mX op) l:=(by simp[oV,hg,s,o,m]);rw[e];clear e;rcases rW op with⟨hq,q,r,z5,z6,z7⟩|⟨hq,q,r⟩|⟨hq,q,r⟩|⟨hq,q,r⟩|⟨hq,q,r⟩|⟨hq,q,r⟩|⟨hq,q,r⟩|⟨hq,q,r⟩|⟨hq,q,r⟩|⟨hq,q,r⟩|⟨hq,q,r⟩|⟨hq,q,r⟩|⟨hq,q,r⟩
    ·rw[hq]at hg;cases hg
    ·rw[hq]at hg;simp only[Option.some.injEq,Prod.mk.injEq]at hg;obtain⟨rfl,rfl,rfl,rfl⟩:=hg;have h1:n=1:=(by rw[<-m];simp[gJ,hq]);subst h1
     obtain⟨x,rfl⟩:∃ x,l = [x]:=by
      match l,o with
      | [x],_=>exact⟨x,rfl⟩
     have p:x<4294967296:=(by have:=s;simpa[iK]using this);obtain⟨j,k⟩:=AZ (show 0<=op - 69 by omega);have:=eKb op j fu fu x p A f w hs;rw[k]
     simpa[oZ]using this
    ·rw[hq]at hg;simp only[Option.some.injEq,Prod.mk.injEq]at hg;obtain⟨rfl,rfl,rfl,rfl⟩:=hg;have h2:n=2:=(by rw[<-m];simp[gJ,hq]);subst h2
     obtain⟨x,y,rfl⟩:∃ x y,l = [x,y]:=by
      match l,o with
      | [x,y],_=>exact⟨x,y,rfl⟩
     have p:x<4294967296:=(by have:=s;simp[iK]at this;exact this.1);have u:y<4294967296:=(by have:=s;simp[iK]at this;exact this.2);obtain⟨j,k⟩:=AZ (show 0<=op - 70 by omega);have:=eKc op j fu fu x y p u A f w hs;rw[k]
     simpa[oZ,gY]using this
    ·rw[hq]at hg;simp only[Option.some.injEq,Prod.mk.injEq]at hg;obtain⟨rfl,rfl,rfl,rfl⟩:=hg;have h1:n=1:=(by rw[<-m];simp[gJ,hq]);subst h1
     obtain⟨x,rfl⟩:∃ x,l = [x]:=by
      match l,o with
      | [x],_=>exact⟨x,rfl⟩
     have h:=i x fz;obtain⟨j,k⟩:=AZ (show 0<=op - 80 by omega);have:=eKd op j fu fu x h A f w hs;rw[k]
     simpa[oZ]using this
    ·rw[hq]at hg;simp only[Option.some.injEq,Prod.mk.injEq]at hg;obtain⟨rfl,rfl,rfl,rfl⟩:=hg;have h2:n=2:=(by rw[<-m];simp[gJ,hq]);subst h2
     obtain⟨x,y,rfl⟩:∃ x y,l = [x,y]:=by
      match l,o with
      | [x,y],_=>exact⟨x,y,rfl⟩
     have h:=i x fz;have t:=i y fz;obtain⟨j,k⟩:=AZ (show 0<=op - 81 by omega);have:=eKe op j fu fu x y h t A f w hs;rw[k]
     simpa[oZ,gY]using this
    ·rw[hq]at hg;simp only[Option.some.injEq,Prod.mk.injEq]at hg;obtain⟨rfl,rfl,rfl,rfl⟩:=hg;have h1:n=1:=(by rw[<-m];simp[gJ,hq]);subst h1
     obtain⟨x,rfl⟩:∃ x,l = [x]:=by
      match l,o with
      | [x],_=>exact⟨x,rfl⟩
     have p:x<4294967296:=(by have:=s;simpa[iK]using this);obtain⟨j,k⟩:=AZ (show 0<=op - 103 by omega);have:=dWj op j fu fu x p A f w hs;rw[k]
     simpa[oZ]using this
    ·rw[hq]at hg;simp only[Option.some.injEq,Prod.mk.injEq]at hg;obtain⟨rfl,rfl,rfl,rfl⟩:=hg;have h2:n=2:=(by rw[<-m];simp[gJ,hq]);subst h2
     obtain⟨x,y,rfl⟩:∃ x y,l = [x,y]:=by
      match l,o with
      | [x,y],_=>exact⟨x,y,rfl⟩
     have p:x<4294967296:=(by have:=s;simp[iK]at this;exact this.1);have u:y<4294967296:=(by have:=s;simp[iK]at this;exact this.2);obtain⟨j,k⟩:=AZ (show 0<=op - 106 by omega);have:=dWk op j fu fu x y p u A f w hs;rw[k]
     simpa[oZ]using this
    ·rw[hq]at hg;simp only[Option.some.injEq,Prod.mk.injEq]at hg;obtain⟨rfl,rfl,rfl,rfl⟩:=hg;have h1:n=1:=(by rw[<-m];simp[gJ,hq]);subst h1
     obtain⟨x,rfl⟩:∃ x,l = [x]:=by
      match l,o with
      | [x],_=>exact⟨x,rfl⟩
     have h:=i x fz;obtain⟨j,k⟩:=AZ (show 0<=op - 121 by omega);have:=dWl op j fu fu x h A f w hs;rw[k]
     simpa[oZ]using this
    ·rw[hq]at hg;simp only[Option.some.injEq,Prod.mk.injEq]at hg;obtain⟨rfl,rfl,rfl,rfl⟩:=hg;have h2:n=2:=(by rw[<-m];simp[gJ,hq]);subst h2
     obtain⟨x,y,rfl⟩:∃ x y,l = [x,y]:=by
      match l,o with
      | [x,y],_=>exact⟨x,y,rfl⟩
     have h:=i x fz;have t:=i y fz;obtain⟨j,k⟩:=AZ (show 0<=op - 124 by omega);have:=dWm op j fu fu x y h t A f w hs;rw[k]
     simpa[oZ]using this
    ·rw[hq]at hg;simp only[Option.some.injEq,Prod.mk.injEq]at hg;obtain⟨rfl,rfl,rfl,rfl⟩:=hg;have h1:n=1:=(by rw[<-m];simp[gJ,hq]);subst h1
     obtain⟨x,rfl⟩:∃ x,l = [x]:=by
      match l,o with
      | [x],_=>exact⟨x,rfl⟩
     have h:=i x fz;obtain⟨j,k⟩:=AZ (show 0<=op - 167 by omega);have:=dWn op j fu fu x h A f w hs;rw[k]
     simpa[oZ]using this
    ·rw[hq]at hg;simp only[Option.some.injEq,Prod.mk.injEq]at hg;obtain⟨rfl,rfl,rfl,rfl⟩:=hg;have h1:n=1:=(by rw[<-m];simp[gJ,hq]);subst h1
     obtain⟨x,rfl⟩:∃ x,l = [x]:=by
      match l,o with
      | [x],_=>exact⟨x,rfl⟩
     have p:x<4294967296:=(by have:=s;simpa[iK]using this);rcases(show op=172\/op=173 by omega)with rfl|rfl
     ·have:=dWc x p A f w hs
      simpa[oZ,ny]using this
     ·have:=dWd x p A f w hs
      simpa[oZ,ny]using this
    ·rw[hq]at hg;simp only[Option.some.injEq,Prod.mk.injEq]at hg;obtain⟨rfl,rfl,rfl,rfl⟩:=hg;have h1:n=1:=(by rw[<-m];simp[gJ,hq]);subst h1
     obtain⟨x,rfl⟩:∃ x,l = [x]:=by
      match l,o with
      | [x],_=>exact⟨x,rfl⟩
     have p:x<4294967296:=(by have:=s;simpa[iK]using this);rcases(show op=192\/op=193 by omega)with rfl|rfl
     ·have:=dWe x p A f w hs
      simpa[oZ,show mX 192=127 from by decide +kernel]using this
     ·have:=dWf x p A f w hs
      simpa[oZ,show mX 193=127 from by decide +kernel]using this
    ·rw[hq]at hg;simp only[Option.some.injEq,Prod.mk.injEq]at hg;obtain⟨rfl,rfl,rfl,rfl⟩:=hg;have h1:n=1:=(by rw[<-m];simp[gJ,hq]);subst h1
     obtain⟨x,rfl⟩:∃ x,l = [x]:=by
      match l,o with
      | [x],_=>exact⟨x,rfl⟩
     have h:=i x fz;rcases(show op=194\/op=195\/op=196 by omega)with rfl|rfl|rfl
     ·have:=dWg x h A f w hs
      simpa[oZ,show mX 194=126 from by decide +kernel]using this
     ·have:=dWh x h A f w hs
      simpa[oZ,show mX 195=126 from by decide +kernel]using this
     ·have:=dWi x h A f w hs
      simpa[oZ,show mX 196=126 from by decide +kernel]using this
  ·exact dWb op a b c d A n f l w hg o m
def pV(C:jo)(x:jk)(c:gP)(a:List Nat)(w:Bk)(b:Ending)(w':Bk):Prop:=
 ∃ (v:Bv) (x':jk),b = fS v/\iB C x' w'/\MK C x x' w w'/\x'={ x with mv:=x'.mv,s:=(jV c a x.s).2.2,e:=(jV c a x.s).2.1 }/\((jV c a x.s).2.1=0->w'.ownsRow w.heap.size 52 1 v 1 (hH [(jV c a x.s).1]))/\(∃ A n c,v = fG A n c)
theorem jZ(w:Bk):Bw w.heap.size w w.drew:=(Av _ _).drew
theorem xQ(w:Bk)(p:BJ)(u:Bv):(w.setCell p u).heap.size=w.heap.size:=by simp[Ad]
theorem cXe{base c:Nat}{A:Option BJ}(h:w.ownsRow base 5 1 (fG A l.length c) l.length (jv l))(hl:l.length<=4096)(d:jw l):BR w (fG A l.length c) l:=by
 refine⟨A,c,rfl,Src.mf h,?_⟩;rcases h.2 with⟨h1,h2⟩|⟨g,cap,cur,h1,_,_,f,i,_⟩
 ·injection h1 with a e2 b;subst a;subst b;exact⟨fu,fun _=>rfl,⟨fu,fu⟩,d⟩
 ·injection h1 with a e2 b;subst b;exact⟨f,(fun e=>by rw[e]at a;cases a),⟨fu,by unfold maxLen at i;omega⟩,d⟩
section
variable {P:Program} {Q:Exit->Act->Bk->Prop} {md:Region.Mode} {S1 S2:Bk->Prop} {ap:Nat}
theorem cWw{l:List Oper}{i j:Nat}{c d:Oper}{fuel:Nat}{listed:Array Bool}{a:Act}{w:Bk}(g:Region.ready md l.toArray listed = [i,j])(hi:l[i]? = fU c)(hj:l[j]? = fU d)
  (h1:∀ b:Act->Bk->Prop,Shut (∀ a w,SD S1 S2 ap (listed.setIfInBounds i gh) w->(SD S1 S2 ap (listed.setIfInBounds i gh) w->sX P md l.toArray Q S1 S2 ap fuel (listed.setIfInBounds i gh) a w)->b a w)->if Region.wanted c (yielded l.toArray a.tmps)=gh then Oper.wp P c a w b Q else b (a.put c.dst undef) w)
  (h2:∀ b:Act->Bk->Prop,Shut (∀ a w,SD S1 S2 ap (listed.setIfInBounds j gh) w->(SD S1 S2 ap (listed.setIfInBounds j gh) w->sX P md l.toArray Q S1 S2 ap fuel (listed.setIfInBounds j gh) a w)->b a w)->if Region.wanted d (yielded l.toArray a.tmps)=gh then Oper.wp P d a w b Q else b (a.put d.dst undef) w) :
  sX P md l.toArray Q S1 S2 ap (fuel+1) listed a w:=
 ⟨fun h=>(by rw[g]at h;cases h),fun z e=>by
  rw[g]at e;simp only[List.mem_cons,Ai,or_false]at e;rcases e with rfl|rfl
  ·exact wpOp_step (by simpa using hi) (fun b f=>h1 b (fun a w h1 h2=>f a w ⟨h1,h2 h1⟩))
  ·exact wpOp_step (by simpa using hj) (fun b f=>h2 b (fun a w h1 h2=>f a w ⟨h1,h2 h1⟩))⟩
end
theorem eWb(w:Bk){base:Nat}(a:base<=w.heap.size)(n:Int)(g:Nat)(hg:g=w.heap.size):(w.alloc (fR #[fF fP n] 52)).ownsRow base 52 1 (fG (fU ⟨g,0,fT⟩) 1 1) 1 [fF fP n]:=by
 subst hg;exact World.ownsRow_lit w #[fF fP n] 1 a (by unfold maxLen;omega) rfl
theorem sV{C:jo}{x x1:jk}{w1:Bk}{c:gP}(h:iB C x1 w1)(k:MK C x x1 w w1)(n m:Nat)(e:Int)(s2:iM)(hv:jV c a x.s=(m,e,s2))(hn:e=0->m=n)(f:x1={ x with mv:=x1.mv,s:=s2 })(g:Nat)(hg:g=w1.heap.size):
  pV C x c a w (fS (fG (fU ⟨g,0,fT⟩) 1 1)) ((w1.setCell ⟨C.mb,17,fT⟩ (fF fO e)).alloc (fR #[fF fP (n:Int)] 52)):=by
 subst hg;have hs:(w1.setCell ⟨C.mb,17,fT⟩ (fF fO e)).heap.size=w1.heap.size:=(by simp[Ad]);have d:=(Av _ (w1.setCell ⟨C.mb,17,fT⟩ (fF fO e))).alloc (Aj _) (fR #[fF fP (n:Int)] 52);refine⟨_,{ x1 with e:=e },rfl,(h.k9 17 (fF fO e) (y:={ x1 with e:=e }) (by simp[iC]) rfl rfl rfl rfl rfl rfl rfl).C d,(k.k9 17 _ (y:={ x1 with e:=e }) rfl rfl rfl).C d,?_,fun b=>?_,_,_,_,rfl⟩
 ·rw[hv];exact gG (fun y:jk=>{ y with e:=e }) f
 ·rw[hv]at b ⊢;have b:e=0:=b;have hn:=hn b;subst hn;exact eWb _ (by rw[hs];exact k.size) _ _ hs.symm
theorem eWc{C:jo}{x x1:jk}{w1:Bk}{c:gP}(h:iB C x1 w1)(k:MK C x x1 w w1)(m:Nat)(e:Int)(s2:iM)(hv:jV c a x.s=(m,e,s2))(f:e≠0)(g:x1={ x with mv:=x1.mv,s:=s2 })(A:Option BJ)(b d:Nat):
  pV C x c a w (fS (fG A b d)) (w1.setCell ⟨C.mb,17,fT⟩ (fF fO e)):=
 ⟨fG A b d,{ x1 with e:=e },rfl,h.k9 17 (fF fO e) (y:={ x1 with e:=e }) (by simp[iC]) rfl rfl rfl rfl rfl rfl rfl,k.k9 17 _ (y:={ x1 with e:=e }) rfl rfl rfl,by rw[hv];exact gG (fun y:jk=>{ y with e:=e }) g,(fun h=>by rw[hv]at h;exact gH h f),_,_,_,rfl⟩
theorem dKu(C:jo)(x:jk)(w:Bk)(b:Nat)(f cb g va:Bv)(a:List Nat)(K:List Int)(h:iB C x w)(ha:UR w va a) :
  By fZ 87 #[fN (fU ⟨C.mb,0,fT⟩),fM #[fF fO 256,fF fP (b:Int),f,cb,g],va] w (pV C x ⟨256,b,K,K,K⟩ a w):=by
 obtain⟨Aa,cap,rfl⟩:=ha.I;obtain⟨m,n⟩:=fX a.length;rw[n]at ha ⊢;have i:=(Av w.heap.size w).alloc (Aj _) (fR #[fF fO 256,fF fP (b:Int),f,cb,g] 86);have d:=fQ (h.C i);have k:=fQ (MK.jN (C:=C) (x:=x) i);have o:=fQ (ha.C i (Aj _));have j:=gO.a4 w 86 #[fF fO 256,fF fP (b:Int),f,cb,g];have y0:=h.a9.lt;have p:(w.alloc (fR #[fF fO 256,fF fP (b:Int),f,cb,g] 86)).cell? ⟨C.mb,17,fT⟩=fU (fF fO x.e):=(by rw[d.cell 17];rfl);have f17:=ik d.a9 17;have q:=fQ (show fV 256 = fI #[fF fO 0,fF fO 0,fH gj,fH gj]from by rw[fV,show acc 256=fT from by decide +kernel]);clear i ha h;go_in;go_wp2_with fail;refine(gK _ _).mono ?_;rintro e r ⟨rfl,l⟩;rw[q.out];rw[l]at j d k o p f17;obtain⟨k0,k1,k2,k3,k4⟩:=gZ j;clear l y0;go_wp2;go_ret;exact sV (c:=⟨256,b,K,K,K⟩) (a:=a) d.out k.out b b 0 x.s (by simp[jV]) (fun _=>rfl) rfl r.heap.size rfl
theorem eZn(C:jo)(x:jk)(w:Bk)(b:Nat)(f cb g va:Bv)(a:List Nat)(K:List Int)(h:iB C x w)(ha:UR w va a)(i:Nat)(j:a[0]? = fU i):
  By fZ 87 #[fN (fU ⟨C.mb,0,fT⟩),fM #[fF fO 272,fF fP (b:Int),f,cb,g],va] w (pV C x ⟨272,b,K,K,K⟩ a w):=by
 obtain⟨Aa,cap,rfl⟩:=ha.I;obtain⟨m,r⟩:=fX a.length;rw[r]at ha ⊢;have k:=(Av w.heap.size w).alloc (Aj _) (fR #[fF fO 272,fF fP (b:Int),f,cb,g] 86);have d:=fQ (h.C k);have n:=fQ (MK.jN (C:=C) (x:=x) k);have o:=fQ (ha.C k (Aj _));have l:=gO.a4 w 86 #[fF fO 272,fF fP (b:Int),f,cb,g];have y0:=h.a9.lt;have t:(w.alloc (fR #[fF fO 272,fF fP (b:Int),f,cb,g] 86)).cell? ⟨C.mb,17,fT⟩=fU (fF fO x.e):=(by rw[d.cell 17];rfl);have f17:=ik d.a9 17;have an:0<m:=(by have:=(gw j).1;omega);obtain⟨b0,o0,u,v,p,l0⟩:=o.cell j;rw[Aw]at p;subst u;have y:=fQ (show fV 272 = fI #[fF fO 0,fF fO 0,fH gj,fH gj]from by rw[fV,show acc 272=fT from by decide +kernel]);clear k ha h;go_in;go_wp2_with fail;refine(gK _ _).mono ?_;rintro e z ⟨rfl,q⟩;rw[y.out];rw[q]at l d n o t f17 p v;obtain⟨k0,k1,k2,k3,k4⟩:=gZ l;clear q y0;have A:=fQ (show a.getD 0 0=i by rw[Ak,j];rfl);clear j;go_wp2;go_ret;exact sV (c:=⟨272,b,K,K,K⟩) (a:=a) d.out n.out i i 0 x.s (by unfold jV;rw[gy (show ¬(272:Int)=256 by decide),gz rfl,A.out]) (fun _=>rfl) rfl z.heap.size rfl
theorem dKv(C:jo)(x:jk)(w:Bk)(b:Nat)(f cb g va:Bv)(a:List Nat)(K:List Int)(h:iB C x w)(ha:UR w va a)(j:x.s.U=0):
  By fZ 87 #[fN (fU ⟨C.mb,0,fT⟩),fM #[fF fO 258,fF fP (b:Int),f,cb,g],va] w (pV C x ⟨258,b,K,K,K⟩ a w):=by
 obtain⟨Aa,cap,rfl⟩:=ha.I;obtain⟨m,o⟩:=fX a.length;rw[o]at ha ⊢;have i:=(Av w.heap.size w).alloc (Aj _) (fR #[fF fO 258,fF fP (b:Int),f,cb,g] 86);have d:=fQ (h.C i);have l:=fQ (MK.jN (C:=C) (x:=x) i);have p:=fQ (ha.C i (Aj _));have k:=gO.a4 w 86 #[fF fO 258,fF fP (b:Int),f,cb,g];have y0:=h.a9.lt;have q:(w.alloc (fR #[fF fO 258,fF fP (b:Int),f,cb,g] 86)).cell? ⟨C.mb,17,fT⟩=fU (fF fO x.e):=(by rw[d.cell 17];rfl);have f17:=ik d.a9 17;have r:=fQ (show fV 258 = fI #[fF fO 0,fF fO 0,fH gj,fH gj]from by rw[fV,show acc 258=fT from by decide +kernel]);have t:(w.alloc (fR #[fF fO 258,fF fP (b:Int),f,cb,g] 86)).cell? ⟨C.mb,9,fT⟩=fU (fF fO 0):=(by rw[d.cell 9];simp[iC,j]);have u:=ik d.a9 9;have v:=fQ j;clear i ha h j;go_in;go_wp2_with fail;refine(gK _ _).mono ?_;rintro e wX ⟨rfl,n⟩;rw[r.out];rw[n]at k d l p q f17  t u;obtain⟨k0,k1,k2,k3,k4⟩:=gZ k;clear n y0;go_wp2;go_ret;exact eWc (c:=⟨258,b,K,K,K⟩) (a:=a) d.out l.out 0 36 x.s (by simp[jV,v.out]) fy rfl _ _ _
theorem dKw(C:jo)(x:jk)(w:Bk)(b:Nat)(f cb g va:Bv)(a:List Nat)(K:List Int)(h:iB C x w)(ha:UR w va a)(F:Nat)(j:x.s.U=F)(hF:1<=F)(ao:F<=1024):
  By fZ 87 #[fN (fU ⟨C.mb,0,fT⟩),fM #[fF fO 258,fF fP (b:Int),f,cb,g],va] w (pV C x ⟨258,b,K,K,K⟩ a w):=by
 obtain⟨Aa,cap,rfl⟩:=ha.I;obtain⟨m,q⟩:=fX a.length;rw[q]at ha ⊢;have i:=(Av w.heap.size w).alloc (Aj _) (fR #[fF fO 258,fF fP (b:Int),f,cb,g] 86);have d:=fQ (h.C i);have l:=fQ (MK.jN (C:=C) (x:=x) i);have r:=fQ (ha.C i (Aj _));have k:=gO.a4 w 86 #[fF fO 258,fF fP (b:Int),f,cb,g];have y0:=h.a9.lt;have t:(w.alloc (fR #[fF fO 258,fF fP (b:Int),f,cb,g] 86)).cell? ⟨C.mb,17,fT⟩=fU (fF fO x.e):=(by rw[d.cell 17];rfl);have f17:=ik d.a9 17;have u:=fQ (show fV 258 = fI #[fF fO 0,fF fO 0,fH gj,fH gj]from by rw[fV,show acc 258=fT from by decide +kernel]);have v:(w.alloc (fR #[fF fO 258,fF fP (b:Int),f,cb,g] 86)).cell? ⟨C.mb,9,fT⟩=fU (fF fO F):=(by rw[d.cell 9];simp[iC,j]);have z:=ik d.a9 9;have t9:((F:Int) == 0)=gj:=fw;have w9:IntKind.i64.wrap ((F:Int) - 1)=((F - 1:Nat):Int):=(by rw[Ac _ fu];omega);have n:=fQ (d.k9 9 (fF fO ((F - 1:Nat):Int)) (y:={ x with s:={ x.s with U:=F - 1 } }) (by simp[iC]) rfl rfl rfl rfl rfl rfl rfl);have o:=fQ (l.k9 9 (fF fO ((F - 1:Nat):Int)) (y:={ x with s:={ x.s with U:=F - 1 } }) rfl rfl rfl);have A:=fQ j;have B:=fQ (show F≠0 by omega);clear i ha h j;go_in;go_wp2_with fail;refine(gK _ _).mono ?_;rintro e D ⟨rfl,p⟩;rw[u.out];rw[p]at k d l r t f17  v z n o;obtain⟨k0,k1,k2,k3,k4⟩:=gZ k;clear p y0;go_wp2;go_ret;exact sV (c:=⟨258,b,K,K,K⟩) (a:=a) n.out o.out 0 0 0 { x.s with U:=F - 1 } (by simp[jV,A.out,B.out]) (fun _=>rfl) rfl D.heap.size (by simp[Ad])
theorem eZo(C:jo)(x:jk)(w:Bk)(b:Nat)(f cb g va:Bv)(a:List Nat)(K:List Int)(h:iB C x w)(ha:UR w va a)(v i j:Nat)(k:a[0]? = fU v)(l:a[1]? = fU i)(n:a[2]? = fU j)(y:j=0):
  By fZ 87 #[fN (fU ⟨C.mb,0,fT⟩),fM #[fF fO 27,fF fP (b:Int),f,cb,g],va] w (pV C x ⟨27,b,K,K,K⟩ a w):=by
 obtain⟨Aa,cap,rfl⟩:=ha.I;obtain⟨m,D⟩:=fX a.length;rw[D]at ha ⊢;have o:=(Av w.heap.size w).alloc (Aj _) (fR #[fF fO 27,fF fP (b:Int),f,cb,g] 86);have d:=fQ (h.C o);have z:=fQ (MK.jN (C:=C) (x:=x) o);have p:=fQ (ha.C o (Aj _));have q:=gO.a4 w 86 #[fF fO 27,fF fP (b:Int),f,cb,g];have y0:=h.a9.lt;have E:(w.alloc (fR #[fF fO 27,fF fP (b:Int),f,cb,g] 86)).cell? ⟨C.mb,17,fT⟩=fU (fF fO x.e):=(by rw[d.cell 17];rfl);have f17:=ik d.a9 17;have aD:0<m:=(by have:=(gw k).1;omega);obtain⟨b0,o0,F,G,A,l0⟩:=p.cell k;rw[Aw]at A;subst F;have aF:1<m:=(by have:=(gw l).1;omega);have aG:(1:Int)<(m:Int):=fu;obtain⟨b1,o1,r,H,I,l1⟩:=p.cell l;injection r with r;injection r with J L;subst J;subst L;have aH:2<m:=(by have:=(gw n).1;omega);have aI:(2:Int)<(m:Int):=fu;obtain⟨b2,o2,t,M,N,l2⟩:=p.cell n;injection t with t;injection t with O P;subst O;subst P;have Q:=fQ (show fV 27 = fI #[fF fO 0,fF fO 0,fH gj,fH gj]from by rw[fV,show acc 27=fT from by decide +kernel]);clear o ha h;go_in;go_wp2_with fail;refine(gK _ _).mono ?_;rintro e R ⟨rfl,B⟩;rw[Q.out];rw[B]at q d z p E f17 A G I H N M;obtain⟨k0,k1,k2,k3,k4⟩:=gZ q;clear B y0;have u:Hid (a.getD 0 0=v/\a.getD 1 0=i/\a.getD 2 0=j):=⟨by rw[Ak,k];rfl,by rw[Ak,l];rfl,by rw[Ak,n];rfl⟩;have tz:((j:Int) == 0)=gh:=fw;have S:=fQ y;clear k l n y;go_wp2;go_ret;exact sV (c:=⟨27,b,K,K,K⟩) (a:=a) d.out z.out i i 0 x.s (by unfold jV;rw[gy (show ¬(27:Int)=256 by decide),gy (show ¬(27:Int)=272 by decide),gy (show ¬(27:Int)=258 by decide),gz rfl,u.out.1,u.out.2.1,u.out.2.2,gz S.out]) (fun _=>rfl) rfl R.heap.size rfl
theorem eZp(C:jo)(x:jk)(w:Bk)(b:Nat)(f cb g va:Bv)(a:List Nat)(K:List Int)(h:iB C x w)(ha:UR w va a)(i v j:Nat)(k:a[0]? = fU i)(l:a[1]? = fU v)(n:a[2]? = fU j)(y:j≠0):
  By fZ 87 #[fN (fU ⟨C.mb,0,fT⟩),fM #[fF fO 27,fF fP (b:Int),f,cb,g],va] w (pV C x ⟨27,b,K,K,K⟩ a w):=by
 obtain⟨Aa,cap,rfl⟩:=ha.I;obtain⟨m,D⟩:=fX a.length;rw[D]at ha ⊢;have o:=(Av w.heap.size w).alloc (Aj _) (fR #[fF fO 27,fF fP (b:Int),f,cb,g] 86);have d:=fQ (h.C o);have z:=fQ (MK.jN (C:=C) (x:=x) o);have p:=fQ (ha.C o (Aj _));have q:=gO.a4 w 86 #[fF fO 27,fF fP (b:Int),f,cb,g];have y0:=h.a9.lt;have E:(w.alloc (fR #[fF fO 27,fF fP (b:Int),f,cb,g] 86)).cell? ⟨C.mb,17,fT⟩=fU (fF fO x.e):=(by rw[d.cell 17];rfl);have f17:=ik d.a9 17;have aD:0<m:=(by have:=(gw k).1;omega);obtain⟨b0,o0,F,G,A,l0⟩:=p.cell k;rw[Aw]at A;subst F;have aF:1<m:=(by have:=(gw l).1;omega);obtain⟨b1,o1,r,H,I,l1⟩:=p.cell l;injection r with r;injection r with J L;subst J;subst L;have aH:2<m:=(by have:=(gw n).1;omega);have aI:(2:Int)<(m:Int):=fu;obtain⟨b2,o2,t,M,N,l2⟩:=p.cell n;injection t with t;injection t with O P;subst O;subst P;have Q:=fQ (show fV 27 = fI #[fF fO 0,fF fO 0,fH gj,fH gj]from by rw[fV,show acc 27=fT from by decide +kernel]);clear o ha h;go_in;go_wp2_with fail;refine(gK _ _).mono ?_;rintro e R ⟨rfl,B⟩;rw[Q.out];rw[B]at q d z p E f17 A G I H N M;obtain⟨k0,k1,k2,k3,k4⟩:=gZ q;clear B y0;have u:Hid (a.getD 0 0=i/\a.getD 1 0=v/\a.getD 2 0=j):=⟨by rw[Ak,k];rfl,by rw[Ak,l];rfl,by rw[Ak,n];rfl⟩;have tz:((j:Int) == 0)=gj:=fw;have S:=fQ y;clear k l n y;go_wp2;go_ret;exact sV (c:=⟨27,b,K,K,K⟩) (a:=a) d.out z.out i i 0 x.s (by unfold jV;rw[gy (show ¬(27:Int)=256 by decide),gy (show ¬(27:Int)=272 by decide),gy (show ¬(27:Int)=258 by decide),gz rfl,u.out.1,u.out.2.1,u.out.2.2,gy S.out]) (fun _=>rfl) rfl R.heap.size rfl
theorem eZq(C:jo)(x:jk)(w:Bk)(b:Nat)(f cb g va:Bv)(a:List Nat)(K:List Int)(h:iB C x w)(ha:UR w va a)(p:x.s.L.length<=4096):
  By fZ 87 #[fN (fU ⟨C.mb,0,fT⟩),fM #[fF fO 63,fF fP (b:Int),f,cb,g],va] w (pV C x ⟨63,b,K,K,K⟩ a w):=by
 obtain⟨Aa,cap,rfl⟩:=ha.I;obtain⟨m,q⟩:=fX a.length;rw[q]at ha ⊢;have i:=(Av w.heap.size w).alloc (Aj _) (fR #[fF fO 63,fF fP (b:Int),f,cb,g] 86);have d:=fQ (h.C i);have l:=fQ (MK.jN (C:=C) (x:=x) i);have r:=fQ (ha.C i (Aj _));have j:=gO.a4 w 86 #[fF fO 63,fF fP (b:Int),f,cb,g];have y0:=h.a9.lt;have t:(w.alloc (fR #[fF fO 63,fF fP (b:Int),f,cb,g] 86)).cell? ⟨C.mb,17,fT⟩=fU (fF fO x.e):=(by rw[d.cell 17];rfl);have f17:=ik d.a9 17;have u:=fQ (show fV 63 = fI #[fF fO 0,fF fO 0,fH gj,fH gj]from by rw[fV,show acc 63=fT from by decide +kernel]);obtain⟨v,y,k⟩:∃ A c,x.mv = fG A x.s.L.length c:=(by obtain⟨A,c,e,_⟩:=h.L;exact⟨A,c,e⟩);obtain⟨n,hn⟩:=fX x.s.L.length;rw[hn]at k p;have z:=fQ hn;have B:(w.alloc (fR #[fF fO 63,fF fP (b:Int),f,cb,g] 86)).cell? ⟨C.mb,6,fT⟩=fU (fG v n y):=(by rw[d.cell 6];simp[iC,k]);clear i ha h k hn;go_in;go_wp2_with fail;refine(gK _ _).mono ?_;rintro e D ⟨rfl,o⟩;rw[u.out];rw[o]at j d l r t f17  B;obtain⟨k0,k1,k2,k3,k4⟩:=gZ j;clear o y0;go_wp2;go_ret;exact sV (c:=⟨63,b,K,K,K⟩) (a:=a) d.out l.out (n / 256) (n / 256) 0 x.s (by simp[jV,show acc 63=fT from by decide +kernel,z.out]) (fun _=>rfl) rfl D.heap.size rfl
theorem eZr(C:jo)(x:jk)(w:Bk)(b:Nat)(f cb g va:Bv)(a:List Nat)(K:List Int)(h:iB C x w)(ha:UR w va a)(G v0:Nat)(j:x.s.E.length=G)(k:x.s.E[b]? = fU v0):
  By fZ 87 #[fN (fU ⟨C.mb,0,fT⟩),fM #[fF fO 35,fF fP (b:Int),f,cb,g],va] w (pV C x ⟨35,b,K,K,K⟩ a w):=by
 obtain⟨Aa,cap,rfl⟩:=ha.I;obtain⟨m,t⟩:=fX a.length;rw[t]at ha ⊢;have l:=(Av w.heap.size w).alloc (Aj _) (fR #[fF fO 35,fF fP (b:Int),f,cb,g] 86);have d:=fQ (h.C l);have q:=fQ (MK.jN (C:=C) (x:=x) l);have u:=fQ (ha.C l (Aj _));have o:=gO.a4 w 86 #[fF fO 35,fF fP (b:Int),f,cb,g];have y0:=h.a9.lt;have v:(w.alloc (fR #[fF fO 35,fF fP (b:Int),f,cb,g] 86)).cell? ⟨C.mb,17,fT⟩=fU (fF fO x.e):=(by rw[d.cell 17];rfl);have f17:=ik d.a9 17;have y:=fQ (show fV 35 = fI #[fF fO 0,fF fO 0,fH gj,fH gj]from by rw[fV,show acc 35=fT from by decide +kernel]);have an:b<G:=(by have:=(gw k).1;omega);obtain⟨p,z,i,_,_,_⟩:=lZ h.kq fu;rw[j]at i;have A:(w.alloc (fR #[fF fO 35,fF fP (b:Int),f,cb,g] 86)).cell? ⟨C.mb,8,fT⟩=fU (fG (fU ⟨p,0,fT⟩) G z):=(by rw[d.cell 8];simp[iC,i]);have n:=d.kq;rw[i,j]at n;have cg:(w.alloc (fR #[fF fO 35,fF fP (b:Int),f,cb,g] 86)).cell? ⟨p,b,fT⟩=fU (fF fP (v0:Int)):=(by rw[n.cellAt b fu];simp[hH,k]);have B:=n.frozenAt b;have D:=(d.kq.lt p (by rw[i];rfl)).2;have t8:(b:Int)<(G:Int):=fu;have E:=fQ k;clear l ha h i n k j;go_in;go_wp2_with fail;refine(gK _ _).mono ?_;rintro e F ⟨rfl,r⟩;rw[y.out];rw[r]at o d q u v f17  A cg B D;obtain⟨k0,k1,k2,k3,k4⟩:=gZ o;clear r y0;go_wp2_with fail;go_quiet (fail);go_wp2;go_ret;exact sV (c:=⟨35,b,K,K,K⟩) (a:=a) (d.drewN nq) (q.C (fK (Av _ _) nq)) v0 v0 0 x.s (by simp[jV,E.out]) (fun _=>rfl) rfl F.heap.size rfl
theorem eZs(C:jo)(x:jk)(w:Bk)(b:Nat)(f cb g va:Bv)(a:List Nat)(K:List Int)(h:iB C x w)(ha:UR w va a)(G v0 i:Nat)(l:x.s.E.length=G)(n:x.s.E[b]? = fU v0)(o:a[0]? = fU i)(F:i<18446744073709551616):
  By fZ 87 #[fN (fU ⟨C.mb,0,fT⟩),fM #[fF fO 36,fF fP (b:Int),f,cb,g],va] w (pV C x ⟨36,b,K,K,K⟩ a w):=by
 obtain⟨Aa,cap,rfl⟩:=ha.I;obtain⟨m,H⟩:=fX a.length;rw[H]at ha ⊢;have p:=(Av w.heap.size w).alloc (Aj _) (fR #[fF fO 36,fF fP (b:Int),f,cb,g] 86);have d:=fQ (h.C p);have y:=fQ (MK.jN (C:=C) (x:=x) p);have z:=fQ (ha.C p (Aj _));have r:=gO.a4 w 86 #[fF fO 36,fF fP (b:Int),f,cb,g];have y0:=h.a9.lt;have A:(w.alloc (fR #[fF fO 36,fF fP (b:Int),f,cb,g] 86)).cell? ⟨C.mb,17,fT⟩=fU (fF fO x.e):=(by rw[d.cell 17];rfl);have f17:=ik d.a9 17;have az:0<m:=(by have:=(gw o).1;omega);obtain⟨b0,o0,I,J,B,l0⟩:=z.cell o;rw[Aw]at B;subst I;have L:=fQ (show fV 36 = fI #[fF fO 0,fF fO 0,fH gj,fH gj]from by rw[fV,show acc 36=fT from by decide +kernel]);have aB:b<G:=(by have:=(gw n).1;omega);obtain⟨j,M,k,_,_,_⟩:=lZ h.kq fu;rw[l]at k;have N:(w.alloc (fR #[fF fO 36,fF fP (b:Int),f,cb,g] 86)).cell? ⟨C.mb,8,fT⟩=fU (fG (fU ⟨j,0,fT⟩) G M):=(by rw[d.cell 8];simp[iC,k]);have q:=d.kq;rw[k,l]at q;have cg:(w.alloc (fR #[fF fO 36,fF fP (b:Int),f,cb,g] 86)).cell? ⟨j,b,fT⟩=fU (fF fP (v0:Int)):=(by rw[q.cellAt b fu];simp[hH,n]);have O:=q.frozenAt b;have P:=(d.kq.lt j (by rw[k];rfl)).2;have t8:(b:Int)<(G:Int):=fu;have t:=fQ k;clear p ha h k q n l;go_in;go_wp2_with fail;refine(gK _ _).mono ?_;rintro e v ⟨rfl,D⟩;rw[L.out];rw[D]at r d y z A f17 B J N cg O P;obtain⟨k0,k1,k2,k3,k4⟩:=gZ r;clear D y0;have Q:=fQ (show a.getD 0 0=i by rw[Ak,o];rfl);clear o;have E:C.mb≠j:=fun e=>(iZ d.kq d.a9 fy) (by rw[t.out,e];rfl);have ax:∀ u,(v.setCell ⟨j,b,fT⟩ u).cell? ⟨C.mb,17,fT⟩=fU (fF fO x.e):=fun u=>(pX E).trans A;have ay:∀ u,(v.setCell ⟨j,b,fT⟩ u).frozen? ⟨C.mb,17,fT⟩=gj:=fun u=>(World.frozen?_of_block (a:=⟨C.mb,17,fT⟩) (Below.heap_setCell _ _ _ _ E)).trans f17;go_wp2_with fail;go_region
 all_goals
  go_wp2;go_ret;exact sV (c:=⟨36,b,K,K,K⟩) (a:=a) ((d.sM t.out b i F).C (jZ _)) ((y.sM t.out b i _).C (jZ _)) 0 0 0 { x.s with E:=x.s.E.set b i } (by simp only[jV,Q.out];simp) (fun _=>rfl) rfl v.heap.size (by simp[Ad])
theorem cWx(C:jo)(x:jk)(w:Bk)(b:Nat)(f cb g va:Bv)(a:List Nat)(K:List Int)(h:iB C x w)(ha:UR w va a)(i:Nat)(k:a[0]? = fU i)(z:x.s.L.length<=4096)(l:qJ x.s.L.length i b=gj):
  By fZ 87 #[fN (fU ⟨C.mb,0,fT⟩),fM #[fF fO 257,fF fP (b:Int),f,cb,g],va] w (pV C x ⟨257,b,K,K,K⟩ a w):=by
 obtain⟨Aa,cap,rfl⟩:=ha.I;obtain⟨m,B⟩:=fX a.length;rw[B]at ha ⊢;have o:=(Av w.heap.size w).alloc (Aj _) (fR #[fF fO 257,fF fP (b:Int),f,cb,g] 86);have d:=fQ (h.C o);have t:=fQ (MK.jN (C:=C) (x:=x) o);have u:=fQ (ha.C o (Aj _));have r:=gO.a4 w 86 #[fF fO 257,fF fP (b:Int),f,cb,g];have y0:=h.a9.lt;have D:(w.alloc (fR #[fF fO 257,fF fP (b:Int),f,cb,g] 86)).cell? ⟨C.mb,17,fT⟩=fU (fF fO x.e):=(by rw[d.cell 17];rfl);have f17:=ik d.a9 17;have aw:0<m:=(by have:=(gw k).1;omega);obtain⟨b0,o0,E,F,v,l0⟩:=u.cell k;rw[Aw]at v;subst E;have G:=fQ (show fV 257 = fI #[fF fO 0,fF fO 0,fH gj,fH gj]from by rw[fV,show acc 257=fT from by decide +kernel]);obtain⟨p,q,j⟩:∃ A c,x.mv = fG A x.s.L.length c:=(by obtain⟨A,c,e,_⟩:=h.L;exact⟨A,c,e⟩);obtain⟨n,hn⟩:=fX x.s.L.length;rw[hn]at j z;have H:=fQ hn;have I:(w.alloc (fR #[fF fO 257,fF fP (b:Int),f,cb,g] 86)).cell? ⟨C.mb,6,fT⟩=fU (fG p n q):=(by rw[d.cell 6];simp[iC,j]);have J:=ik d.a9 6;have L:=fQ (show BR (w.alloc (fR #[fF fO 257,fF fP (b:Int),f,cb,g] 86)) (fG p n q) x.s.L by have:=d.L;rwa[j]at this);have ay:=fQ j;clear o ha h j hn;go_in;go_wp2_with fail;refine(gK _ _).mono ?_;rintro e M ⟨rfl,y⟩;rw[G.out];rw[y]at r d t u D f17 v F I J L;obtain⟨k0,k1,k2,k3,k4⟩:=gZ r;have yB:=r.lt;have yM:=d.a9.lt;clear y y0;have N:=fQ (show a.getD 0 0=i by rw[Ak,k];rfl);have O:=fQ l;rw[H.out]at l;have P:=fQ (fun w':Bk=>show By fZ 114 #[fG p n q,fF fP (i:Int),fF fP (b:Int)] w' (fun e Q=>e = fS (fH gj)/\Q=w') by have:=xK p n q i b w' fu;rw[l]at this;exact this.mono fun _ _ ⟨h1,h2⟩=>⟨h1,h2.symm⟩);clear k l;go_wp2_with fail;go_quiet ((go_at_call 114;exact Az (P.out _)));go_wp2;go_ret;exact sV (c:=⟨257,b,K,K,K⟩) (a:=a) (d.drewN nq) (t.C (fK (Av _ _) nq)) 0 0 35 x.s (by simp only[jV,N.out,O.out];simp) (fun _=>rfl) rfl M.heap.size rfl
theorem cWy(C:jo)(x:jk)(w:Bk)(b:Nat)(f cb g va:Bv)(a:List Nat)(K:List Int)(h:iB C x w)(ha:UR w va a)(i:Nat)(k:a[0]? = fU i)(z:x.s.L.length<=4096)(l:qJ x.s.L.length i b=gh):
  By fZ 87 #[fN (fU ⟨C.mb,0,fT⟩),fM #[fF fO 257,fF fP (b:Int),f,cb,g],va] w (pV C x ⟨257,b,K,K,K⟩ a w):=by
 obtain⟨Aa,cap,rfl⟩:=ha.I;obtain⟨m,B⟩:=fX a.length;rw[B]at ha ⊢;have o:=(Av w.heap.size w).alloc (Aj _) (fR #[fF fO 257,fF fP (b:Int),f,cb,g] 86);have d:=fQ (h.C o);have t:=fQ (MK.jN (C:=C) (x:=x) o);have u:=fQ (ha.C o (Aj _));have r:=gO.a4 w 86 #[fF fO 257,fF fP (b:Int),f,cb,g];have y0:=h.a9.lt;have D:(w.alloc (fR #[fF fO 257,fF fP (b:Int),f,cb,g] 86)).cell? ⟨C.mb,17,fT⟩=fU (fF fO x.e):=(by rw[d.cell 17];rfl);have f17:=ik d.a9 17;have aw:0<m:=(by have:=(gw k).1;omega);obtain⟨b0,o0,E,F,v,l0⟩:=u.cell k;rw[Aw]at v;subst E;have G:=fQ (show fV 257 = fI #[fF fO 0,fF fO 0,fH gj,fH gj]from by rw[fV,show acc 257=fT from by decide +kernel]);obtain⟨p,q,j⟩:∃ A c,x.mv = fG A x.s.L.length c:=(by obtain⟨A,c,e,_⟩:=h.L;exact⟨A,c,e⟩);obtain⟨n,hn⟩:=fX x.s.L.length;rw[hn]at j z;have H:=fQ hn;have I:(w.alloc (fR #[fF fO 257,fF fP (b:Int),f,cb,g] 86)).cell? ⟨C.mb,6,fT⟩=fU (fG p n q):=(by rw[d.cell 6];simp[iC,j]);have J:=ik d.a9 6;have L:=fQ (show BR (w.alloc (fR #[fF fO 257,fF fP (b:Int),f,cb,g] 86)) (fG p n q) x.s.L by have:=d.L;rwa[j]at this);have ay:=fQ j;clear o ha h j hn;go_in;go_wp2_with fail;refine(gK _ _).mono ?_;rintro e M ⟨rfl,y⟩;rw[G.out];rw[y]at r d t u D f17 v F I J L;obtain⟨k0,k1,k2,k3,k4⟩:=gZ r;have yB:=r.lt;have yM:=d.a9.lt;clear y y0;have N:=fQ (show a.getD 0 0=i by rw[Ak,k];rfl);have O:=fQ l;rw[H.out]at l;have P:=fQ (fun w':Bk=>show By fZ 114 #[fG p n q,fF fP (i:Int),fF fP (b:Int)] w' (fun e Q=>e = fS (fH gh)/\Q=w') by have:=xK p n q i b w' fu;rw[l]at this;exact this.mono fun _ _ ⟨h1,h2⟩=>⟨h1,h2.symm⟩);clear k l;go_wp2_with fail;go_quiet ((go_at_call 114;exact Az (P.out _)));go_wp2;go_ret;exact sV (c:=⟨257,b,K,K,K⟩) (a:=a) (d.drewN nq) (t.C (fK (Av _ _) nq)) 0 0 0 x.s (by simp only[jV,N.out,O.out];simp) (fun _=>rfl) rfl M.heap.size rfl
theorem cWz{c:gP}{s:iM}{k wd:Int}{d:Bool}(b:acc c.op=fU (k,wd,gh,d)):jV c a s=if lV s.L.length c.op (a.getD 0 0) c.n (a.getD 1 0)=0 then(0,0,{ s with L:=lQ s.L c.op (a.getD 0 0) c.n (a.getD 1 0) })else(0,38,s):=by
 have hb:=mK b;unfold jV;rw[gy fu,gy fu,gy fu,gy fu,gy fu,gy fu,gy fu];simp only[b]
theorem dKx{c:gP}{s:iM}{k wd:Int}{d:Bool}(b:acc c.op=fU (k,wd,gj,d)):jV c a s=if(oK s.L c.op (a.getD 0 0) c.n).2=0 then((oK s.L c.op (a.getD 0 0) c.n).1.toNat,0,s)else(0,38,s):=by
 have hb:=mK b;unfold jV;rw[gy fu,gy fu,gy fu,gy fu,gy fu,gy fu,gy fu];simp only[b]
theorem dKy{c:gP}{s:iM}(b:acc c.op=fT)(h:c.op≠256/\c.op≠272/\c.op≠258/\c.op≠27/\c.op≠35/\c.op≠36/\c.op≠257/\c.op≠63/\c.op≠64):jV c a s=((oV c.op a).1.toNat,(oV c.op a).2,s):=by
 obtain⟨h1,h2,d,e,f,g,i,j,k⟩:=h;unfold jV;rw[gy h1,gy h2,gy d,gy e,gy f,gy g,gy i];simp only[b];rw[gy j,gy k]
theorem BR.len'{A:Option BJ}{n c:Nat}(h:BR w (fG A n c) l):n=l.length/\Src w A n (jv l)/\n<=c/\(A=fT->c=0):=by
 obtain⟨A',c',e,h1,h2,a,_⟩:=h;injection e with b e2 d;subst b;subst e2;subst d;exact⟨rfl,h1,h2,a⟩
theorem eZt(C:jo)(x:jk)(w:Bk)(op k wd:Int)(sg:Bool)(G:acc op=fU (k,wd,gj,sg))(d:Nat)(q cb r va:Bv)(a:List Nat)(K:List Int)(h:iB C x w)(ha:UR w va a)(j:Nat)(H:a[0]? = fU j)(ax:x.s.L.length<=4096)(Q:jw x.s.L):
  By fZ 87 #[fN (fU ⟨C.mb,0,fT⟩),fM #[fF fO op,fF fP (d:Int),q,cb,r],va] w (pV C x ⟨op,d,K,K,K⟩ a w):=by
 have R:=mK G;have ay:(op == 256)=gj:=fw;have az:(op == 272)=gj:=fw;have aA:(op == 258)=gj:=fw;have aG:(op == 27)=gj:=fw;have aH:(op == 35)=gj:=fw;have aI:(op == 36)=gj:=fw;have aJ:(op == 16)=gj:=fw;have aB:(op == 257)=gj:=fw;obtain⟨Aa,cap,rfl⟩:=ha.I;obtain⟨m,hm⟩:=fX a.length;rw[hm]at ha ⊢;have I:=(Av w.heap.size w).alloc (Aj _) (fR #[fF fO op,fF fP (d:Int),q,cb,r] 86);have l:=fQ (h.C I);have V:=fQ (MK.jN (C:=C) (x:=x) I);have W:=fQ (ha.C I (Aj _));have t:=gO.a4 w 86 #[fF fO op,fF fP (d:Int),q,cb,r];have y0:=h.a9.lt;have S:(w.alloc (fR #[fF fO op,fF fP (d:Int),q,cb,r] 86)).cell? ⟨C.mb,17,fT⟩=fU (fF fO x.e):=(by rw[l.cell 17];rfl);have f17:=ik l.a9 17;have aK:0<m:=(by have:=(gw H).1;omega);obtain⟨J,o0,aC,v,y,l0⟩:=W.cell H;rw[Aw]at y;subst aC;have HT:=fQ (show fV op = fI #[fF fO k,fF fO wd,fH gj,fH gh]from by simp[fV,G]);obtain⟨u,z,B⟩:∃ A c,x.mv = fG A x.s.L.length c:=(by obtain⟨A,c,e,_⟩:=h.L;exact⟨A,c,e⟩);obtain⟨n,hn⟩:=fX x.s.L.length;rw[hn]at B ax;have L:(w.alloc (fR #[fF fO op,fF fP (d:Int),q,cb,r] 86)).cell? ⟨C.mb,6,fT⟩=fU (fG u n z):=(by rw[l.cell 6];simp[iC,B]);have X:=ik l.a9 6;have Y:=fQ (show BR (w.alloc (fR #[fF fO op,fF fP (d:Int),q,cb,r] 86)) (fG u n z) x.s.L by have:=l.L;rwa[B]at this);clear I ha h B hn;go_in;go_wp2_with fail;refine(gK _ _).mono ?_;rintro e g ⟨rfl,Z⟩;rw[HT.out];rw[Z]at t l V W S f17 y v L X Y;obtain⟨M,O,k2,k3,k4⟩:=gZ t;have o:=t.lt;have D:=l.a9.lt;clear Z y0;have HG:=fQ (show a.getD 0 0=j by rw[Ak,H];rfl);have HV:=fQ (dKx (c:=⟨op,d,K,K,K⟩) (a:=a) (s:=x.s) G);obtain⟨N,T⟩:∃ N:Nat,(oK x.s.L op j d).1=N:=⟨_,(re (aYz Q op j d)).2.symm⟩;obtain⟨E,U⟩:=fX ((oK x.s.L op j d).2);have CL:=fQ (fun w':Bk=>fun hs:Src w' u n (jv x.s.L)=>show By fZ 116 #[fG u n z,fF fO op,fF fP (j:Int),fF fP (d:Int)] w' (fun e aD=>e = fS (fI #[fF fP (N:Int),fF fO E])/\Bw w'.heap.size w' aD) by have:=cJl u n z j d op x.s.L w' hs Q fu;rw[T,U]at this;exact this);have HE:=fQ U;have aE:=fQ T;clear H U T G Q R;have aF:=fQ (fun w':Bk=>fun R:Bw g.heap.size g w'=>(BR.len' (Y.C R (Aj _))).2.1);go_wp2_with fail;refine jY (fun w'=>w'.cell? ⟨C.mb,6,fT⟩=fU (fG u n z)/\w'.cell? ⟨w.heap.size,0,fT⟩=fU (fF fO op)/\w'.cell? ⟨w.heap.size,1,fT⟩=fU (fF fP (d:Int))/\w'.cell? ⟨J,o0,fT⟩=fU (fF fP (j:Int))/\C.mb<w'.heap.size/\w.heap.size<w'.heap.size/\J<w'.heap.size) (fun _=>True) 1000 fx ⟨(Ay (jZ g) (p:=⟨C.mb,6,fT⟩) D).trans L,(Ay (jZ g) (p:=⟨w.heap.size,0,fT⟩) o).trans M,(Ay (jZ g) (p:=⟨w.heap.size,1,fT⟩) o).trans O,(Ay (jZ g) (p:=⟨J,o0,fT⟩) v).trans y,Ax D (AK (jZ g)),Ax o (AK (jZ g)),Ax v (AK (jZ g))⟩ trivial fun b=>?_
 refine ig 0 b fun b=>?_;refine ig 1 b fun b=>?_;refine ig 2 b fun b=>?_;refine ig 3 b fun b=>?_;refine ig 4 b fun b=>?_;refine ig 5 b fun b=>?_;refine ig 6 b fun b=>?_;refine ig 7 b fun b=>?_;refine ig 8 b fun b=>?_;refine ig 9 b fun b=>?_;refine ig 10 b fun b=>?_;refine ig 11 b fun b=>?_;refine gX (i:=12) fx rfl fun K hK=>?_;go_simp;refine(CL.out _ (aF.out _ (jZ _))).mono ?_;rintro en w2 ⟨rfl,au⟩;have f:=fQ ((jZ g).trans au);clear au;refine hK.out _ _ ⟨⟨(Ay f.out (p:=⟨C.mb,6,fT⟩) D).trans L,(Ay f.out (p:=⟨w.heap.size,0,fT⟩) o).trans M,(Ay f.out (p:=⟨w.heap.size,1,fT⟩) o).trans O,(Ay f.out (p:=⟨J,o0,fT⟩) v).trans y,Ax D (AK f.out),Ax o (AK f.out),Ax v (AK f.out)⟩,fun _=>trivial⟩ fun b=>?_;clear hK K
 try simp only[Act.put,AV,AY,Ab]
 refine ig 13 b fun b=>?_;refine ig 14 b fun b=>?_;refine ig 15 b fun b=>?_;refine ig 16 b fun b=>?_;refine ig 17 b fun b=>?_;refine jX fx ?_ _;clear b;clear S f17 M O k2 k3 k4 y L X o D;have F:=fQ (l.C f.out);have aw:=fQ (V.C f.out);have S:w2.cell? ⟨C.mb,17,fT⟩=fU (fF fO x.e):=(by rw[F.cell 17];rfl);have f17:=ik F.a9 17;obtain⟨M,O,k2,k3,k4⟩:=gZ (t.C f.out t.lt);by_cases P:E=0
 ·subst P;go_wp2;go_ret;exact sV (c:=⟨op,d,K,K,K⟩) (a:=a) F.out aw.out N N 0 x.s (by rw[HV.out,HG.out,HE.out];rw[gz rfl,aE.out];rfl) (fun _=>rfl) rfl w2.heap.size rfl
 ·have tE:(E != 0)=gh:=(by simpa using P);have HZ:=fQ P;clear P;go_wp2;go_ret;exact sV (c:=⟨op,d,K,K,K⟩) (a:=a) F.out aw.out N 0 38 x.s (by rw[HV.out,HG.out,HE.out];rw[gy HZ.out]) (fun h=>gH h fy) rfl w2.heap.size rfl
theorem dKz(C:jo)(x:jk)(w:Bk)(op k wd:Int)(sg:Bool)(S:acc op=fU (k,wd,gh,sg))(d:Nat)(F cb G va:Bv)(a:List Nat)(K:List Int)(h:iB C x w)(ha:UR w va a)(o:Nat)(T:a[0]? = fU o)(aH:x.s.L.length<=4096)(q:Nat)(U:a[1]? = fU q)(hB:jw x.s.L):
  By fZ 87 #[fN (fU ⟨C.mb,0,fT⟩),fM #[fF fO op,fF fP (d:Int),F,cb,G],va] w (pV C x ⟨op,d,K,K,K⟩ a w):=by
 have hb:=mK S;have aI:(op == 256)=gj:=fw;have aJ:(op == 272)=gj:=fw;have aK:(op == 258)=gj:=fw;have aW:(op == 27)=gj:=fw;have aX:(op == 35)=gj:=fw;have aY:(op == 36)=gj:=fw;have aZ:(op == 16)=gj:=fw;have aL:(op == 257)=gj:=fw;obtain⟨Aa,cap,rfl⟩:=ha.I;obtain⟨m,hm⟩:=fX a.length;rw[hm]at ha ⊢;have V:=(Av w.heap.size w).alloc (Aj _) (fR #[fF fO op,fF fP (d:Int),F,cb,G] 86);have f:=fQ (h.C V);have au:=fQ (MK.jN (C:=C) (x:=x) V);have aw:=fQ (ha.C V (Aj _));have H:=gO.a4 w 86 #[fF fO op,fF fP (d:Int),F,cb,G];have y0:=h.a9.lt;have ax:(w.alloc (fR #[fF fO op,fF fP (d:Int),F,cb,G] 86)).cell? ⟨C.mb,17,fT⟩=fU (fF fO x.e):=(by rw[f.cell 17];rfl);have f17:=ik f.a9 17;have a6:0<m:=(by have:=(gw T).1;omega);obtain⟨t,o0,aM,u,J,l0⟩:=aw.cell T;rw[Aw]at J;subst aM;have a8:1<m:=(by have:=(gw U).1;omega);have ba:(1:Int)<(m:Int):=fu;obtain⟨b1,o1,ay,aN,W,l1⟩:=aw.cell U;injection ay with ay;injection ay with aO aP;subst aO;subst aP;have HT:=fQ (show fV op = fI #[fF fO k,fF fO wd,fH gh,fH gh]from by simp[fV,S]);obtain⟨v,I,L⟩:∃ A c,x.mv = fG A x.s.L.length c:=(by obtain⟨A,c,e,_⟩:=h.L;exact⟨A,c,e⟩);obtain⟨n,hn⟩:=fX x.s.L.length;rw[hn]at L aH;have HN:=fQ hn;have N:(w.alloc (fR #[fF fO op,fF fP (d:Int),F,cb,G] 86)).cell? ⟨C.mb,6,fT⟩=fU (fG v n I):=(by rw[f.cell 6];simp[iC,L]);have f6:=ik f.a9 6;have az:=fQ (show BR (w.alloc (fR #[fF fO op,fF fP (d:Int),F,cb,G] 86)) (fG v n I) x.s.L by have:=f.L;rwa[L]at this);have aQ:=fQ L;clear V ha h L hn;go_in;go_wp2_with fail;refine(gK _ _).mono ?_;rintro e g ⟨rfl,hX⟩;rw[HT.out];rw[hX]at H f au aw ax f17 J u W aN N f6 az;obtain⟨X,Y,k2,k3,k4⟩:=gZ H;have r:=H.lt;have O:=f.a9.lt;clear hX y0;have HG:=fQ (show a.getD 0 0=o by rw[Ak,T];rfl);have aA:=fQ (show a.getD 1 0=q by rw[Ak,U];rfl);have HV:=fQ (cWz (c:=⟨op,d,K,K,K⟩) (a:=a) (s:=x.s) S);obtain⟨E,hE⟩:=fX (lV x.s.L.length op o d q);obtain⟨M,Z⟩:=fX (lQ x.s.L op o d q);have aB:lV n op o d q=E:=(by rw[<-HN.out];exact hE);have CL:=fQ (fun w':Bk=>fun hs:Src w' v n (jv x.s.L)=>show By fZ 115 #[fG v n I,fF fO op,fF fP (o:Int),fF fP (d:Int),fF fP (q:Int)] w' (fun e aC=>∃ P Q,e = fS (fI #[fG P M.length Q,fF fO E])/\aC.ownsRow w'.heap.size 5 1 (fG P M.length Q) M.length (jv M)/\Bw w'.heap.size w' aC) by have:=cXh v n I o d q op x.s.L w' hs fu;rw[Z,aB]at this;exact this);have HE:=fQ hE;have aR:=fQ Z
 have aD:=fQ (show M.length<=4096/\jw M by
  rw[<-Z];unfold lQ;by_cases hq:lV x.s.L.length op o d q=0
  ·simp only[gz hq];rw[qM];exact⟨by have:=HN.out;omega,aWs hB _ _ _⟩
  ·simp only[gy hq];exact⟨Nat.zero_le _,fun y hy=>gH hy Ai⟩)
 clear T U hE aB Z S hB hb;have aS:=fQ (fun w':Bk=>fun hb:Bw g.heap.size g w'=>(BR.len' (az.C hb (Aj _))).2.1);go_wp2_with fail;refine jY (fun w'=>w'.cell? ⟨C.mb,6,fT⟩=fU (fG v n I)/\w'.cell? ⟨w.heap.size,0,fT⟩=fU (fF fO op)/\w'.cell? ⟨w.heap.size,1,fT⟩=fU (fF fP (d:Int))/\w'.cell? ⟨t,o0,fT⟩=fU (fF fP (o:Int))/\w'.cell? ⟨t,o0+1,fT⟩=fU (fF fP (q:Int))/\C.mb<w'.heap.size/\w.heap.size<w'.heap.size/\t<w'.heap.size) (fun _=>True) 1000 fx ⟨(Ay (jZ g) (p:=⟨C.mb,6,fT⟩) O).trans N,(Ay (jZ g) (p:=⟨w.heap.size,0,fT⟩) r).trans X,(Ay (jZ g) (p:=⟨w.heap.size,1,fT⟩) r).trans Y,(Ay (jZ g) (p:=⟨t,o0,fT⟩) u).trans J,(Ay (jZ g) (p:=⟨t,o0+1,fT⟩) u).trans W,Ax O (AK (jZ g)),Ax r (AK (jZ g)),Ax u (AK (jZ g))⟩ trivial fun b=>?_;refine ig 0 b fun b=>?_;refine ig 1 b fun b=>?_;refine ig 2 b fun b=>?_;refine ig 3 b fun b=>?_;refine ig 4 b fun b=>?_;refine ig 5 b fun b=>?_;refine ig 6 b fun b=>?_;refine ig 7 b fun b=>?_;refine ig 8 b fun b=>?_;refine ig 9 b fun b=>?_;refine ig 10 b fun b=>?_;refine ig 11 b fun b=>?_;refine ig 12 b fun b=>?_;refine ig 13 b fun b=>?_;refine ig 14 b fun b=>?_;refine gX (i:=15) fx rfl fun K hK=>?_;go_simp;refine(CL.out _ (aS.out _ (jZ _))).mono ?_;rintro en w2 ⟨P,Q,rfl,z,aE⟩;have j:=fQ ((jZ g).trans aE);have aT:=fQ z;clear z;clear aE;refine hK.out _ _ ⟨⟨(Ay j.out (p:=⟨C.mb,6,fT⟩) O).trans N,(Ay j.out (p:=⟨w.heap.size,0,fT⟩) r).trans X,(Ay j.out (p:=⟨w.heap.size,1,fT⟩) r).trans Y,(Ay j.out (p:=⟨t,o0,fT⟩) u).trans J,(Ay j.out (p:=⟨t,o0+1,fT⟩) u).trans W,Ax O (AK j.out),Ax r (AK j.out),Ax u (AK j.out)⟩,fun _=>trivial⟩ fun b=>?_;clear hK K
 try simp only[Act.put,AV,AY,Ab]
 refine ig 16 b fun b=>?_;refine ig 17 b fun b=>?_;refine ig 18 b fun b=>?_;refine ig 19 b fun b=>?_;refine ig 20 b fun b=>?_;refine jX fx ?_ _;clear b;clear ax f17 X Y k2 k3 k4 J W N f6 r O;have z:=aT.out;have B:=fQ (f.C j.out);have aF:=fQ (au.C j.out);have ax:w2.cell? ⟨C.mb,17,fT⟩=fU (fF fO x.e):=(by rw[B.cell 17];rfl);have f17:=ik B.a9 17;obtain⟨X,Y,k2,k3,k4⟩:=gZ (H.C j.out H.lt);by_cases R:E=0
 ·subst R;have N:w2.cell? ⟨C.mb,6,fT⟩=fU (fG v n I):=(by rw[B.cell 6];simp[iC,aQ.out]);have f6:=ik B.a9 6;have aG:=cXe z aD.1 aD.2;have D:∀ k,(Value.slice P M.length Q).ownBlock=fU k->g.heap.size<=k/\k<w2.heap.size:=fun k l=>z.lt k l;have aU:=fQ (B.oM _ M aG (fun k l=>⟨fun e=>by have:=f.a9.lt;have:=D k l;omega,fun e=>by have:=(f.kq.lt k e).2;have:=D k l;omega,fun e=>by have:=(f.a0.lt k e).2;have:=D k l;omega⟩) (fun k l=>⟨by have:=f.bel.size;have:=D k l;omega,(D k l).2⟩));have aV:=fQ (aF.oM (fG P M.length Q) M (fun k l=>by have:=au.out.size;have:=D k l;omega));clear z aG D;go_wp2;go_ret;exact sV (c:=⟨op,d,K,K,K⟩) (a:=a) aU.out aV.out 0 0 0 { x.s with L:=M } (by rw[HV.out,HG.out,aA.out,HE.out,gz rfl,aR.out]) (fun _=>rfl) rfl w2.heap.size (by simp[Ad])
 ·have tE:(E != 0)=gh:=(by simpa using R);have bc:(E == 0)=gj:=(by simpa using R);have HZ:=fQ R;clear z R;go_wp2;go_ret;exact sV (c:=⟨op,d,K,K,K⟩) (a:=a) B.out aF.out 0 0 38 x.s (by rw[HV.out,HG.out,aA.out,HE.out,gy HZ.out]) (fun h=>gH h fy) rfl w2.heap.size rfl
theorem eZu(C:jo)(x:jk)(w:Bk)(l:Nat)(t cb u va:Bv)(a:List Nat)(K:List Int)(h:iB C x w)(ha:UR w va a)(g:Nat)(R:a[0]? = fU g)(ay:∀ k,va.ownBlock=fU k->¬js C x k)(aH:x.s.L.length<=4096)(aR:x.s.Y<=4096)(aI:0<=x.s.Y)(aJ:g<18446744073709551616)(hB:jw x.s.L):
  By fZ 87 #[fN (fU ⟨C.mb,0,fT⟩),fM #[fF fO 64,fF fP (l:Int),t,cb,u],va] w (pV C x ⟨64,l,K,K,K⟩ a w):=by
 obtain⟨Aa,cap,rfl⟩:=ha.I;obtain⟨m,hm⟩:=fX a.length;rw[hm]at ha ⊢;have S:=(Av w.heap.size w).alloc (Aj _) (fR #[fF fO 64,fF fP (l:Int),t,cb,u] 86);have f:=fQ (h.C S);have X:=fQ (MK.jN (C:=C) (x:=x) S);have az:=fQ (ha.C S (Aj _));have Y:=gO.a4 w 86 #[fF fO 64,fF fP (l:Int),t,cb,u];have y0:=h.a9.lt;have Z:(w.alloc (fR #[fF fO 64,fF fP (l:Int),t,cb,u] 86)).cell? ⟨C.mb,17,fT⟩=fU (fF fO x.e):=(by rw[f.cell 17];rfl);have f17:=ik f.a9 17;have T:(w.alloc (fR #[fF fO 64,fF fP (l:Int),t,cb,u] 86)).cell? ⟨C.mb,7,fT⟩=fU (fF fO x.s.Y):=(by rw[f.cell 7];rfl);have f7:=ik f.a9 7;have aS:0<m:=(by have:=(gw R).1;omega);obtain⟨y,o0,aK,z,E,l0⟩:=az.cell R;rw[Aw]at E;subst aK;have HT:=fQ (show fV 64 = fI #[fF fO 0,fF fO 0,fH gj,fH gj]from by rw[fV,show acc 64=fT from by decide +kernel]);have aL:=fQ (show C.mb<w.heap.size from y0);obtain⟨B,F,J⟩:∃ A c,x.mv = fG A x.s.L.length c:=(by obtain⟨A,c,e,_⟩:=h.L;exact⟨A,c,e⟩);obtain⟨n,hn⟩:=fX x.s.L.length;rw[hn]at J aH;have HN:=fQ hn;have G:(w.alloc (fR #[fF fO 64,fF fP (l:Int),t,cb,u] 86)).cell? ⟨C.mb,6,fT⟩=fU (fG B n F):=(by rw[f.cell 6];simp[iC,J]);have f6:=ik f.a9 6;have au:=fQ (show BR (w.alloc (fR #[fF fO 64,fF fP (l:Int),t,cb,u] 86)) (fG B n F) x.s.L by have:=f.L;rwa[J]at this);have aw:=fQ (show B=fT->n=0/\F=0 from fun e=>by have:=BR.len' au.out;have h2:=this.2.2.2 e;exact⟨fu,h2⟩);clear S ha h J hn;go_in;go_wp2_with fail;refine(gK _ _).mono ?_;rintro e j ⟨rfl,hX⟩;rw[HT.out];rw[hX]at Y f X az Z f17 T f7 E z G f6 au;obtain⟨U,V,k2,k3,k4⟩:=gZ Y;have q:=Y.lt;have r:=f.a9.lt;clear hX y0;have HG:=fQ (show a.getD 0 0=g by rw[Ak,R];rfl);have HV:=fQ (show jV ⟨64,l,K,K,K⟩ a x.s=(rV x.s.L.length x.s.Y g,0,{ x.s with L:=lX x.s.L x.s.Y g }) by simp only[jV,show acc 64=fT from by decide +kernel,HG.out];simp);have aM:y≠C.mb:=fun e=>ay y rfl (.inl e);have aA:w.heap.size≠C.mb:=(by have:=aL.out;omega);obtain⟨M,W⟩:=fX (lX x.s.L x.s.Y g);obtain⟨N,hN⟩:=fX (rV n x.s.Y g);have CL:=fQ (fun w':Bk=>fun hs:Src w' B n (jv x.s.L)=>show By fZ 117 #[fG B n F,fF fO x.s.Y,fF fP (g:Int)] w' (fun e aB=>∃ H I,e = fS (fI #[fG H M.length I,fF fP (N:Int)])/\aB.ownsRow w'.heap.size 5 1 (fG H M.length I) M.length (jv M)/\Bw w'.heap.size w' aB) by have:=cJk B n F x.s.L x.s.Y g w' hs aw.out fu fu fu aJ;rw[W,hN]at this;exact this)
 have aC:=fQ (show M.length<=4096/\jw M by
  rw[<-W];refine⟨?_,aYx hB _ _⟩;unfold lX;by_cases hq:yZ x.s.L.length x.s.Y g=gh
  ·rw[gz hq,List.length_append,List.length_replicate];unfold yZ at hq;simp only[decide_eq_true_eq]at hq;omega
  ·rw[gy hq];have:=HN.out;omega)
 have aN:=fQ W;have aO:=fQ (show rV x.s.L.length x.s.Y g=N by rw[HN.out];exact hN);clear R W hN ay hB;have aP:=fQ (fun w':Bk=>fun hb:Bw j.heap.size j w'=>(BR.len' (au.C hb (Aj _))).2.1);go_wp2_with fail;refine jY (fun w'=>w'.cell? ⟨w.heap.size,0,fT⟩=fU (fF fO 64)/\w'.cell? ⟨w.heap.size,1,fT⟩=fU (fF fP (l:Int))/\w'.cell? ⟨y,o0,fT⟩=fU (fF fP (g:Int))/\w'.cell? ⟨C.mb,7,fT⟩=fU (fF fO x.s.Y)/\C.mb<w'.heap.size/\w.heap.size<w'.heap.size/\y<w'.heap.size) (fun w'=>w'.cell? ⟨C.mb,6,fT⟩=fU (fG B n F)) 21 fx ⟨(Ay (jZ j) (p:=⟨w.heap.size,0,fT⟩) q).trans U,(Ay (jZ j) (p:=⟨w.heap.size,1,fT⟩) q).trans V,(Ay (jZ j) (p:=⟨y,o0,fT⟩) z).trans E,(Ay (jZ j) (p:=⟨C.mb,7,fT⟩) r).trans T,Ax r (AK (jZ j)),Ax q (AK (jZ j)),Ax z (AK (jZ j))⟩ ((Ay (jZ j) (p:=⟨C.mb,6,fT⟩) r).trans G) fun b=>?_;refine ig 0 b fun b=>?_;refine ig 1 b fun b=>?_;refine ig 2 b fun b=>?_;refine ig 3 b fun b=>?_;refine ig 4 b fun b=>?_;refine nY (i:=5) (v:=?vc5) rfl fx fx fx (fun _ _ _ h=>h) rfl fx fx (Or.inl ⟨by rfl,?hyc5⟩) b fun b=>?_
 case hyc5=>intro w aQ;(try dsimp only at aQ);go_simp;(try with_reducible rfl)
 try simp only[Act.put,AV,AY,Ab]
 refine ig 6 b fun b=>?_;refine ig 7 b fun b=>?_;refine ig 8 b fun b=>?_;refine ig 9 b fun b=>?_;refine ig 10 b fun b=>?_;refine ig 11 b fun b=>?_;refine ig 12 b fun b=>?_;refine ig 13 b fun b=>?_;refine gX (i:=14) fx rfl fun K L=>?_;go_simp;refine(CL.out _ (aP.out _ (jZ _))).mono ?_;rintro en w2 ⟨H,I,rfl,O,aD⟩;have d:=fQ ((jZ j).trans aD);have ax:=fQ O;clear O aD;refine L.out _ _ ⟨⟨(Ay d.out (p:=⟨w.heap.size,0,fT⟩) q).trans U,(Ay d.out (p:=⟨w.heap.size,1,fT⟩) q).trans V,(Ay d.out (p:=⟨y,o0,fT⟩) z).trans E,(Ay d.out (p:=⟨C.mb,7,fT⟩) r).trans T,Ax r (AK d.out),Ax q (AK d.out),Ax z (AK d.out)⟩,fun _=>(Ay d.out (p:=⟨C.mb,6,fT⟩) r).trans G⟩ fun b=>?_;clear L K
 try simp only[Act.put,AV,AY,Ab]
 refine ig 15 b fun b=>?_;refine ig 16 b fun b=>?_;refine ig 17 b fun b=>?_;refine ig 18 b fun b=>?_;refine ig 19 b fun b=>?_;refine ig 20 b fun b=>?_;have G:=(Ay d.out (p:=⟨C.mb,6,fT⟩) r).trans G;have P:=fQ (f.C d.out);have aE:=fQ (X.C d.out);have f6:=ik P.a9 6;refine gX (i:=21) fx rfl fun K L=>?_;go_simp;refine L.out _ _ (SD.after ⟨(pX aA).trans ((Ay d.out (p:=⟨w.heap.size,0,fT⟩) q).trans U),(pX aA).trans ((Ay d.out (p:=⟨w.heap.size,1,fT⟩) q).trans V),(pX aM).trans ((Ay d.out (p:=⟨y,o0,fT⟩) z).trans E),by rw[(fY P.a9 6 _).cell 7];rfl,by rw[xQ];exact Ax r (AK d.out),by rw[xQ];exact Ax q (AK d.out),by rw[xQ];exact Ax z (AK d.out)⟩ fx) fun b=>?_;clear L K
 try simp only[Act.put,AV,AY,Ab]
 refine ig 22 b fun b=>?_;refine jX fx ?_ _;clear b;have O:=ax.out;have aF:=cXe O aC.1 aC.2;have D:∀ k,(Value.slice H M.length I).ownBlock=fU k->j.heap.size<=k/\k<w2.heap.size:=fun k o=>⟨(ax.lt k o).1,(ax.lt k o).2⟩;have Q:=fQ (P.oM _ M aF (fun k o=>⟨fun e=>by have:=f.a9.lt;have:=D k o;omega,fun e=>by have:=(f.kq.lt k e).2;have:=D k o;omega,fun e=>by have:=(f.a0.lt k e).2;have:=D k o;omega⟩) (fun k o=>⟨by have:=f.bel.size;have:=D k o;omega,(D k o).2⟩));have aG:=fQ (aE.oM (fG H M.length I) M (fun k o=>by have:=X.out.size;have:=D k o;omega));clear O aF D Z f17 G f6 T f7 U V k2 k3 k4 E q r P aE;obtain⟨wZ,hZ⟩:=fX (w2.setCell ⟨C.mb,6,fT⟩ (fG H M.length I));rw[hZ]at Q aG ⊢;have Z:wZ.cell? ⟨C.mb,17,fT⟩=fU (fF fO x.e):=(by rw[Q.cell 17];rfl);have f17:=ik Q.a9 17;clear hZ;go_wp2;go_ret;exact sV (c:=⟨64,l,K,K,K⟩) (a:=a) Q.out aG.out N N 0 { x.s with L:=M } (by rw[HV.out,aO.out,aN.out]) (fun _=>rfl) rfl wZ.heap.size rfl
theorem eZv(C:jo)(x:jk)(w:Bk)(op:Int)(k:acc op=fT)(t:op≠256/\op≠272/\op≠258/\op≠27/\op≠35/\op≠36/\op≠257/\op≠63/\op≠64)(aA:op≠16)(b:Nat)(f cb g va:Bv)(a:List Nat)(K:List Int)(h:iB C x w)(ha:UR w va a)(u:ij a):
  By fZ 87 #[fN (fU ⟨C.mb,0,fT⟩),fM #[fF fO op,fF fP (b:Int),f,cb,g],va] w (pV C x ⟨op,b,K,K,K⟩ a w):=by
 have ao:(op == 256)=gj:=fw;have aq:(op == 272)=gj:=fw;have ar:(op == 258)=gj:=fw;have aB:(op == 27)=gj:=fw;have aC:(op == 35)=gj:=fw;have aD:(op == 36)=gj:=fw;have aE:(op == 16)=gj:=fw;have au:(op == 257)=gj:=fw;have aF:(op == 63)=gj:=fw;have aG:(op == 64)=gj:=fw;obtain⟨l,cap,rfl⟩:=ha.I;obtain⟨m,A⟩:=fX a.length;rw[A]at ha ⊢;have i:=(Av w.heap.size w).alloc (Aj _) (fR #[fF fO op,fF fP (b:Int),f,cb,g] 86);have d:=fQ (h.C i);have v:=fQ (MK.jN (C:=C) (x:=x) i);have y:=fQ (ha.C i (Aj _));have n:=gO.a4 w 86 #[fF fO op,fF fP (b:Int),f,cb,g];have y0:=h.a9.lt;have o:(w.alloc (fR #[fF fO op,fF fP (b:Int),f,cb,g] 86)).cell? ⟨C.mb,17,fT⟩=fU (fF fO x.e):=(by rw[d.cell 17];rfl);have f17:=ik d.a9 17;have B:=fQ (show fV op = fI #[fF fO 0,fF fO 0,fH gj,fH gj]from by simp[fV,k]);clear i ha h;go_in;go_wp2_with fail;refine(gK _ _).mono ?_;rintro e wX ⟨rfl,z⟩;rw[B.out];rw[z]at n d v y o f17;obtain⟨D,F,k2,G,H⟩:=gZ n;clear z y0;have I:=fQ (dKy (c:=⟨op,b,K,K,K⟩) (a:=a) (s:=x.s) k t);obtain⟨N,p⟩:∃ N:Nat,(oV op a).1=N:=⟨_,(re (bQa op u)).2.symm⟩;obtain⟨E,q⟩:=fX ((oV op a).2);have J:=fQ (fun w':Bk=>fun hs:Src w' l m (hH a)=>show By fZ 118 #[fF fO op,fG l m cap] w' (fun e L=>e = fS (fI #[fF fP (N:Int),fF fO E])/\Bw w'.heap.size w' L) by have:=dVz op l m cap a w' hs u;unfold jW at this;rw[p,q]at this;exact this);have M:=fQ q;have O:=fQ p;have P:=fQ y.len.2.1;clear p q k t;go_wp2_with fail;refine(J.out _ P.out).mono ?_;rintro en w2 ⟨rfl,r⟩;have j:=fQ (d.C r);have Q:=fQ (v.C r);clear o f17 D F k2 G H;have o:w2.cell? ⟨C.mb,17,fT⟩=fU (fF fO x.e):=(by rw[j.cell 17];rfl);have f17:=ik j.a9 17;clear r;go_wp2;go_ret;exact sV (c:=⟨op,b,K,K,K⟩) (a:=a) j.out Q.out N N E x.s (by rw[I.out,O.out,M.out];rfl) (fun _=>rfl) rfl w2.heap.size rfl
end Go.Proofs.YtabibkpfgmolkaaGreatDoor

/- Lemmas for the claim, part 9. Conditions: none. -/
import Derived.Test.YtabibkpfgmolkaaGreatPl08
set_option maxRecDepth 100000
set_option maxHeartbeats 16000000
set_option linter.unusedVariables false
set_option linter.unusedSimpArgs false
open Go.Lib renaming hid→fQ
open Go.Proofs.Tryz renaming prog→fZ
open Go.RowKit
open List renaming getElem_cons_zero→Aj,map_cons→Ax,map_nil→Az,getElem_cons_succ→AJ
open Go.Calls renaming quiet_of_same→Aq
open Go.Addr renaming add_lit→Ak
open Nat renaming le_refl→Av,add_zero→Aw,pow_succ→AQ,pow_pos→AZ,lt_of_le_of_lt→AK,mod_lt→AV,mod_one→AW,mul_one→AY
open Go.RowKit.Below renaming refl→Ay
open Go.IntWalk renaming i64_in→AX
open Go renaming World→Aa,Calls→Ac,Addr→Ad
open Go.RowKit renaming Below→Ab
namespace Go.Proofs.YtabibkpfgmolkaaGreat
section
open Go.Lib
theorem aZp:∀ f,bitLenAux f 0=0
 | 0=>rfl
 | f+1=>by simp[bitLenAux]
theorem aJv:∀ (k f y:Nat),k<f->2 ^ k<=y->y<2 ^ (k+1)->bitLenAux f y=k+1
 | 0,f+1,y,_,h1,h2=>by
  obtain rfl:y=1:=(by simp at h1 h2;omega);simp[bitLenAux,aZp]
 | k+1,f+1,y,hf,h1,h2=>by
  have hp:2 ^ (k+1)=2 ^ k*2:=AQ ..;have hq:2 ^ (k+1+1)=2 ^ (k+1)*2:=AQ ..;have h0:0<2 ^ (k+1):=AZ (by decide);rw[bitLenAux,if_neg (by omega),aJv k f (y / 2) (by omega) (by omega) (by omega)];omega
theorem aWc:∀ (k f:Nat),k<f->ctzFrom f (2 ^ k)=k
 | 0,f+1,_=>by simp[ctzFrom]
 | k+1,f+1,h=>by
  have hp:2 ^ (k+1)=2 ^ k*2:=AQ ..;rw[ctzFrom,if_neg (by omega),hp,Nat.mul_div_cancel _ (by decide),aWc k f (by omega)];omega
theorem aWd:∀ (k f x:Nat),x<2 ^ k->x≠0->ctzFrom f (x+2 ^ k)=ctzFrom f x
 | 0,f,x,h,a=>by simp at h;omega
 | k+1,0,x,h,a=>rfl
 | k+1,f+1,x,h,a=>by
  have hp:2 ^ (k+1)=2 ^ k*2:=AQ ..;unfold ctzFrom;by_cases ho:x % 2=1
  ·rw[if_pos ho,if_pos (by omega)]
  ·rw[if_neg ho,if_neg (by omega),show(x+2 ^ (k+1)) / 2=x / 2+2 ^ k by omega,aWd k f (x / 2) (by omega) (by omega)]
theorem dXi(a k:Nat):a % 2 ^ (k+1)=a % 2 ^ k+2 ^ k*(a / 2 ^ k % 2):=by rw[AQ];exact Nat.mod_mul
theorem dVt{W x k:Nat}(a:x≠0)(b:x<2 ^ k)(c:k<=W):ctz W x<W:=by
 rw[ctz,if_neg a];obtain⟨m,_,d⟩:=ctzFrom_spec W x (by omega) (Nat.lt_of_lt_of_le b (Nat.pow_le_pow_right (by decide) c));exact d
theorem dXj(a k:Nat):popAux (k+1) a=popAux k a+a / 2 ^ k % 2:=by rw[aYx k 1];simp[popAux]
end
def eQh(W a:Nat)(b c mv i:Value):Prop:=∃ k:Nat,k<=W/\i = .int .i64 k/\b = .int .i64 ((W:Int) - (Lib.bitLen (a % 2 ^ k):Nat))/\c = .int .i64 ((Lib.ctz W (a % 2 ^ k):Nat):Int)/\mv = .int .i64 ((Lib.popAux k a:Nat):Int)
theorem bWw{a k:Nat}(ha:a<18446744073709551616)(b:Bool)(h:decide (a / 2 ^ k % 2=1)=b):(Go.bits .and .u64 ((a:Int) / 2 ^ k) 1 == 1)=b:=by
 rw[show((a:Int) / 2 ^ k)=((a / 2 ^ k:Nat):Int) by push_cast;rfl,show(1:Int)=((1:Nat):Int)from rfl,bits_and_u64_nat _ _ (AK (Nat.div_le_self _ _) ha) (by decide),Nat.and_one_is_mod];rw[<-h];have:a / 2 ^ k % 2<2:=AV _ (by decide);by_cases c:a / 2 ^ k % 2=1
 ·simp[c]
 ·have h2:a / 2 ^ k % 2=0:=(by omega);simp[h2]
theorem bKq(k a W:Nat)(w:Aa)(v:k<3)(o:(W=64/\a<18446744073709551616)\/(W=32/\a<4294967296)):Ac fZ 142 #[.int .i64 k,.int .u64 a,.int .i64 W] w fun e w'=>e = .returned (.int .u64 ((aQe W a).getD k 0))/\Ab w.heap.size w w':=by
 have p:=fQ (show a<18446744073709551616 by omega);have E:=fQ (show a<2 ^ W by rcases o with⟨rfl,h⟩ | ⟨rfl,h⟩ <;> simpa using h);have aj:W<=64:=(by omega);have an:0<W:=(by omega);have F:=fQ (bWv o v);clear o;go_in;go_wp2_with fail;go_loop [7,8,9,10] (fun G H mv i=>eQh W a G H mv i) (fun _ _ _ i=>W+1 - (intOf i).toNat)
 case atStart=>exact⟨0,by omega,rfl,by simp[AW,Lib.bitLen,aZp],by simp[AW,Lib.ctz],by simp[Lib.popAux]⟩
 case round=>
  obtain⟨j,hj,rfl,rfl,rfl,rfl⟩:=hrel;by_cases x:j<W
  ·have I:decide ((j:Int)<(W:Int))=true:=(by simpa using x);have g:=fQ (dXi a j);have z:=fQ (dXj a j);have A:=fQ (show a % 2 ^ j<2 ^ j from AV _ (AZ (by decide)));have q:Lib.bitLen (a % 2 ^ j)<=64:=aXq 64 _ 64 (AK (Nat.mod_le _ _) p.out);have r:Lib.popAux j a<=64:=(by have:=aKy j a;omega);by_cases hb:a / 2 ^ j % 2=1
   ·have gb:=bWw (k:=j) p.out true (by simpa using hb)
    have B:=fQ (show Lib.bitLen (a % 2 ^ (j+1))=j+1 by
     refine aJv j 64 _ (by omega) ?_ ?_
     ·rw[g.out,hb];omega
     ·exact AV _ (AZ (by decide)))
    have b:=fQ (show Lib.popAux (j+1) a=Lib.popAux j a+1 by rw[z.out,hb]);by_cases c:a % 2 ^ j=0
    ·have l:=fQ (show Lib.ctz W (a % 2 ^ (j+1))=j by
      rw[g.out,hb,c,Lib.ctz,if_neg (by have:0<2 ^ j:=AZ (by decide);omega),AY,Nat.zero_add]
      exact aWc j W x)
     have J:((W:Int) == (W:Int))=true:=(by simp);rw[c,show Lib.ctz W 0=W by simp[Lib.ctz]];clear hb c;generalize Lib.bitLen 0=f at q ⊢;generalize Lib.popAux j a=m at r b ⊢;go_wp2;refine⟨⟨j+1,by omega,by simp,?_,?_,?_⟩,by simp[intOf];omega⟩
     ·rw[B.out];congr 1;omega
     ·rw[l.out]
     ·rw[b.out];simp
    ·have l:=fQ (show Lib.ctz W (a % 2 ^ (j+1))=Lib.ctz W (a % 2 ^ j) by
      rw[g.out,hb,AY,Lib.ctz,if_neg (by omega),Lib.ctz,if_neg c]
      exact aWd j W _ A.out c)
     have K:=dVt c A.out (by omega:j<=W);clear hb c;generalize Lib.ctz W (a % 2 ^ j)=t at l K ⊢;have J:((t:Int) == (W:Int))=false:=(by simp;omega);generalize Lib.bitLen (a % 2 ^ j)=f at q ⊢;generalize Lib.popAux j a=m at r b ⊢;go_wp2;refine⟨⟨j+1,by omega,by simp,?_,?_,?_⟩,by simp[intOf];omega⟩
     ·rw[B.out];congr 1;omega
     ·rw[l.out]
     ·rw[b.out];simp
   ·have gb:=bWw (k:=j) p.out false (by simpa using hb);have C:=fQ (show a % 2 ^ (j+1)=a % 2 ^ j by rw[g.out,show a / 2 ^ j % 2=0 by omega,Nat.mul_zero,Aw]);have b:=fQ (show Lib.popAux (j+1) a=Lib.popAux j a by rw[z.out];omega);clear hb;generalize s:Lib.bitLen (a % 2 ^ j)=f at q ⊢;generalize D:Lib.popAux j a=m at r b ⊢;generalize u:Lib.ctz W (a % 2 ^ j)=t;replace s:=fQ s;replace D:=fQ D;replace u:=fQ u;go_wp2;refine⟨⟨j+1,by omega,by simp,?_,?_,?_⟩,by simp[intOf];omega⟩
    ·rw[C.out,s.out]
    ·rw[C.out,u.out]
    ·rw[b.out]
  ·obtain rfl:j=W:=(by omega);have I:decide ((j:Int)<(j:Int))=false:=(by simp);rw[Nat.mod_eq_of_lt E.out];obtain⟨y,d⟩:=fX ((aQe j a).getD k 0);have hy:0<=y/\y<=64:=(by rw[<-d];exact F.out);have ao:IntKind.u64.wrap y=y:=(by rw[IntKind.wrap_u64];omega);have n:=dXh d v (Blk.new w 3 _);have aq:(k:Int)<3:=(by omega);simp only[aQe,Ax,Az,List.toArray]at n;replace d:=fQ d;generalize Lib.bitLen a=f at n ⊢;generalize Lib.popAux j a=m at n ⊢;generalize Lib.ctz j a=t at n ⊢;go_wp2;go_ret;exact⟨aQl d.out.symm,(Ay _ _).alloc (Av _) _⟩
theorem dZy(c:Int)(k a b:Nat)(w:Aa)(d:c=(k:Int))(f:k<10)(ha:a<18446744073709551616)(hb:b<18446744073709551616):Ac fZ 141 #[.int .i64 c,.int .u64 a,.int .u64 b,.int .i64 64] w fun e w'=>e = .returned (.int .u64 (b01 ((xK a b (wrap64 a) (wrap64 b)).getD k false)))/\Ab w.heap.size w w':=by
 subst d;exact cWo k a b w f ha hb
theorem dZz(c:Int)(k a b:Nat)(w:Aa)(d:c=(k:Int))(f:k<10)(ha:a<18446744073709551616)(hb:b<18446744073709551616):Ac fZ 141 #[.int .i64 c,.int .u64 a,.int .u64 b,.int .i64 32] w fun e w'=>e = .returned (.int .u64 (b01 ((xK a b (wrap32 a) (wrap32 b)).getD k false)))/\Ab w.heap.size w w':=by
 subst d;exact cWp k a b w f ha hb
theorem dJa(b:Int)(k a:Nat)(w:Aa)(c:b=(k:Int))(d:k<3)(ha:a<18446744073709551616):Ac fZ 142 #[.int .i64 b,.int .u64 a,.int .i64 64] w fun e w'=>e = .returned (.int .u64 ((aQe 64 a).getD k 0))/\Ab w.heap.size w w':=by
 subst c;exact bKq k a 64 w d (.inl ⟨rfl,ha⟩)
theorem dJb(b:Int)(k a:Nat)(w:Aa)(c:b=(k:Int))(d:k<3)(ha:a<4294967296):Ac fZ 142 #[.int .i64 b,.int .u64 a,.int .i64 32] w fun e w'=>e = .returned (.int .u64 ((aQe 32 a).getD k 0))/\Ab w.heap.size w w':=by
 subst c;exact bKq k a 32 w d (.inr ⟨rfl,ha⟩)
theorem dJc(c:Int)(k a b:Nat)(w:Aa)(d:c=(k:Int))(f:k<15)(ha:a<18446744073709551616)(hb:b<18446744073709551616):Ac fZ 143 #[.int .i64 c,.int .u64 a,.int .u64 b,.int .i64 64] w fun e w'=>e = .returned (.tuple #[.int .u64 (hY 3 126 k a b).1,.int .i64 (hY 3 126 k a b).2])/\w'=w:=by
 subst d;exact(dJs k a b w f ha hb).mono fun _ _ ⟨h1,h2⟩=>⟨h1,h2.symm⟩
theorem dJd(c:Int)(k a b:Nat)(w:Aa)(d:c=(k:Int))(f:k<15)(ha:a<4294967296)(hb:b<4294967296):Ac fZ 143 #[.int .i64 c,.int .u64 a,.int .u64 b,.int .i64 32] w fun e w'=>e = .returned (.tuple #[.int .u64 (hY 3 127 k a b).1,.int .i64 (hY 3 127 k a b).2])/\w'=w:=by
 subst d;exact(dKd k a b w f ha hb).mono fun _ _ ⟨h1,h2⟩=>⟨h1,h2.symm⟩
theorem dJe(x:Int):wrap64 (wrap32 x)=wrap32 x:=by unfold wrap64 wrap32;omega
theorem bKr(z:Int):IntKind.u64.wrap z=IntKind.u64.wrap (wrap64 z):=by rw[qJ,IntKind.wrap_u64]
theorem cWa(z:Int):IntKind.u64.wrap z % 4294967296=wrap64 z % 4294967296:=by rw[lJ];unfold wrap64;omega
theorem dJf(x:Nat):IntKind.u64.wrap (IntKind.i8.wrap x)=rZ 0 126 x:=by rw[eQd rfl];exact bKr _
theorem dXk(x:Nat):IntKind.u64.wrap (IntKind.i16.wrap x)=rZ 1 126 x:=by rw[eQf rfl];exact bKr _
theorem dXl(x:Nat):IntKind.u64.wrap (wrap32 x)=rZ 2 126 x:=by rw[eQg rfl];exact bKr _
theorem dJg(x:Nat):IntKind.u64.wrap (IntKind.i8.wrap x) % 4294967296=rZ 0 127 x:=by rw[eQc rfl];exact cWa _
theorem dXm(x:Nat):IntKind.u64.wrap (IntKind.i16.wrap x) % 4294967296=rZ 1 127 x:=by rw[eQe rfl];exact cWa _
theorem cQs(op:Int)(A:Option Ad)(n c:Nat)(l:List Nat)(w:Aa)(hg:fV op=none):
  Ac fZ 121 #[.int .i64 op,.slice A n c] w (jW (rJ op l) w):=by
 have a:=fQ (show rJ op l=(0,1) by simp[rJ,hg]);have b:=fQ (show(fV op).isSome=false by simp[hg]);have d:=fQ (show(gX op).length=0 by simp[gX,hg]);clear hg;go_in;go_wp2_with fail;refine(jJ op _).mono ?_;rintro e w1 ⟨A1,c1,rfl,ho,hb⟩;rw[b.out,d.out];go_wp2;go_ret2;unfold jW;rw[a.out];exact⟨rfl,hb⟩
theorem cWb(op a b c d:Int)(A:Option Ad)(n h:Nat)(l:List Nat)(w:Aa)(hg:fV op=some (a,b,c,d))(i:l.length=n)(g:(gX op).length≠n):
  Ac fZ 121 #[.int .i64 op,.slice A n h] w (jW (rJ op l) w):=by
 have j:=fQ (show rJ op l=(0,1) by simp[rJ,hg,i,g]);have k:=fQ (show(fV op).isSome=true by simp[hg]);generalize f:(gX op).length=m at g;replace f:=fQ f;have ab:((m:Int) != (n:Int))=true:=(by simp;omega);clear hg;go_in;go_wp2_with fail;refine(jJ op _).mono ?_;rintro e w1 ⟨A1,c1,rfl,ho,hb⟩;rw[k.out,f.out];go_wp2;go_ret2;unfold jW;rw[j.out];exact⟨rfl,hb⟩
theorem dXn(op:Int)(o:Nat)(H:o<1)(q:op=69+(o:Int))(x:Nat)(I:x<4294967296)(A:Option Ad)(J:Nat)(w:Aa)(hs:Src w A 1 (u64V [x])):
  Ac fZ 121 #[.int .i64 op,.slice A 1 J] w (jW ((b01 ((x:Int) == 0),0)) w):=by
 have z1:69<=op:=(by omega);have z2:op<=69:=(by omega)
 have hg:fV op=some (69,1,0,127):=by
  rcases pQ op with⟨hg,a,b,z5,z6,z7⟩ | ⟨hg,a,b⟩ | ⟨hg,a,b⟩ | ⟨hg,a,b⟩ | ⟨hg,a,b⟩ | ⟨hg,a,b⟩ | ⟨hg,a,b⟩ | ⟨hg,a,b⟩ | ⟨hg,a,b⟩ | ⟨hg,a,b⟩ | ⟨hg,a,b⟩ | ⟨hg,a,b⟩ | ⟨hg,a,b⟩ <;> first | exact hg | (exfalso;omega)
 have t0:(op == 69)=true:=eqT (by omega) (by omega);have t1:(op == 80)=false:=eqF (by omega);have t2:inB op 70 79=false:=inF (by omega);have t3:inB op 81 90=false:=inF (by omega);have t4:inB op 103 105=false:=inF (by omega);have t5:inB op 121 123=false:=inF (by omega);have t6:inB op 106 120=false:=inF (by omega);have t7:inB op 124 138=false:=inF (by omega);have t8:(op == 167)=false:=eqF (by omega);have t9:(op == 172)=false:=eqF (by omega);have t10:(op == 173)=false:=eqF (by omega);have aI:=fQ q;clear q;have K:=fQ (show(fV op).isSome=true by simp[hg]);have L:=fQ (show gX op = [127] by simp[gX,hg]);have r:=fQ (show(gX op).length=1 by simp[gX,hg]);obtain⟨f,n,rfl,hab⟩:=hs.addr (by omega);have s:=fQ hs;clear hg hs;go_in;go_wp2_with fail;refine(jJ op _).mono ?_;rintro e w1 ⟨A2,c2,rfl,j,l⟩;rw[K.out,r.out];rw[r.out,L.out]at j;obtain⟨d,aJ,e,M,aK,_⟩:=nQ j (by omega);injection e with N e2 O;subst N;subst O;have hz:w.heap.size<=w1.heap.size:=l.size;have t:d<w1.heap.size:=M;have u:=fQ j;have P:=fQ l;have y:f<w1.heap.size:=(by omega);have m:w1.cell? ⟨d,0,none⟩=some (.int .i64 127):=(by have:=u.out.cells (g:=d) rfl 0 (.int .i64 127) rfl;rwa[Ak]at this);have h:=(s.out.below l (Av _)).at_ (k:=0) (by omega);simp only[u64V,Ax,Az,Aj,Aw]at h;have z:iK 127 x=true:=vJ I
 have B:∀ k,k<1->∃ v:Nat,w1.cell? ⟨f,n+k,none⟩=some (.int .u64 v)/\iK 127 v=true/\w1.cell? ⟨d,k,none⟩=some (.int .i64 127):=by
  intro k H;rcases(show k=0 by omega)with rfl
  ·exact⟨x,h,z,m⟩
 have C:=fQ B;clear j l u s z B;go_wp2_with fail;go_loopw [9] (fun i wr=>∃ k:Nat,k<=1/\i = .int .i64 k/\Hid (Ab w1.heap.size w1 wr)) (fun i _=>1+1 - (intOf i).toNat)
 case atStart=>exact⟨0,by omega,rfl,fQ (Ay _ _)⟩
 case round=>
  rename_i wr;obtain⟨k,aL,rfl,c⟩:=hrel;by_cases Q:k<1
  ·obtain⟨v,D,E,F⟩:=C.out k Q;have aC:decide ((k:Int)<1)=true:=(by simp;omega);have aD:(k:Int)<1:=(by omega);have aE:=(c.out.cell (p:=⟨f,n+k,none⟩) y).trans D;have aF:=(c.out.cell (p:=⟨d,k,none⟩) t).trans F;have R:=fQ E;clear D E F h m;go_wp2_with fail;go_quiet ((go_at_call 63;exact Aq ((mJ 127 v _).mono fun _ _ ⟨h1,h2⟩=>⟨h1.trans (by rw[R.out]),h2.symm⟩)));go_wp2;exact⟨⟨k+1,by omega,by simp,fQ (fK c.out _)⟩,by simp[intOf];omega⟩
  ·obtain rfl:k=1:=(by omega);have aG:=(c.out.cell (p:=⟨f,n,none⟩) y).trans h;have aH:=(c.out.cell (p:=⟨d,0,none⟩) t).trans m;have G:=fQ (P.out.trans (c.out.mono hz));have aM:w.heap.size<=wr.heap.size:=G.out.size;have aN:f<wr.heap.size:=(by have:=c.out.size;omega);clear h m  C;go_wp2_with fail;refine(zZ _).mono ?_;rintro e S ⟨rfl,rfl⟩;go_wp2_with (go_at_call 140;refine(iV _ _ _ _).mono ?_;rintro e w1 ⟨rfl,rfl⟩);refine(aZe _ _).mono ?_;rintro e S ⟨rfl,rfl⟩;go_wp2;go_ret2;unfold jW;exact⟨rfl,G.out⟩
theorem dXo(op:Int)(m:Nat)(z:m<10)(B:op=70+(m:Int))(x y:Nat)(N:x<4294967296)(O:y<4294967296)(A:Option Ad)(P:Nat)(w:Aa)(hs:Src w A 2 (u64V [x,y])):
  Ac fZ 121 #[.int .i64 op,.slice A 2 P] w (jW ((b01 ((xK x y (wrap32 x) (wrap32 y)).getD m false),0)) w):=by
 have z1:70<=op:=(by omega);have z2:op<=79:=(by omega)
 have hg:fV op=some (70,10,1,127):=by
  rcases pQ op with⟨hg,a,b,z5,z6,z7⟩ | ⟨hg,a,b⟩ | ⟨hg,a,b⟩ | ⟨hg,a,b⟩ | ⟨hg,a,b⟩ | ⟨hg,a,b⟩ | ⟨hg,a,b⟩ | ⟨hg,a,b⟩ | ⟨hg,a,b⟩ | ⟨hg,a,b⟩ | ⟨hg,a,b⟩ | ⟨hg,a,b⟩ | ⟨hg,a,b⟩ <;> first | exact hg | (exfalso;omega)
 have t0:(op == 69)=false:=eqF (by omega);have t1:(op == 80)=false:=eqF (by omega);have t2:inB op 70 79=true:=inT (by omega) (by omega);have t3:inB op 81 90=false:=inF (by omega);have t4:inB op 103 105=false:=inF (by omega);have t5:inB op 121 123=false:=inF (by omega);have t6:inB op 106 120=false:=inF (by omega);have t7:inB op 124 138=false:=inF (by omega);have t8:(op == 167)=false:=eqF (by omega);have t9:(op == 172)=false:=eqF (by omega);have t10:(op == 173)=false:=eqF (by omega);have Q:=fQ B;clear B;have R:=fQ (show(fV op).isSome=true by simp[hg]);have S:=fQ (show gX op = [127,127] by simp[gX,hg]);have C:=fQ (show(gX op).length=2 by simp[gX,hg]);obtain⟨f,n,rfl,hab⟩:=hs.addr (by omega);have r:=fQ hs;clear hg hs;go_in;go_wp2_with fail;refine(jJ op _).mono ?_;rintro e w1 ⟨A2,c2,rfl,o,h⟩;rw[R.out,C.out];rw[C.out,S.out]at o;obtain⟨c,aQ,e,T,aR,_⟩:=nQ o (by omega);injection e with U e2 V;subst U;subst V;have hz:w.heap.size<=w1.heap.size:=h.size;have D:c<w1.heap.size:=T;have s:=fQ o;have W:=fQ h;have t:f<w1.heap.size:=(by omega);have q:w1.cell? ⟨c,0,none⟩=some (.int .i64 127):=(by have:=s.out.cells (g:=c) rfl 0 (.int .i64 127) rfl;rwa[Ak]at this);have j:=(r.out.below h (Av _)).at_ (k:=0) (by omega);simp only[u64V,Ax,Az,Aj,Aw]at j;have u:w1.cell? ⟨c,1,none⟩=some (.int .i64 127):=(by have:=s.out.cells (g:=c) rfl 1 (.int .i64 127) rfl;rwa[Ak]at this);have l:=(r.out.below h (Av _)).at_ (k:=1) (by omega);simp only[u64V,Ax,Az,Aj,AJ]at l;have E:iK 127 x=true:=vJ N;have F:iK 127 y=true:=vJ O
 have G:∀ k,k<2->∃ v:Nat,w1.cell? ⟨f,n+k,none⟩=some (.int .u64 v)/\iK 127 v=true/\w1.cell? ⟨c,k,none⟩=some (.int .i64 127):=by
  intro k z;rcases(show k=0\/k=1 by omega)with rfl | rfl
  ·exact⟨x,j,E,q⟩
  ·exact⟨y,l,F,u⟩
 have H:=fQ G;clear o h s r E G F;go_wp2_with fail;go_loopw [9] (fun i wr=>∃ k:Nat,k<=2/\i = .int .i64 k/\Hid (Ab w1.heap.size w1 wr)) (fun i _=>2+1 - (intOf i).toNat)
 case atStart=>exact⟨0,by omega,rfl,fQ (Ay _ _)⟩
 case round=>
  rename_i wr;obtain⟨k,aS,rfl,d⟩:=hrel;by_cases X:k<2
  ·obtain⟨v,I,J,K⟩:=H.out k X;have aH:decide ((k:Int)<2)=true:=(by simp;omega);have aI:(k:Int)<2:=(by omega);have aJ:=(d.out.cell (p:=⟨f,n+k,none⟩) t).trans I;have aK:=(d.out.cell (p:=⟨c,k,none⟩) D).trans K;have Y:=fQ J;clear I J K j q l u;go_wp2_with fail;go_quiet ((go_at_call 63;exact Aq ((mJ 127 v _).mono fun _ _ ⟨h1,h2⟩=>⟨h1.trans (by rw[Y.out]),h2.symm⟩)));go_wp2;exact⟨⟨k+1,by omega,by simp,fQ (fK d.out _)⟩,by simp[intOf];omega⟩
  ·obtain rfl:k=2:=(by omega);have aL:=(d.out.cell (p:=⟨f,n,none⟩) t).trans j;have aM:=(d.out.cell (p:=⟨c,0,none⟩) D).trans q;have aN:=(d.out.cell (p:=⟨f,n+1,none⟩) t).trans l;have L:=fQ (W.out.trans (d.out.mono hz));have Z:w.heap.size<=wr.heap.size:=L.out.size;have aT:f<wr.heap.size:=(by have:=d.out.size;omega);clear j q l u H;go_wp2_with fail;refine(zZ _).mono ?_;rintro e w2 ⟨rfl,rfl⟩;go_wp2_with (go_at_call 140;refine(iV _ _ _ _).mono ?_;rintro e w1 ⟨rfl,rfl⟩);go_region_with ((go_at_call 141;refine(dZz _ m x y _ (by have:=Q.out;rw[AX _ (by omega)];omega) z (by omega) (by omega)).mono ?_;rintro e w2 ⟨rfl,M⟩;have aP:=fQ M;clear M))
   all_goals
    go_wp2;go_ret2;unfold jW;exact⟨rfl,L.out.drew.trans (aP.out.mono Z)⟩
theorem dXp(op:Int)(o:Nat)(H:o<1)(q:op=80+(o:Int))(x:Nat)(hx:x<18446744073709551616)(A:Option Ad)(I:Nat)(w:Aa)(hs:Src w A 1 (u64V [x])):
  Ac fZ 121 #[.int .i64 op,.slice A 1 I] w (jW ((b01 ((x:Int) == 0),0)) w):=by
 have z1:80<=op:=(by omega);have z2:op<=80:=(by omega)
 have hg:fV op=some (80,1,0,126):=by
  rcases pQ op with⟨hg,a,b,z5,z6,z7⟩ | ⟨hg,a,b⟩ | ⟨hg,a,b⟩ | ⟨hg,a,b⟩ | ⟨hg,a,b⟩ | ⟨hg,a,b⟩ | ⟨hg,a,b⟩ | ⟨hg,a,b⟩ | ⟨hg,a,b⟩ | ⟨hg,a,b⟩ | ⟨hg,a,b⟩ | ⟨hg,a,b⟩ | ⟨hg,a,b⟩ <;> first | exact hg | (exfalso;omega)
 have t0:(op == 69)=false:=eqF (by omega);have t1:(op == 80)=true:=eqT (by omega) (by omega);have t2:inB op 70 79=false:=inF (by omega);have t3:inB op 81 90=false:=inF (by omega);have t4:inB op 103 105=false:=inF (by omega);have t5:inB op 121 123=false:=inF (by omega);have t6:inB op 106 120=false:=inF (by omega);have t7:inB op 124 138=false:=inF (by omega);have t8:(op == 167)=false:=eqF (by omega);have t9:(op == 172)=false:=eqF (by omega);have t10:(op == 173)=false:=eqF (by omega);have aI:=fQ q;clear q;have J:=fQ (show(fV op).isSome=true by simp[hg]);have K:=fQ (show gX op = [126] by simp[gX,hg]);have r:=fQ (show(gX op).length=1 by simp[gX,hg]);obtain⟨f,n,rfl,hab⟩:=hs.addr (by omega);have s:=fQ hs;clear hg hs;go_in;go_wp2_with fail;refine(jJ op _).mono ?_;rintro e w1 ⟨A2,c2,rfl,j,l⟩;rw[J.out,r.out];rw[r.out,K.out]at j;obtain⟨d,aJ,e,L,aK,_⟩:=nQ j (by omega);injection e with M e2 N;subst M;subst N;have hz:w.heap.size<=w1.heap.size:=l.size;have t:d<w1.heap.size:=L;have u:=fQ j;have O:=fQ l;have y:f<w1.heap.size:=(by omega);have m:w1.cell? ⟨d,0,none⟩=some (.int .i64 126):=(by have:=u.out.cells (g:=d) rfl 0 (.int .i64 126) rfl;rwa[Ak]at this);have h:=(s.out.below l (Av _)).at_ (k:=0) (by omega);simp only[u64V,Ax,Az,Aj,Aw]at h;have z:iK 126 x=true:=vZ _
 have B:∀ k,k<1->∃ v:Nat,w1.cell? ⟨f,n+k,none⟩=some (.int .u64 v)/\iK 126 v=true/\w1.cell? ⟨d,k,none⟩=some (.int .i64 126):=by
  intro k H;rcases(show k=0 by omega)with rfl
  ·exact⟨x,h,z,m⟩
 have C:=fQ B;clear j l u s z B;go_wp2_with fail;go_loopw [9] (fun i wr=>∃ k:Nat,k<=1/\i = .int .i64 k/\Hid (Ab w1.heap.size w1 wr)) (fun i _=>1+1 - (intOf i).toNat)
 case atStart=>exact⟨0,by omega,rfl,fQ (Ay _ _)⟩
 case round=>
  rename_i wr;obtain⟨k,aL,rfl,c⟩:=hrel;by_cases P:k<1
  ·obtain⟨v,D,E,F⟩:=C.out k P;have aC:decide ((k:Int)<1)=true:=(by simp;omega);have aD:(k:Int)<1:=(by omega);have aE:=(c.out.cell (p:=⟨f,n+k,none⟩) y).trans D;have aF:=(c.out.cell (p:=⟨d,k,none⟩) t).trans F;have Q:=fQ E;clear D E F h m;go_wp2_with fail;go_quiet ((go_at_call 63;exact Aq ((mJ 126 v _).mono fun _ _ ⟨h1,h2⟩=>⟨h1.trans (by rw[Q.out]),h2.symm⟩)));go_wp2;exact⟨⟨k+1,by omega,by simp,fQ (fK c.out _)⟩,by simp[intOf];omega⟩
  ·obtain rfl:k=1:=(by omega);have aG:=(c.out.cell (p:=⟨f,n,none⟩) y).trans h;have aH:=(c.out.cell (p:=⟨d,0,none⟩) t).trans m;have G:=fQ (O.out.trans (c.out.mono hz));have aM:w.heap.size<=wr.heap.size:=G.out.size;have aN:f<wr.heap.size:=(by have:=c.out.size;omega);clear h m  C;go_wp2_with fail;refine(zJ _).mono ?_;rintro e R ⟨rfl,rfl⟩;go_wp2_with (go_at_call 140;refine(iV _ _ _ _).mono ?_;rintro e w1 ⟨rfl,rfl⟩);refine(aZe _ _).mono ?_;rintro e R ⟨rfl,rfl⟩;go_wp2;go_ret2;unfold jW;exact⟨rfl,G.out⟩
theorem dXq(op:Int)(m:Nat)(z:m<10)(B:op=81+(m:Int))(x y:Nat)(hx:x<18446744073709551616)(hy:y<18446744073709551616)(A:Option Ad)(N:Nat)(w:Aa)(hs:Src w A 2 (u64V [x,y])):
  Ac fZ 121 #[.int .i64 op,.slice A 2 N] w (jW ((b01 ((xK x y (wrap64 x) (wrap64 y)).getD m false),0)) w):=by
 have z1:81<=op:=(by omega);have z2:op<=90:=(by omega)
 have hg:fV op=some (81,10,1,126):=by
  rcases pQ op with⟨hg,a,b,z5,z6,z7⟩ | ⟨hg,a,b⟩ | ⟨hg,a,b⟩ | ⟨hg,a,b⟩ | ⟨hg,a,b⟩ | ⟨hg,a,b⟩ | ⟨hg,a,b⟩ | ⟨hg,a,b⟩ | ⟨hg,a,b⟩ | ⟨hg,a,b⟩ | ⟨hg,a,b⟩ | ⟨hg,a,b⟩ | ⟨hg,a,b⟩ <;> first | exact hg | (exfalso;omega)
 have t0:(op == 69)=false:=eqF (by omega);have t1:(op == 80)=false:=eqF (by omega);have t2:inB op 70 79=false:=inF (by omega);have t3:inB op 81 90=true:=inT (by omega) (by omega);have t4:inB op 103 105=false:=inF (by omega);have t5:inB op 121 123=false:=inF (by omega);have t6:inB op 106 120=false:=inF (by omega);have t7:inB op 124 138=false:=inF (by omega);have t8:(op == 167)=false:=eqF (by omega);have t9:(op == 172)=false:=eqF (by omega);have t10:(op == 173)=false:=eqF (by omega);have O:=fQ B;clear B;have P:=fQ (show(fV op).isSome=true by simp[hg]);have Q:=fQ (show gX op = [126,126] by simp[gX,hg]);have C:=fQ (show(gX op).length=2 by simp[gX,hg]);obtain⟨f,n,rfl,hab⟩:=hs.addr (by omega);have r:=fQ hs;clear hg hs;go_in;go_wp2_with fail;refine(jJ op _).mono ?_;rintro e w1 ⟨A2,c2,rfl,o,h⟩;rw[P.out,C.out];rw[C.out,Q.out]at o;obtain⟨c,aQ,e,R,aR,_⟩:=nQ o (by omega);injection e with S e2 T;subst S;subst T;have hz:w.heap.size<=w1.heap.size:=h.size;have D:c<w1.heap.size:=R;have s:=fQ o;have U:=fQ h;have t:f<w1.heap.size:=(by omega);have q:w1.cell? ⟨c,0,none⟩=some (.int .i64 126):=(by have:=s.out.cells (g:=c) rfl 0 (.int .i64 126) rfl;rwa[Ak]at this);have j:=(r.out.below h (Av _)).at_ (k:=0) (by omega);simp only[u64V,Ax,Az,Aj,Aw]at j;have u:w1.cell? ⟨c,1,none⟩=some (.int .i64 126):=(by have:=s.out.cells (g:=c) rfl 1 (.int .i64 126) rfl;rwa[Ak]at this);have l:=(r.out.below h (Av _)).at_ (k:=1) (by omega);simp only[u64V,Ax,Az,Aj,AJ]at l;have E:iK 126 x=true:=vZ _;have F:iK 126 y=true:=vZ _
 have G:∀ k,k<2->∃ v:Nat,w1.cell? ⟨f,n+k,none⟩=some (.int .u64 v)/\iK 126 v=true/\w1.cell? ⟨c,k,none⟩=some (.int .i64 126):=by
  intro k z;rcases(show k=0\/k=1 by omega)with rfl | rfl
  ·exact⟨x,j,E,q⟩
  ·exact⟨y,l,F,u⟩
 have H:=fQ G;clear o h s r E G F;go_wp2_with fail;go_loopw [9] (fun i wr=>∃ k:Nat,k<=2/\i = .int .i64 k/\Hid (Ab w1.heap.size w1 wr)) (fun i _=>2+1 - (intOf i).toNat)
 case atStart=>exact⟨0,by omega,rfl,fQ (Ay _ _)⟩
 case round=>
  rename_i wr;obtain⟨k,aS,rfl,d⟩:=hrel;by_cases V:k<2
  ·obtain⟨v,I,J,K⟩:=H.out k V;have aH:decide ((k:Int)<2)=true:=(by simp;omega);have aI:(k:Int)<2:=(by omega);have aJ:=(d.out.cell (p:=⟨f,n+k,none⟩) t).trans I;have aK:=(d.out.cell (p:=⟨c,k,none⟩) D).trans K;have W:=fQ J;clear I J K j q l u;go_wp2_with fail;go_quiet ((go_at_call 63;exact Aq ((mJ 126 v _).mono fun _ _ ⟨h1,h2⟩=>⟨h1.trans (by rw[W.out]),h2.symm⟩)));go_wp2;exact⟨⟨k+1,by omega,by simp,fQ (fK d.out _)⟩,by simp[intOf];omega⟩
  ·obtain rfl:k=2:=(by omega);have aL:=(d.out.cell (p:=⟨f,n,none⟩) t).trans j;have aM:=(d.out.cell (p:=⟨c,0,none⟩) D).trans q;have aN:=(d.out.cell (p:=⟨f,n+1,none⟩) t).trans l;have L:=fQ (U.out.trans (d.out.mono hz));have X:w.heap.size<=wr.heap.size:=L.out.size;have aT:f<wr.heap.size:=(by have:=d.out.size;omega);clear j q l u H;go_wp2_with fail;refine(zJ _).mono ?_;rintro e Y ⟨rfl,rfl⟩;go_wp2_with (go_at_call 140;refine(iV _ _ _ _).mono ?_;rintro e w1 ⟨rfl,rfl⟩);go_region_with ((go_at_call 141;refine(dZy _ m x y _ (by have:=O.out;rw[AX _ (by omega)];omega) z (by omega) (by omega)).mono ?_;rintro e Y ⟨rfl,M⟩;have Z:=fQ M;clear M))
   all_goals
    go_wp2;go_ret2;unfold jW;exact⟨rfl,L.out.drew.trans (Z.out.mono X)⟩
theorem cWj(op:Int)(j:Nat)(q:j<3)(r:op=103+(j:Int))(x:Nat)(s:x<4294967296)(A:Option Ad)(J:Nat)(w:Aa)(hs:Src w A 1 (u64V [x])):
  Ac fZ 121 #[.int .i64 op,.slice A 1 J] w (jW (((aQe 32 x).getD j 0,0)) w):=by
 have z1:103<=op:=(by omega);have z2:op<=105:=(by omega)
 have hg:fV op=some (103,3,2,127):=by
  rcases pQ op with⟨hg,a,b,z5,z6,z7⟩ | ⟨hg,a,b⟩ | ⟨hg,a,b⟩ | ⟨hg,a,b⟩ | ⟨hg,a,b⟩ | ⟨hg,a,b⟩ | ⟨hg,a,b⟩ | ⟨hg,a,b⟩ | ⟨hg,a,b⟩ | ⟨hg,a,b⟩ | ⟨hg,a,b⟩ | ⟨hg,a,b⟩ | ⟨hg,a,b⟩ <;> first | exact hg | (exfalso;omega)
 have t0:(op == 69)=false:=eqF (by omega);have t1:(op == 80)=false:=eqF (by omega);have t2:inB op 70 79=false:=inF (by omega);have t3:inB op 81 90=false:=inF (by omega);have t4:inB op 103 105=true:=inT (by omega) (by omega);have t5:inB op 121 123=false:=inF (by omega);have t6:inB op 106 120=false:=inF (by omega);have t7:inB op 124 138=false:=inF (by omega);have t8:(op == 167)=false:=eqF (by omega);have t9:(op == 172)=false:=eqF (by omega);have t10:(op == 173)=false:=eqF (by omega);have K:=fQ r;clear r;have L:=fQ (show(fV op).isSome=true by simp[hg]);have M:=fQ (show gX op = [127] by simp[gX,hg]);have t:=fQ (show(gX op).length=1 by simp[gX,hg]);obtain⟨f,o,rfl,hab⟩:=hs.addr (by omega);have u:=fQ hs;clear hg hs;go_in;go_wp2_with fail;refine(jJ op _).mono ?_;rintro e w1 ⟨A2,c2,rfl,l,m⟩;rw[L.out,t.out];rw[t.out,M.out]at l;obtain⟨d,aL,e,N,aM,_⟩:=nQ l (by omega);injection e with O e2 P;subst O;subst P;have hz:w.heap.size<=w1.heap.size:=m.size;have y:d<w1.heap.size:=N;have z:=fQ l;have Q:=fQ m;have B:f<w1.heap.size:=(by omega);have n:w1.cell? ⟨d,0,none⟩=some (.int .i64 127):=(by have:=z.out.cells (g:=d) rfl 0 (.int .i64 127) rfl;rwa[Ak]at this);have h:=(u.out.below m (Av _)).at_ (k:=0) (by omega);simp only[u64V,Ax,Az,Aj,Aw]at h;have C:iK 127 x=true:=vJ s
 have D:∀ k,k<1->∃ v:Nat,w1.cell? ⟨f,o+k,none⟩=some (.int .u64 v)/\iK 127 v=true/\w1.cell? ⟨d,k,none⟩=some (.int .i64 127):=by
  intro k q;rcases(show k=0 by omega)with rfl
  ·exact⟨x,h,C,n⟩
 have E:=fQ D;clear l m z u C D;go_wp2_with fail;go_loopw [9] (fun i wr=>∃ k:Nat,k<=1/\i = .int .i64 k/\Hid (Ab w1.heap.size w1 wr)) (fun i _=>1+1 - (intOf i).toNat)
 case atStart=>exact⟨0,by omega,rfl,fQ (Ay _ _)⟩
 case round=>
  rename_i wr;obtain⟨k,aN,rfl,c⟩:=hrel;by_cases R:k<1
  ·obtain⟨v,F,G,H⟩:=E.out k R;have aD:decide ((k:Int)<1)=true:=(by simp;omega);have aE:(k:Int)<1:=(by omega);have aF:=(c.out.cell (p:=⟨f,o+k,none⟩) B).trans F;have aG:=(c.out.cell (p:=⟨d,k,none⟩) y).trans H;have S:=fQ G;clear F G H h n;go_wp2_with fail;go_quiet ((go_at_call 63;exact Aq ((mJ 127 v _).mono fun _ _ ⟨h1,h2⟩=>⟨h1.trans (by rw[S.out]),h2.symm⟩)));go_wp2;exact⟨⟨k+1,by omega,by simp,fQ (fK c.out _)⟩,by simp[intOf];omega⟩
  ·obtain rfl:k=1:=(by omega);have aH:=(c.out.cell (p:=⟨f,o,none⟩) B).trans h;have aI:=(c.out.cell (p:=⟨d,0,none⟩) y).trans n;have I:=fQ (Q.out.trans (c.out.mono hz));have T:w.heap.size<=wr.heap.size:=I.out.size;have aO:f<wr.heap.size:=(by have:=c.out.size;omega);clear h n  E;go_wp2_with fail;refine(zZ _).mono ?_;rintro e U ⟨rfl,rfl⟩;go_wp2_with (go_at_call 140;refine(iV _ _ _ _).mono ?_;rintro e w1 ⟨rfl,rfl⟩);refine(dJb _ j x _ (by have:=K.out;omega) q s).mono ?_;rintro e U ⟨rfl,V⟩;go_wp2;go_ret2;unfold jW;exact⟨rfl,I.out.trans (V.mono T)⟩
theorem cWk(op:Int)(h:Nat)(B:h<15)(C:op=106+(h:Int))(x y:Nat)(D:x<4294967296)(E:y<4294967296)(A:Option Ad)(P:Nat)(w:Aa)(hs:Src w A 2 (u64V [x,y])):
  Ac fZ 121 #[.int .i64 op,.slice A 2 P] w (jW (hY 3 127 h x y) w):=by
 have z1:106<=op:=(by omega);have z2:op<=120:=(by omega)
 have hg:fV op=some (106,15,3,127):=by
  rcases pQ op with⟨hg,a,b,z5,z6,z7⟩ | ⟨hg,a,b⟩ | ⟨hg,a,b⟩ | ⟨hg,a,b⟩ | ⟨hg,a,b⟩ | ⟨hg,a,b⟩ | ⟨hg,a,b⟩ | ⟨hg,a,b⟩ | ⟨hg,a,b⟩ | ⟨hg,a,b⟩ | ⟨hg,a,b⟩ | ⟨hg,a,b⟩ | ⟨hg,a,b⟩ <;> first | exact hg | (exfalso;omega)
 have t0:(op == 69)=false:=eqF (by omega);have t1:(op == 80)=false:=eqF (by omega);have t2:inB op 70 79=false:=inF (by omega);have t3:inB op 81 90=false:=inF (by omega);have t4:inB op 103 105=false:=inF (by omega);have t5:inB op 121 123=false:=inF (by omega);have t6:inB op 106 120=true:=inT (by omega) (by omega);have t7:inB op 124 138=false:=inF (by omega);have t8:(op == 167)=false:=eqF (by omega);have t9:(op == 172)=false:=eqF (by omega);have t10:(op == 173)=false:=eqF (by omega);have Q:=fQ C;clear C;have R:=fQ (show(fV op).isSome=true by simp[hg]);have S:=fQ (show gX op = [127,127] by simp[gX,hg]);have F:=fQ (show(gX op).length=2 by simp[gX,hg]);obtain⟨f,n,rfl,hab⟩:=hs.addr (by omega);have s:=fQ hs;clear hg hs;go_in;go_wp2_with fail;refine(jJ op _).mono ?_;rintro e w1 ⟨A2,c2,rfl,o,j⟩;rw[R.out,F.out];rw[F.out,S.out]at o;obtain⟨c,aN,e,T,aO,_⟩:=nQ o (by omega);injection e with U e2 V;subst U;subst V;have hz:w.heap.size<=w1.heap.size:=j.size;have G:c<w1.heap.size:=T;have t:=fQ o;have W:=fQ j;have u:f<w1.heap.size:=(by omega);have q:w1.cell? ⟨c,0,none⟩=some (.int .i64 127):=(by have:=t.out.cells (g:=c) rfl 0 (.int .i64 127) rfl;rwa[Ak]at this);have l:=(s.out.below j (Av _)).at_ (k:=0) (by omega);simp only[u64V,Ax,Az,Aj,Aw]at l;have z:w1.cell? ⟨c,1,none⟩=some (.int .i64 127):=(by have:=t.out.cells (g:=c) rfl 1 (.int .i64 127) rfl;rwa[Ak]at this);have m:=(s.out.below j (Av _)).at_ (k:=1) (by omega);simp only[u64V,Ax,Az,Aj,AJ]at m;have H:iK 127 x=true:=vJ D;have I:iK 127 y=true:=vJ E
 have J:∀ k,k<2->∃ v:Nat,w1.cell? ⟨f,n+k,none⟩=some (.int .u64 v)/\iK 127 v=true/\w1.cell? ⟨c,k,none⟩=some (.int .i64 127):=by
  intro k B;rcases(show k=0\/k=1 by omega)with rfl | rfl
  ·exact⟨x,l,H,q⟩
  ·exact⟨y,m,I,z⟩
 have K:=fQ J;clear o j t s H J I;go_wp2_with fail;go_loopw [9] (fun i wr=>∃ k:Nat,k<=2/\i = .int .i64 k/\Hid (Ab w1.heap.size w1 wr)) (fun i _=>2+1 - (intOf i).toNat)
 case atStart=>exact⟨0,by omega,rfl,fQ (Ay _ _)⟩
 case round=>
  rename_i wr;obtain⟨k,aP,rfl,d⟩:=hrel;by_cases X:k<2
  ·obtain⟨v,L,M,N⟩:=K.out k X;have aG:decide ((k:Int)<2)=true:=(by simp;omega);have aH:(k:Int)<2:=(by omega);have aI:=(d.out.cell (p:=⟨f,n+k,none⟩) u).trans L;have aJ:=(d.out.cell (p:=⟨c,k,none⟩) G).trans N;have Y:=fQ M;clear L M N l q m z;go_wp2_with fail;go_quiet ((go_at_call 63;exact Aq ((mJ 127 v _).mono fun _ _ ⟨h1,h2⟩=>⟨h1.trans (by rw[Y.out]),h2.symm⟩)));go_wp2;exact⟨⟨k+1,by omega,by simp,fQ (fK d.out _)⟩,by simp[intOf];omega⟩
  ·obtain rfl:k=2:=(by omega);have aK:=(d.out.cell (p:=⟨f,n,none⟩) u).trans l;have aL:=(d.out.cell (p:=⟨c,0,none⟩) G).trans q;have aM:=(d.out.cell (p:=⟨f,n+1,none⟩) u).trans m;have O:=fQ (W.out.trans (d.out.mono hz));have aQ:w.heap.size<=wr.heap.size:=O.out.size;have aR:f<wr.heap.size:=(by have:=d.out.size;omega);clear l q m z K;go_wp2_with fail;refine(zZ _).mono ?_;rintro e w2 ⟨rfl,rfl⟩;generalize r:hY 3 127 h x y=Z;replace r:=fQ r;obtain⟨aS,aT⟩:=Z;go_wp2_with (go_at_call 140;refine(iV _ _ _ _).mono ?_;rintro e w1 ⟨rfl,rfl⟩);go_quiet ((go_at_call 143;exact Aq ((dJd _ h x y _ (by have:=Q.out;rw[AX _ (by omega)];omega) B D E).mono fun _ _ ⟨h1,h2⟩=>⟨h1.trans (by rw[r.out]),h2⟩)));go_wp2;go_ret2;unfold jW;rw[r.out];exact⟨rfl,fK O.out _⟩
theorem cWl(op:Int)(j:Nat)(q:j<3)(r:op=121+(j:Int))(x:Nat)(I:x<18446744073709551616)(A:Option Ad)(J:Nat)(w:Aa)(hs:Src w A 1 (u64V [x])):
  Ac fZ 121 #[.int .i64 op,.slice A 1 J] w (jW (((aQe 64 x).getD j 0,0)) w):=by
 have z1:121<=op:=(by omega);have z2:op<=123:=(by omega)
 have hg:fV op=some (121,3,2,126):=by
  rcases pQ op with⟨hg,a,b,z5,z6,z7⟩ | ⟨hg,a,b⟩ | ⟨hg,a,b⟩ | ⟨hg,a,b⟩ | ⟨hg,a,b⟩ | ⟨hg,a,b⟩ | ⟨hg,a,b⟩ | ⟨hg,a,b⟩ | ⟨hg,a,b⟩ | ⟨hg,a,b⟩ | ⟨hg,a,b⟩ | ⟨hg,a,b⟩ | ⟨hg,a,b⟩ <;> first | exact hg | (exfalso;omega)
 have t0:(op == 69)=false:=eqF (by omega);have t1:(op == 80)=false:=eqF (by omega);have t2:inB op 70 79=false:=inF (by omega);have t3:inB op 81 90=false:=inF (by omega);have t4:inB op 103 105=false:=inF (by omega);have t5:inB op 121 123=true:=inT (by omega) (by omega);have t6:inB op 106 120=false:=inF (by omega);have t7:inB op 124 138=false:=inF (by omega);have t8:(op == 167)=false:=eqF (by omega);have t9:(op == 172)=false:=eqF (by omega);have t10:(op == 173)=false:=eqF (by omega);have K:=fQ r;clear r;have L:=fQ (show(fV op).isSome=true by simp[hg]);have M:=fQ (show gX op = [126] by simp[gX,hg]);have s:=fQ (show(gX op).length=1 by simp[gX,hg]);obtain⟨f,o,rfl,hab⟩:=hs.addr (by omega);have t:=fQ hs;clear hg hs;go_in;go_wp2_with fail;refine(jJ op _).mono ?_;rintro e w1 ⟨A2,c2,rfl,l,m⟩;rw[L.out,s.out];rw[s.out,M.out]at l;obtain⟨d,aL,e,N,aM,_⟩:=nQ l (by omega);injection e with O e2 P;subst O;subst P;have hz:w.heap.size<=w1.heap.size:=m.size;have u:d<w1.heap.size:=N;have y:=fQ l;have Q:=fQ m;have z:f<w1.heap.size:=(by omega);have n:w1.cell? ⟨d,0,none⟩=some (.int .i64 126):=(by have:=y.out.cells (g:=d) rfl 0 (.int .i64 126) rfl;rwa[Ak]at this);have h:=(t.out.below m (Av _)).at_ (k:=0) (by omega);simp only[u64V,Ax,Az,Aj,Aw]at h;have B:iK 126 x=true:=vZ _
 have C:∀ k,k<1->∃ v:Nat,w1.cell? ⟨f,o+k,none⟩=some (.int .u64 v)/\iK 126 v=true/\w1.cell? ⟨d,k,none⟩=some (.int .i64 126):=by
  intro k q;rcases(show k=0 by omega)with rfl
  ·exact⟨x,h,B,n⟩
 have D:=fQ C;clear l m y t B C;go_wp2_with fail;go_loopw [9] (fun i wr=>∃ k:Nat,k<=1/\i = .int .i64 k/\Hid (Ab w1.heap.size w1 wr)) (fun i _=>1+1 - (intOf i).toNat)
 case atStart=>exact⟨0,by omega,rfl,fQ (Ay _ _)⟩
 case round=>
  rename_i wr;obtain⟨k,aN,rfl,c⟩:=hrel;by_cases R:k<1
  ·obtain⟨v,E,F,G⟩:=D.out k R;have aD:decide ((k:Int)<1)=true:=(by simp;omega);have aE:(k:Int)<1:=(by omega);have aF:=(c.out.cell (p:=⟨f,o+k,none⟩) z).trans E;have aG:=(c.out.cell (p:=⟨d,k,none⟩) u).trans G;have S:=fQ F;clear E F G h n;go_wp2_with fail;go_quiet ((go_at_call 63;exact Aq ((mJ 126 v _).mono fun _ _ ⟨h1,h2⟩=>⟨h1.trans (by rw[S.out]),h2.symm⟩)));go_wp2;exact⟨⟨k+1,by omega,by simp,fQ (fK c.out _)⟩,by simp[intOf];omega⟩
  ·obtain rfl:k=1:=(by omega);have aH:=(c.out.cell (p:=⟨f,o,none⟩) z).trans h;have aI:=(c.out.cell (p:=⟨d,0,none⟩) u).trans n;have H:=fQ (Q.out.trans (c.out.mono hz));have T:w.heap.size<=wr.heap.size:=H.out.size;have aO:f<wr.heap.size:=(by have:=c.out.size;omega);clear h n  D;go_wp2_with fail;refine(zJ _).mono ?_;rintro e U ⟨rfl,rfl⟩;go_wp2_with (go_at_call 140;refine(iV _ _ _ _).mono ?_;rintro e w1 ⟨rfl,rfl⟩);refine(dJa _ j x _ (by have:=K.out;omega) q I).mono ?_;rintro e U ⟨rfl,V⟩;go_wp2;go_ret2;unfold jW;exact⟨rfl,H.out.trans (V.mono T)⟩
theorem cWm(op:Int)(h:Nat)(B:h<15)(C:op=124+(h:Int))(x y:Nat)(N:x<18446744073709551616)(O:y<18446744073709551616)(A:Option Ad)(P:Nat)(w:Aa)(hs:Src w A 2 (u64V [x,y])):
  Ac fZ 121 #[.int .i64 op,.slice A 2 P] w (jW (hY 3 126 h x y) w):=by
 have z1:124<=op:=(by omega);have z2:op<=138:=(by omega)
 have hg:fV op=some (124,15,3,126):=by
  rcases pQ op with⟨hg,a,b,z5,z6,z7⟩ | ⟨hg,a,b⟩ | ⟨hg,a,b⟩ | ⟨hg,a,b⟩ | ⟨hg,a,b⟩ | ⟨hg,a,b⟩ | ⟨hg,a,b⟩ | ⟨hg,a,b⟩ | ⟨hg,a,b⟩ | ⟨hg,a,b⟩ | ⟨hg,a,b⟩ | ⟨hg,a,b⟩ | ⟨hg,a,b⟩ <;> first | exact hg | (exfalso;omega)
 have t0:(op == 69)=false:=eqF (by omega);have t1:(op == 80)=false:=eqF (by omega);have t2:inB op 70 79=false:=inF (by omega);have t3:inB op 81 90=false:=inF (by omega);have t4:inB op 103 105=false:=inF (by omega);have t5:inB op 121 123=false:=inF (by omega);have t6:inB op 106 120=false:=inF (by omega);have t7:inB op 124 138=true:=inT (by omega) (by omega);have t8:(op == 167)=false:=eqF (by omega);have t9:(op == 172)=false:=eqF (by omega);have t10:(op == 173)=false:=eqF (by omega);have Q:=fQ C;clear C;have R:=fQ (show(fV op).isSome=true by simp[hg]);have S:=fQ (show gX op = [126,126] by simp[gX,hg]);have D:=fQ (show(gX op).length=2 by simp[gX,hg]);obtain⟨f,n,rfl,hab⟩:=hs.addr (by omega);have s:=fQ hs;clear hg hs;go_in;go_wp2_with fail;refine(jJ op _).mono ?_;rintro e w1 ⟨A2,c2,rfl,o,j⟩;rw[R.out,D.out];rw[D.out,S.out]at o;obtain⟨c,aN,e,T,aO,_⟩:=nQ o (by omega);injection e with U e2 V;subst U;subst V;have hz:w.heap.size<=w1.heap.size:=j.size;have E:c<w1.heap.size:=T;have t:=fQ o;have W:=fQ j;have u:f<w1.heap.size:=(by omega);have q:w1.cell? ⟨c,0,none⟩=some (.int .i64 126):=(by have:=t.out.cells (g:=c) rfl 0 (.int .i64 126) rfl;rwa[Ak]at this);have l:=(s.out.below j (Av _)).at_ (k:=0) (by omega);simp only[u64V,Ax,Az,Aj,Aw]at l;have z:w1.cell? ⟨c,1,none⟩=some (.int .i64 126):=(by have:=t.out.cells (g:=c) rfl 1 (.int .i64 126) rfl;rwa[Ak]at this);have m:=(s.out.below j (Av _)).at_ (k:=1) (by omega);simp only[u64V,Ax,Az,Aj,AJ]at m;have F:iK 126 x=true:=vZ _;have G:iK 126 y=true:=vZ _
 have H:∀ k,k<2->∃ v:Nat,w1.cell? ⟨f,n+k,none⟩=some (.int .u64 v)/\iK 126 v=true/\w1.cell? ⟨c,k,none⟩=some (.int .i64 126):=by
  intro k B;rcases(show k=0\/k=1 by omega)with rfl | rfl
  ·exact⟨x,l,F,q⟩
  ·exact⟨y,m,G,z⟩
 have I:=fQ H;clear o j t s F H G;go_wp2_with fail;go_loopw [9] (fun i wr=>∃ k:Nat,k<=2/\i = .int .i64 k/\Hid (Ab w1.heap.size w1 wr)) (fun i _=>2+1 - (intOf i).toNat)
 case atStart=>exact⟨0,by omega,rfl,fQ (Ay _ _)⟩
 case round=>
  rename_i wr;obtain⟨k,aP,rfl,d⟩:=hrel;by_cases X:k<2
  ·obtain⟨v,J,K,L⟩:=I.out k X;have aG:decide ((k:Int)<2)=true:=(by simp;omega);have aH:(k:Int)<2:=(by omega);have aI:=(d.out.cell (p:=⟨f,n+k,none⟩) u).trans J;have aJ:=(d.out.cell (p:=⟨c,k,none⟩) E).trans L;have Y:=fQ K;clear J K L l q m z;go_wp2_with fail;go_quiet ((go_at_call 63;exact Aq ((mJ 126 v _).mono fun _ _ ⟨h1,h2⟩=>⟨h1.trans (by rw[Y.out]),h2.symm⟩)));go_wp2;exact⟨⟨k+1,by omega,by simp,fQ (fK d.out _)⟩,by simp[intOf];omega⟩
  ·obtain rfl:k=2:=(by omega);have aK:=(d.out.cell (p:=⟨f,n,none⟩) u).trans l;have aL:=(d.out.cell (p:=⟨c,0,none⟩) E).trans q;have aM:=(d.out.cell (p:=⟨f,n+1,none⟩) u).trans m;have M:=fQ (W.out.trans (d.out.mono hz));have aQ:w.heap.size<=wr.heap.size:=M.out.size;have aR:f<wr.heap.size:=(by have:=d.out.size;omega);clear l q m z I;go_wp2_with fail;refine(zJ _).mono ?_;rintro e w2 ⟨rfl,rfl⟩;generalize r:hY 3 126 h x y=Z;replace r:=fQ r;obtain⟨aS,aT⟩:=Z;go_wp2_with (go_at_call 140;refine(iV _ _ _ _).mono ?_;rintro e w1 ⟨rfl,rfl⟩);go_quiet ((go_at_call 143;exact Aq ((dJc _ h x y _ (by have:=Q.out;rw[AX _ (by omega)];omega) B N O).mono fun _ _ ⟨h1,h2⟩=>⟨h1.trans (by rw[r.out]),h2⟩)));go_wp2;go_ret2;unfold jW;rw[r.out];exact⟨rfl,fK M.out _⟩
theorem cWn(op:Int)(o:Nat)(H:o<1)(q:op=167+(o:Int))(x:Nat)(hx:x<18446744073709551616)(A:Option Ad)(I:Nat)(w:Aa)(hs:Src w A 1 (u64V [x])):
  Ac fZ 121 #[.int .i64 op,.slice A 1 I] w (jW (((x:Int) % 4294967296,0)) w):=by
 have z1:167<=op:=(by omega);have z2:op<=167:=(by omega)
 have hg:fV op=some (167,1,4,126):=by
  rcases pQ op with⟨hg,a,b,z5,z6,z7⟩ | ⟨hg,a,b⟩ | ⟨hg,a,b⟩ | ⟨hg,a,b⟩ | ⟨hg,a,b⟩ | ⟨hg,a,b⟩ | ⟨hg,a,b⟩ | ⟨hg,a,b⟩ | ⟨hg,a,b⟩ | ⟨hg,a,b⟩ | ⟨hg,a,b⟩ | ⟨hg,a,b⟩ | ⟨hg,a,b⟩ <;> first | exact hg | (exfalso;omega)
 have t0:(op == 69)=false:=eqF (by omega);have t1:(op == 80)=false:=eqF (by omega);have t2:inB op 70 79=false:=inF (by omega);have t3:inB op 81 90=false:=inF (by omega);have t4:inB op 103 105=false:=inF (by omega);have t5:inB op 121 123=false:=inF (by omega);have t6:inB op 106 120=false:=inF (by omega);have t7:inB op 124 138=false:=inF (by omega);have t8:(op == 167)=true:=eqT (by omega) (by omega);have t9:(op == 172)=false:=eqF (by omega);have t10:(op == 173)=false:=eqF (by omega);have aI:=fQ q;clear q;have J:=fQ (show(fV op).isSome=true by simp[hg]);have K:=fQ (show gX op = [126] by simp[gX,hg]);have r:=fQ (show(gX op).length=1 by simp[gX,hg]);obtain⟨f,n,rfl,hab⟩:=hs.addr (by omega);have s:=fQ hs;clear hg hs;go_in;go_wp2_with fail;refine(jJ op _).mono ?_;rintro e w1 ⟨A2,c2,rfl,j,l⟩;rw[J.out,r.out];rw[r.out,K.out]at j;obtain⟨d,aJ,e,L,aK,_⟩:=nQ j (by omega);injection e with M e2 N;subst M;subst N;have hz:w.heap.size<=w1.heap.size:=l.size;have t:d<w1.heap.size:=L;have u:=fQ j;have O:=fQ l;have y:f<w1.heap.size:=(by omega);have m:w1.cell? ⟨d,0,none⟩=some (.int .i64 126):=(by have:=u.out.cells (g:=d) rfl 0 (.int .i64 126) rfl;rwa[Ak]at this);have h:=(s.out.below l (Av _)).at_ (k:=0) (by omega);simp only[u64V,Ax,Az,Aj,Aw]at h;have z:iK 126 x=true:=vZ _
 have B:∀ k,k<1->∃ v:Nat,w1.cell? ⟨f,n+k,none⟩=some (.int .u64 v)/\iK 126 v=true/\w1.cell? ⟨d,k,none⟩=some (.int .i64 126):=by
  intro k H;rcases(show k=0 by omega)with rfl
  ·exact⟨x,h,z,m⟩
 have C:=fQ B;clear j l u s z B;go_wp2_with fail;go_loopw [9] (fun i wr=>∃ k:Nat,k<=1/\i = .int .i64 k/\Hid (Ab w1.heap.size w1 wr)) (fun i _=>1+1 - (intOf i).toNat)
 case atStart=>exact⟨0,by omega,rfl,fQ (Ay _ _)⟩
 case round=>
  rename_i wr;obtain⟨k,aL,rfl,c⟩:=hrel;by_cases P:k<1
  ·obtain⟨v,D,E,F⟩:=C.out k P;have aC:decide ((k:Int)<1)=true:=(by simp;omega);have aD:(k:Int)<1:=(by omega);have aE:=(c.out.cell (p:=⟨f,n+k,none⟩) y).trans D;have aF:=(c.out.cell (p:=⟨d,k,none⟩) t).trans F;have Q:=fQ E;clear D E F h m;go_wp2_with fail;go_quiet ((go_at_call 63;exact Aq ((mJ 126 v _).mono fun _ _ ⟨h1,h2⟩=>⟨h1.trans (by rw[Q.out]),h2.symm⟩)));go_wp2;exact⟨⟨k+1,by omega,by simp,fQ (fK c.out _)⟩,by simp[intOf];omega⟩
  ·obtain rfl:k=1:=(by omega);have aG:=(c.out.cell (p:=⟨f,n,none⟩) y).trans h;have aH:=(c.out.cell (p:=⟨d,0,none⟩) t).trans m;have G:=fQ (O.out.trans (c.out.mono hz));have aM:w.heap.size<=wr.heap.size:=G.out.size;have aN:f<wr.heap.size:=(by have:=c.out.size;omega);clear h m  C;go_wp2_with fail;refine(zJ _).mono ?_;rintro e R ⟨rfl,rfl⟩;go_wp2_with (go_at_call 140;refine(iV _ _ _ _).mono ?_;rintro e w1 ⟨rfl,rfl⟩);refine(xZ _ _ (by omega) (by omega)).mono ?_;rintro e R ⟨rfl,rfl⟩;go_wp2;go_ret2;unfold jW;exact⟨rfl,G.out⟩
theorem cWc(x:Nat)(D:x<4294967296)(A:Option Ad)(E:Nat)(w:Aa)(hs:Src w A 1 (u64V [x])):
  Ac fZ 121 #[.int .i64 172,.slice A 1 E] w (jW ((IntKind.u64.wrap (wrap64 (wrap32 x)),0)) w):=by
 have hg:fV 172=some (172,2,5,127):=(by decide +kernel);have t0:inB 172 70 79=false:=(by decide);have t1:inB 172 81 90=false:=(by decide);have t2:inB 172 103 105=false:=(by decide);have t3:inB 172 121 123=false:=(by decide);have t4:inB 172 106 120=false:=(by decide);have t5:inB 172 124 138=false:=(by decide);have F:=fQ (show(fV 172).isSome=true by simp[hg]);have G:=fQ (show gX 172 = [127] by simp[gX,hg]);have m:=fQ (show(gX 172).length=1 by simp[gX,hg]);obtain⟨c,l,rfl,hab⟩:=hs.addr (by omega);have n:=fQ hs;clear hg hs;go_in;go_wp2_with fail;refine(jJ 172 _).mono ?_;rintro e w1 ⟨A2,c2,rfl,f,h⟩;rw[F.out,m.out];rw[m.out,G.out]at f;obtain⟨b,aH,e,H,aI,_⟩:=nQ f (by omega);injection e with I e2 J;subst I;subst J;have hz:w.heap.size<=w1.heap.size:=h.size;have o:b<w1.heap.size:=H;have q:=fQ f;have K:=fQ h;have r:c<w1.heap.size:=(by omega);have j:w1.cell? ⟨b,0,none⟩=some (.int .i64 127):=(by have:=q.out.cells (g:=b) rfl 0 (.int .i64 127) rfl;rwa[Ak]at this);have d:=(n.out.below h (Av _)).at_ (k:=0) (by omega);simp only[u64V,Ax,Az,Aj,Aw]at d;have s:iK 127 x=true:=vJ D
 have t:∀ k,k<1->∃ v:Nat,w1.cell? ⟨c,l+k,none⟩=some (.int .u64 v)/\iK 127 v=true/\w1.cell? ⟨b,k,none⟩=some (.int .i64 127):=by
  intro k hk;rcases(show k=0 by omega)with rfl
  ·exact⟨x,d,s,j⟩
 have u:=fQ t;clear f h q n s t;go_wp2_with fail;go_loopw [9] (fun i wr=>∃ k:Nat,k<=1/\i = .int .i64 k/\Hid (Ab w1.heap.size w1 wr)) (fun i _=>1+1 - (intOf i).toNat)
 case atStart=>exact⟨0,by omega,rfl,fQ (Ay _ _)⟩
 case round=>
  rename_i wr;obtain⟨k,aJ,rfl,a⟩:=hrel;by_cases L:k<1
  ·obtain⟨v,y,z,B⟩:=u.out k L;have aB:decide ((k:Int)<1)=true:=(by simp;omega);have aC:(k:Int)<1:=(by omega);have aD:=(a.out.cell (p:=⟨c,l+k,none⟩) r).trans y;have aE:=(a.out.cell (p:=⟨b,k,none⟩) o).trans B;have M:=fQ z;clear y z B d j;go_wp2_with fail;go_quiet ((go_at_call 63;exact Aq ((mJ 127 v _).mono fun _ _ ⟨h1,h2⟩=>⟨h1.trans (by rw[M.out]),h2.symm⟩)));go_wp2;exact⟨⟨k+1,by omega,by simp,fQ (fK a.out _)⟩,by simp[intOf];omega⟩
  ·obtain rfl:k=1:=(by omega);have aF:=(a.out.cell (p:=⟨c,l,none⟩) r).trans d;have aG:=(a.out.cell (p:=⟨b,0,none⟩) o).trans j;have C:=fQ (K.out.trans (a.out.mono hz));have aK:w.heap.size<=wr.heap.size:=C.out.size;have aL:c<wr.heap.size:=(by have:=a.out.size;omega);clear d j  u;go_wp2_with fail;refine(zZ _).mono ?_;rintro e N ⟨rfl,rfl⟩;go_wp2_with (go_at_call 140;refine(iV _ _ _ _).mono ?_;rintro e w1 ⟨rfl,rfl⟩);refine(aQm (x:Int) _ (by omega) (by omega)).mono ?_;rintro e N ⟨rfl,rfl⟩;go_wp2;go_ret2;unfold jW;exact⟨iX (by first | rfl | rw[dJe]),C.out⟩
theorem cWd(x:Nat)(D:x<4294967296)(A:Option Ad)(E:Nat)(w:Aa)(hs:Src w A 1 (u64V [x])):
  Ac fZ 121 #[.int .i64 173,.slice A 1 E] w (jW (((x:Int),0)) w):=by
 have hg:fV 173=some (172,2,5,127):=(by decide +kernel);have t0:inB 173 70 79=false:=(by decide);have t1:inB 173 81 90=false:=(by decide);have t2:inB 173 103 105=false:=(by decide);have t3:inB 173 121 123=false:=(by decide);have t4:inB 173 106 120=false:=(by decide);have t5:inB 173 124 138=false:=(by decide);have F:=fQ (show(fV 173).isSome=true by simp[hg]);have G:=fQ (show gX 173 = [127] by simp[gX,hg]);have m:=fQ (show(gX 173).length=1 by simp[gX,hg]);obtain⟨c,l,rfl,hab⟩:=hs.addr (by omega);have n:=fQ hs;clear hg hs;go_in;go_wp2_with fail;refine(jJ 173 _).mono ?_;rintro e w1 ⟨A2,c2,rfl,f,h⟩;rw[F.out,m.out];rw[m.out,G.out]at f;obtain⟨b,aH,e,H,aI,_⟩:=nQ f (by omega);injection e with I e2 J;subst I;subst J;have hz:w.heap.size<=w1.heap.size:=h.size;have o:b<w1.heap.size:=H;have q:=fQ f;have K:=fQ h;have r:c<w1.heap.size:=(by omega);have j:w1.cell? ⟨b,0,none⟩=some (.int .i64 127):=(by have:=q.out.cells (g:=b) rfl 0 (.int .i64 127) rfl;rwa[Ak]at this);have d:=(n.out.below h (Av _)).at_ (k:=0) (by omega);simp only[u64V,Ax,Az,Aj,Aw]at d;have s:iK 127 x=true:=vJ D
 have t:∀ k,k<1->∃ v:Nat,w1.cell? ⟨c,l+k,none⟩=some (.int .u64 v)/\iK 127 v=true/\w1.cell? ⟨b,k,none⟩=some (.int .i64 127):=by
  intro k hk;rcases(show k=0 by omega)with rfl
  ·exact⟨x,d,s,j⟩
 have u:=fQ t;clear f h q n s t;go_wp2_with fail;go_loopw [9] (fun i wr=>∃ k:Nat,k<=1/\i = .int .i64 k/\Hid (Ab w1.heap.size w1 wr)) (fun i _=>1+1 - (intOf i).toNat)
 case atStart=>exact⟨0,by omega,rfl,fQ (Ay _ _)⟩
 case round=>
  rename_i wr;obtain⟨k,aJ,rfl,a⟩:=hrel;by_cases L:k<1
  ·obtain⟨v,y,z,B⟩:=u.out k L;have aB:decide ((k:Int)<1)=true:=(by simp;omega);have aC:(k:Int)<1:=(by omega);have aD:=(a.out.cell (p:=⟨c,l+k,none⟩) r).trans y;have aE:=(a.out.cell (p:=⟨b,k,none⟩) o).trans B;have M:=fQ z;clear y z B d j;go_wp2_with fail;go_quiet ((go_at_call 63;exact Aq ((mJ 127 v _).mono fun _ _ ⟨h1,h2⟩=>⟨h1.trans (by rw[M.out]),h2.symm⟩)));go_wp2;exact⟨⟨k+1,by omega,by simp,fQ (fK a.out _)⟩,by simp[intOf];omega⟩
  ·obtain rfl:k=1:=(by omega);have aF:=(a.out.cell (p:=⟨c,l,none⟩) r).trans d;have aG:=(a.out.cell (p:=⟨b,0,none⟩) o).trans j;have C:=fQ (K.out.trans (a.out.mono hz));have aK:w.heap.size<=wr.heap.size:=C.out.size;have aL:c<wr.heap.size:=(by have:=a.out.size;omega);clear d j  u;go_wp2_with fail;refine(zZ _).mono ?_;rintro e w2 ⟨rfl,rfl⟩;go_wp2_with (go_at_call 140;refine(iV _ _ _ _).mono ?_;rintro e w1 ⟨rfl,rfl⟩);go_ret2;unfold jW;exact⟨rfl,C.out⟩
theorem cWe(x:Nat)(E:x<4294967296)(A:Option Ad)(F:Nat)(w:Aa)(hs:Src w A 1 (u64V [x])):
  Ac fZ 121 #[.int .i64 192,.slice A 1 F] w (jW ((rZ 0 127 x,0)) w):=by
 have hg:fV 192=some (192,2,6,127):=(by decide +kernel);have t0:inB 192 70 79=false:=(by decide);have t1:inB 192 81 90=false:=(by decide);have t2:inB 192 103 105=false:=(by decide);have t3:inB 192 121 123=false:=(by decide);have t4:inB 192 106 120=false:=(by decide);have t5:inB 192 124 138=false:=(by decide);have G:=fQ (show(fV 192).isSome=true by simp[hg]);have H:=fQ (show gX 192 = [127] by simp[gX,hg]);have m:=fQ (show(gX 192).length=1 by simp[gX,hg]);obtain⟨c,l,rfl,hab⟩:=hs.addr (by omega);have n:=fQ hs;clear hg hs;go_in;go_wp2_with fail;refine(jJ 192 _).mono ?_;rintro e w1 ⟨A2,c2,rfl,f,h⟩;rw[G.out,m.out];rw[m.out,H.out]at f;obtain⟨b,aI,e,I,aJ,_⟩:=nQ f (by omega);injection e with J e2 K;subst J;subst K;have hz:w.heap.size<=w1.heap.size:=h.size;have o:b<w1.heap.size:=I;have q:=fQ f;have L:=fQ h;have r:c<w1.heap.size:=(by omega);have j:w1.cell? ⟨b,0,none⟩=some (.int .i64 127):=(by have:=q.out.cells (g:=b) rfl 0 (.int .i64 127) rfl;rwa[Ak]at this);have d:=(n.out.below h (Av _)).at_ (k:=0) (by omega);simp only[u64V,Ax,Az,Aj,Aw]at d;have s:iK 127 x=true:=vJ E
 have t:∀ k,k<1->∃ v:Nat,w1.cell? ⟨c,l+k,none⟩=some (.int .u64 v)/\iK 127 v=true/\w1.cell? ⟨b,k,none⟩=some (.int .i64 127):=by
  intro k hk;rcases(show k=0 by omega)with rfl
  ·exact⟨x,d,s,j⟩
 have u:=fQ t;clear f h q n s t;go_wp2_with fail;go_loopw [9] (fun i wr=>∃ k:Nat,k<=1/\i = .int .i64 k/\Hid (Ab w1.heap.size w1 wr)) (fun i _=>1+1 - (intOf i).toNat)
 case atStart=>exact⟨0,by omega,rfl,fQ (Ay _ _)⟩
 case round=>
  rename_i wr;obtain⟨k,aK,rfl,a⟩:=hrel;by_cases M:k<1
  ·obtain⟨v,y,z,B⟩:=u.out k M;have aB:decide ((k:Int)<1)=true:=(by simp;omega);have aC:(k:Int)<1:=(by omega);have aD:=(a.out.cell (p:=⟨c,l+k,none⟩) r).trans y;have aE:=(a.out.cell (p:=⟨b,k,none⟩) o).trans B;have N:=fQ z;clear y z B d j;go_wp2_with fail;go_quiet ((go_at_call 63;exact Aq ((mJ 127 v _).mono fun _ _ ⟨h1,h2⟩=>⟨h1.trans (by rw[N.out]),h2.symm⟩)));go_wp2;exact⟨⟨k+1,by omega,by simp,fQ (fK a.out _)⟩,by simp[intOf];omega⟩
  ·obtain rfl:k=1:=(by omega);have aF:=(a.out.cell (p:=⟨c,l,none⟩) r).trans d;have aG:=(a.out.cell (p:=⟨b,0,none⟩) o).trans j;have C:=fQ (L.out.trans (a.out.mono hz));have O:w.heap.size<=wr.heap.size:=C.out.size;have aL:c<wr.heap.size:=(by have:=a.out.size;omega);clear d j  u;go_wp2_with fail;refine(zZ _).mono ?_;rintro e D ⟨rfl,rfl⟩;go_wp2_with (go_at_call 140;refine(iV _ _ _ _).mono ?_;rintro e w1 ⟨rfl,rfl⟩);refine(bWx (x:Int) _ (by omega) (by omega)).mono ?_;rintro e D ⟨rfl,rfl⟩;go_wp2_with fail;refine(xZ _ _ (by first | exact(mX _).1 | omega) (by first | exact(mX _).2 | omega)).mono ?_;rintro e D ⟨rfl,rfl⟩;go_wp2;go_ret2;unfold jW;exact⟨iX (dJg x),C.out.alloc O _⟩
theorem cWf(x:Nat)(E:x<4294967296)(A:Option Ad)(F:Nat)(w:Aa)(hs:Src w A 1 (u64V [x])):
  Ac fZ 121 #[.int .i64 193,.slice A 1 F] w (jW ((rZ 1 127 x,0)) w):=by
 have hg:fV 193=some (192,2,6,127):=(by decide +kernel);have t0:inB 193 70 79=false:=(by decide);have t1:inB 193 81 90=false:=(by decide);have t2:inB 193 103 105=false:=(by decide);have t3:inB 193 121 123=false:=(by decide);have t4:inB 193 106 120=false:=(by decide);have t5:inB 193 124 138=false:=(by decide);have G:=fQ (show(fV 193).isSome=true by simp[hg]);have H:=fQ (show gX 193 = [127] by simp[gX,hg]);have m:=fQ (show(gX 193).length=1 by simp[gX,hg]);obtain⟨c,l,rfl,hab⟩:=hs.addr (by omega);have n:=fQ hs;clear hg hs;go_in;go_wp2_with fail;refine(jJ 193 _).mono ?_;rintro e w1 ⟨A2,c2,rfl,f,h⟩;rw[G.out,m.out];rw[m.out,H.out]at f;obtain⟨b,aI,e,I,aJ,_⟩:=nQ f (by omega);injection e with J e2 K;subst J;subst K;have hz:w.heap.size<=w1.heap.size:=h.size;have o:b<w1.heap.size:=I;have q:=fQ f;have L:=fQ h;have r:c<w1.heap.size:=(by omega);have j:w1.cell? ⟨b,0,none⟩=some (.int .i64 127):=(by have:=q.out.cells (g:=b) rfl 0 (.int .i64 127) rfl;rwa[Ak]at this);have d:=(n.out.below h (Av _)).at_ (k:=0) (by omega);simp only[u64V,Ax,Az,Aj,Aw]at d;have s:iK 127 x=true:=vJ E
 have t:∀ k,k<1->∃ v:Nat,w1.cell? ⟨c,l+k,none⟩=some (.int .u64 v)/\iK 127 v=true/\w1.cell? ⟨b,k,none⟩=some (.int .i64 127):=by
  intro k hk;rcases(show k=0 by omega)with rfl
  ·exact⟨x,d,s,j⟩
 have u:=fQ t;clear f h q n s t;go_wp2_with fail;go_loopw [9] (fun i wr=>∃ k:Nat,k<=1/\i = .int .i64 k/\Hid (Ab w1.heap.size w1 wr)) (fun i _=>1+1 - (intOf i).toNat)
 case atStart=>exact⟨0,by omega,rfl,fQ (Ay _ _)⟩
 case round=>
  rename_i wr;obtain⟨k,aK,rfl,a⟩:=hrel;by_cases M:k<1
  ·obtain⟨v,y,z,B⟩:=u.out k M;have aB:decide ((k:Int)<1)=true:=(by simp;omega);have aC:(k:Int)<1:=(by omega);have aD:=(a.out.cell (p:=⟨c,l+k,none⟩) r).trans y;have aE:=(a.out.cell (p:=⟨b,k,none⟩) o).trans B;have N:=fQ z;clear y z B d j;go_wp2_with fail;go_quiet ((go_at_call 63;exact Aq ((mJ 127 v _).mono fun _ _ ⟨h1,h2⟩=>⟨h1.trans (by rw[N.out]),h2.symm⟩)));go_wp2;exact⟨⟨k+1,by omega,by simp,fQ (fK a.out _)⟩,by simp[intOf];omega⟩
  ·obtain rfl:k=1:=(by omega);have aF:=(a.out.cell (p:=⟨c,l,none⟩) r).trans d;have aG:=(a.out.cell (p:=⟨b,0,none⟩) o).trans j;have C:=fQ (L.out.trans (a.out.mono hz));have O:w.heap.size<=wr.heap.size:=C.out.size;have aL:c<wr.heap.size:=(by have:=a.out.size;omega);clear d j  u;go_wp2_with fail;refine(zZ _).mono ?_;rintro e D ⟨rfl,rfl⟩;go_wp2_with (go_at_call 140;refine(iV _ _ _ _).mono ?_;rintro e w1 ⟨rfl,rfl⟩);refine(bKs (x:Int) _ (by omega) (by omega)).mono ?_;rintro e D ⟨rfl,rfl⟩;go_wp2_with fail;refine(xZ _ _ (by first | exact(mX _).1 | omega) (by first | exact(mX _).2 | omega)).mono ?_;rintro e D ⟨rfl,rfl⟩;go_wp2;go_ret2;unfold jW;exact⟨iX (dXm x),C.out.alloc O _⟩
theorem cWg(x:Nat)(hx:x<18446744073709551616)(A:Option Ad)(E:Nat)(w:Aa)(hs:Src w A 1 (u64V [x])):
  Ac fZ 121 #[.int .i64 194,.slice A 1 E] w (jW ((rZ 0 126 x,0)) w):=by
 have hg:fV 194=some (194,3,6,126):=(by decide +kernel);have t0:inB 194 70 79=false:=(by decide);have t1:inB 194 81 90=false:=(by decide);have t2:inB 194 103 105=false:=(by decide);have t3:inB 194 121 123=false:=(by decide);have t4:inB 194 106 120=false:=(by decide);have t5:inB 194 124 138=false:=(by decide);have F:=fQ (show(fV 194).isSome=true by simp[hg]);have G:=fQ (show gX 194 = [126] by simp[gX,hg]);have m:=fQ (show(gX 194).length=1 by simp[gX,hg]);obtain⟨c,l,rfl,hab⟩:=hs.addr (by omega);have n:=fQ hs;clear hg hs;go_in;go_wp2_with fail;refine(jJ 194 _).mono ?_;rintro e w1 ⟨A2,c2,rfl,f,h⟩;rw[F.out,m.out];rw[m.out,G.out]at f;obtain⟨b,aI,e,H,aJ,_⟩:=nQ f (by omega);injection e with I e2 J;subst I;subst J;have hz:w.heap.size<=w1.heap.size:=h.size;have o:b<w1.heap.size:=H;have q:=fQ f;have K:=fQ h;have r:c<w1.heap.size:=(by omega);have j:w1.cell? ⟨b,0,none⟩=some (.int .i64 126):=(by have:=q.out.cells (g:=b) rfl 0 (.int .i64 126) rfl;rwa[Ak]at this);have d:=(n.out.below h (Av _)).at_ (k:=0) (by omega);simp only[u64V,Ax,Az,Aj,Aw]at d;have s:iK 126 x=true:=vZ _
 have t:∀ k,k<1->∃ v:Nat,w1.cell? ⟨c,l+k,none⟩=some (.int .u64 v)/\iK 126 v=true/\w1.cell? ⟨b,k,none⟩=some (.int .i64 126):=by
  intro k hk;rcases(show k=0 by omega)with rfl
  ·exact⟨x,d,s,j⟩
 have u:=fQ t;clear f h q n s t;go_wp2_with fail;go_loopw [9] (fun i wr=>∃ k:Nat,k<=1/\i = .int .i64 k/\Hid (Ab w1.heap.size w1 wr)) (fun i _=>1+1 - (intOf i).toNat)
 case atStart=>exact⟨0,by omega,rfl,fQ (Ay _ _)⟩
 case round=>
  rename_i wr;obtain⟨k,aK,rfl,a⟩:=hrel;by_cases L:k<1
  ·obtain⟨v,y,z,B⟩:=u.out k L;have aB:decide ((k:Int)<1)=true:=(by simp;omega);have aC:(k:Int)<1:=(by omega);have aD:=(a.out.cell (p:=⟨c,l+k,none⟩) r).trans y;have aE:=(a.out.cell (p:=⟨b,k,none⟩) o).trans B;have M:=fQ z;clear y z B d j;go_wp2_with fail;go_quiet ((go_at_call 63;exact Aq ((mJ 126 v _).mono fun _ _ ⟨h1,h2⟩=>⟨h1.trans (by rw[M.out]),h2.symm⟩)));go_wp2;exact⟨⟨k+1,by omega,by simp,fQ (fK a.out _)⟩,by simp[intOf];omega⟩
  ·obtain rfl:k=1:=(by omega);have aF:=(a.out.cell (p:=⟨c,l,none⟩) r).trans d;have aG:=(a.out.cell (p:=⟨b,0,none⟩) o).trans j;have C:=fQ (K.out.trans (a.out.mono hz));have N:w.heap.size<=wr.heap.size:=C.out.size;have aL:c<wr.heap.size:=(by have:=a.out.size;omega);clear d j  u;go_wp2_with fail;refine(zJ _).mono ?_;rintro e D ⟨rfl,rfl⟩;go_wp2_with (go_at_call 140;refine(iV _ _ _ _).mono ?_;rintro e w1 ⟨rfl,rfl⟩);refine(bWx (x:Int) _ (by omega) (by omega)).mono ?_;rintro e D ⟨rfl,rfl⟩;go_wp2_with fail;refine(xX _ _).mono ?_;rintro e D ⟨rfl,rfl⟩;go_wp2;go_ret2;unfold jW;exact⟨iX (dJf x),C.out.alloc N _⟩
theorem cWh(x:Nat)(hx:x<18446744073709551616)(A:Option Ad)(E:Nat)(w:Aa)(hs:Src w A 1 (u64V [x])):
  Ac fZ 121 #[.int .i64 195,.slice A 1 E] w (jW ((rZ 1 126 x,0)) w):=by
 have hg:fV 195=some (194,3,6,126):=(by decide +kernel);have t0:inB 195 70 79=false:=(by decide);have t1:inB 195 81 90=false:=(by decide);have t2:inB 195 103 105=false:=(by decide);have t3:inB 195 121 123=false:=(by decide);have t4:inB 195 106 120=false:=(by decide);have t5:inB 195 124 138=false:=(by decide);have F:=fQ (show(fV 195).isSome=true by simp[hg]);have G:=fQ (show gX 195 = [126] by simp[gX,hg]);have m:=fQ (show(gX 195).length=1 by simp[gX,hg]);obtain⟨c,l,rfl,hab⟩:=hs.addr (by omega);have n:=fQ hs;clear hg hs;go_in;go_wp2_with fail;refine(jJ 195 _).mono ?_;rintro e w1 ⟨A2,c2,rfl,f,h⟩;rw[F.out,m.out];rw[m.out,G.out]at f;obtain⟨b,aI,e,H,aJ,_⟩:=nQ f (by omega);injection e with I e2 J;subst I;subst J;have hz:w.heap.size<=w1.heap.size:=h.size;have o:b<w1.heap.size:=H;have q:=fQ f;have K:=fQ h;have r:c<w1.heap.size:=(by omega);have j:w1.cell? ⟨b,0,none⟩=some (.int .i64 126):=(by have:=q.out.cells (g:=b) rfl 0 (.int .i64 126) rfl;rwa[Ak]at this);have d:=(n.out.below h (Av _)).at_ (k:=0) (by omega);simp only[u64V,Ax,Az,Aj,Aw]at d;have s:iK 126 x=true:=vZ _
 have t:∀ k,k<1->∃ v:Nat,w1.cell? ⟨c,l+k,none⟩=some (.int .u64 v)/\iK 126 v=true/\w1.cell? ⟨b,k,none⟩=some (.int .i64 126):=by
  intro k hk;rcases(show k=0 by omega)with rfl
  ·exact⟨x,d,s,j⟩
 have u:=fQ t;clear f h q n s t;go_wp2_with fail;go_loopw [9] (fun i wr=>∃ k:Nat,k<=1/\i = .int .i64 k/\Hid (Ab w1.heap.size w1 wr)) (fun i _=>1+1 - (intOf i).toNat)
 case atStart=>exact⟨0,by omega,rfl,fQ (Ay _ _)⟩
 case round=>
  rename_i wr;obtain⟨k,aK,rfl,a⟩:=hrel;by_cases L:k<1
  ·obtain⟨v,y,z,B⟩:=u.out k L;have aB:decide ((k:Int)<1)=true:=(by simp;omega);have aC:(k:Int)<1:=(by omega);have aD:=(a.out.cell (p:=⟨c,l+k,none⟩) r).trans y;have aE:=(a.out.cell (p:=⟨b,k,none⟩) o).trans B;have M:=fQ z;clear y z B d j;go_wp2_with fail;go_quiet ((go_at_call 63;exact Aq ((mJ 126 v _).mono fun _ _ ⟨h1,h2⟩=>⟨h1.trans (by rw[M.out]),h2.symm⟩)));go_wp2;exact⟨⟨k+1,by omega,by simp,fQ (fK a.out _)⟩,by simp[intOf];omega⟩
  ·obtain rfl:k=1:=(by omega);have aF:=(a.out.cell (p:=⟨c,l,none⟩) r).trans d;have aG:=(a.out.cell (p:=⟨b,0,none⟩) o).trans j;have C:=fQ (K.out.trans (a.out.mono hz));have N:w.heap.size<=wr.heap.size:=C.out.size;have aL:c<wr.heap.size:=(by have:=a.out.size;omega);clear d j  u;go_wp2_with fail;refine(zJ _).mono ?_;rintro e D ⟨rfl,rfl⟩;go_wp2_with (go_at_call 140;refine(iV _ _ _ _).mono ?_;rintro e w1 ⟨rfl,rfl⟩);refine(bKs (x:Int) _ (by omega) (by omega)).mono ?_;rintro e D ⟨rfl,rfl⟩;go_wp2_with fail;refine(xX _ _).mono ?_;rintro e D ⟨rfl,rfl⟩;go_wp2;go_ret2;unfold jW;exact⟨iX (dXk x),C.out.alloc N _⟩
theorem cWi(x:Nat)(hx:x<18446744073709551616)(A:Option Ad)(E:Nat)(w:Aa)(hs:Src w A 1 (u64V [x])):
  Ac fZ 121 #[.int .i64 196,.slice A 1 E] w (jW ((rZ 2 126 x,0)) w):=by
 have hg:fV 196=some (194,3,6,126):=(by decide +kernel);have t0:inB 196 70 79=false:=(by decide);have t1:inB 196 81 90=false:=(by decide);have t2:inB 196 103 105=false:=(by decide);have t3:inB 196 121 123=false:=(by decide);have t4:inB 196 106 120=false:=(by decide);have t5:inB 196 124 138=false:=(by decide);have F:=fQ (show(fV 196).isSome=true by simp[hg]);have G:=fQ (show gX 196 = [126] by simp[gX,hg]);have m:=fQ (show(gX 196).length=1 by simp[gX,hg]);obtain⟨c,l,rfl,hab⟩:=hs.addr (by omega);have n:=fQ hs;clear hg hs;go_in;go_wp2_with fail;refine(jJ 196 _).mono ?_;rintro e w1 ⟨A2,c2,rfl,f,h⟩;rw[F.out,m.out];rw[m.out,G.out]at f;obtain⟨b,aI,e,H,aJ,_⟩:=nQ f (by omega);injection e with I e2 J;subst I;subst J;have hz:w.heap.size<=w1.heap.size:=h.size;have o:b<w1.heap.size:=H;have q:=fQ f;have K:=fQ h;have r:c<w1.heap.size:=(by omega);have j:w1.cell? ⟨b,0,none⟩=some (.int .i64 126):=(by have:=q.out.cells (g:=b) rfl 0 (.int .i64 126) rfl;rwa[Ak]at this);have d:=(n.out.below h (Av _)).at_ (k:=0) (by omega);simp only[u64V,Ax,Az,Aj,Aw]at d;have s:iK 126 x=true:=vZ _
 have t:∀ k,k<1->∃ v:Nat,w1.cell? ⟨c,l+k,none⟩=some (.int .u64 v)/\iK 126 v=true/\w1.cell? ⟨b,k,none⟩=some (.int .i64 126):=by
  intro k hk;rcases(show k=0 by omega)with rfl
  ·exact⟨x,d,s,j⟩
 have u:=fQ t;clear f h q n s t;go_wp2_with fail;go_loopw [9] (fun i wr=>∃ k:Nat,k<=1/\i = .int .i64 k/\Hid (Ab w1.heap.size w1 wr)) (fun i _=>1+1 - (intOf i).toNat)
 case atStart=>exact⟨0,by omega,rfl,fQ (Ay _ _)⟩
 case round=>
  rename_i wr;obtain⟨k,aK,rfl,a⟩:=hrel;by_cases L:k<1
  ·obtain⟨v,y,z,B⟩:=u.out k L;have aB:decide ((k:Int)<1)=true:=(by simp;omega);have aC:(k:Int)<1:=(by omega);have aD:=(a.out.cell (p:=⟨c,l+k,none⟩) r).trans y;have aE:=(a.out.cell (p:=⟨b,k,none⟩) o).trans B;have M:=fQ z;clear y z B d j;go_wp2_with fail;go_quiet ((go_at_call 63;exact Aq ((mJ 126 v _).mono fun _ _ ⟨h1,h2⟩=>⟨h1.trans (by rw[M.out]),h2.symm⟩)));go_wp2;exact⟨⟨k+1,by omega,by simp,fQ (fK a.out _)⟩,by simp[intOf];omega⟩
  ·obtain rfl:k=1:=(by omega);have aF:=(a.out.cell (p:=⟨c,l,none⟩) r).trans d;have aG:=(a.out.cell (p:=⟨b,0,none⟩) o).trans j;have C:=fQ (K.out.trans (a.out.mono hz));have N:w.heap.size<=wr.heap.size:=C.out.size;have aL:c<wr.heap.size:=(by have:=a.out.size;omega);clear d j  u;go_wp2_with fail;refine(zJ _).mono ?_;rintro e D ⟨rfl,rfl⟩;go_wp2_with (go_at_call 140;refine(iV _ _ _ _).mono ?_;rintro e w1 ⟨rfl,rfl⟩);refine(aQm (x:Int) _ (by omega) (by omega)).mono ?_;rintro e D ⟨rfl,rfl⟩;go_wp2_with fail;refine(xX _ _).mono ?_;rintro e D ⟨rfl,rfl⟩;go_wp2;go_ret2;unfold jW;exact⟨iX (dXl x),C.out.alloc N _⟩
end Go.Proofs.YtabibkpfgmolkaaGreat

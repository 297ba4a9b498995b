/- Lemmas for the claim, part 6. Conditions: none. -/
import Derived.Test.YtabibkpfgmolkaaDoorPc05
import Derived.Deep.RegionHeld3
import Derived.Shelf.Spec.TrailingZeros
set_option maxRecDepth 100000
set_option maxHeartbeats 16000000
set_option linter.unusedVariables false
set_option linter.unusedSimpArgs false
open Go.Lib renaming hid→cQ
open Go.Proofs.Tryd renaming prog→cZ
open Go.Proofs.Tryd
open Go.RowKit
open Go.Value renaming pointer→Aj,func→Ay,int→Ai,bool→Bw
open Nat renaming le_refl→Aq,and_two_pow_sub_one_eq_mod→AJ,div_div_eq_div_mul→AK,and_le_right→AW,pow_succ→Ac,div_le_self→Ad,add_assoc→Af,reduceMul→Ag,add_le_add→Bx,reducePow→Bz,mul_comm→Bk,add_zero→Bv,mod_lt→By
open List renaming getElem?_eq_getElem→Ax,getD_eq_getElem?_getD→Ak,getD_cons_zero→Av,getD_cons_succ→Aw,getElem_mem→AQ,getElem?_toArray→AX,getElem?_map→AV,getElem_map→Ab,all_append→Ae
open Go.RowKit.Below renaming refl→Az
open Go.IntKind renaming wrap_u32→AZ,wrap_i64→Ah
open Int renaming toNat_natCast→AY,ediv_nonneg→Bj,natCast_add→Bq
open Go.World renaming size_alloc→Aa
open Go renaming World→BJ,Calls→BX
open Go.RowKit renaming Below→BQ
namespace Go.Proofs.YtabibkpfgmolkaaDoor
variable {x:Nat}{out:Int}{w:BJ}
theorem bWp(n:Int):bits .and .i64 n 63=n % 64:=by
 have a:(BitVec.ofInt 64 63).toNat=2 ^ 6 - 1:=by decide
 have key:(BitVec.ofInt 64 n &&& BitVec.ofInt 64 63).toNat=(n % ((2 ^ 64:Nat):Int)).toNat % 2 ^ 6:=by
  rw[BitVec.toNat_and,BitVec.toNat_ofInt,a,AJ]
 show IntKind.i64.wrap ((BitVec.ofInt 64 n &&& BitVec.ofInt 64 63).toNat:Nat)=n % 64;rw[key,Ah];omega
theorem bWq(n:Int):bits .and .i64 n 31=n % 32:=by
 have a:(BitVec.ofInt 64 31).toNat=2 ^ 5 - 1:=by decide
 have key:(BitVec.ofInt 64 n &&& BitVec.ofInt 64 31).toNat=(n % ((2 ^ 64:Nat):Int)).toNat % 2 ^ 5:=by
  rw[BitVec.toNat_and,BitVec.toNat_ofInt,a,AJ]
 show IntKind.i64.wrap ((BitVec.ofInt 64 n &&& BitVec.ofInt 64 31).toNat:Nat)=n % 32;rw[key,Ah];omega
theorem aXv(z:Int): -9223372036854775808<=wrap64 z/\wrap64 z<=9223372036854775807:=by unfold wrap64;omega
theorem aXw(z:Int): -2147483648<=wrap32 z/\wrap32 z<=2147483647:=by unfold wrap32;omega
def lJ(p:Int×Int)(w:BJ)(e:Ending)(w':BJ):Prop:=e = .returned (.tuple #[.int .u64 p.1,.int .i64 p.2])/\BQ w.heap.size w w'
theorem aWa(k:Int)(a b:Nat)(x y:Int)(ha:a<4294967296):0<=(fQ 4294967296 (-2147483648) k a b x y).1/\(fQ 4294967296 (-2147483648) k a b x y).1<4294967296:=by
 have h1:(a:Int) / b=((a / b:Nat):Int):=(by simp);have h2:=Ad a b;have h5:0<=(a:Int) / b:=Bj (by omega) (by omega);have h3:(a:Int) % b=((a % b:Nat):Int):=(by simp);have h4:=Nat.mod_le a b;unfold fQ
 repeat' split
 all_goals (simp only;omega)
theorem aYz(o:BinOp)(x y:Int):0<=bits o .u32 x y/\bits o .u32 x y<4294967296:=by
 have h:∃ z,bits o .u32 x y=IntKind.u32.wrap z:=⟨_,rfl⟩;obtain⟨z,a⟩:=h;rw[a,AZ];omega
theorem aWb(a b by_:Nat)(x:Int)(ha:a<4294967296)(k:Nat):0<=(oJ .u32 32 a b by_ x).getD k 0/\(oJ .u32 32 a b by_ x).getD k 0<4294967296:=by
 have h1:(a:Int) / 2 ^ by_=((a / 2 ^ by_:Nat):Int):=(by simp);have h2:=Ad a (2 ^ by_);have h5:0<=(a:Int) / 2 ^ by_:=Bj (by omega) (Int.le_of_lt (Int.pow_pos (by omega)));have c:=fun o x y=>aYz o x y;unfold oJ
 match k with
 | 0=>simp only[Av,Aw,AZ];omega
 | 1=>simp only[Av,Aw,AZ];omega
 | 2=>simp only[Av,Aw,AZ];omega
 | 3=>simp
 | 4=>simp
 | 5=>simp
 | 6=>simp
 | 7=>simp only[Av,Aw];exact c _ _ _
 | 8=>simp only[Av,Aw];exact c _ _ _
 | 9=>simp only[Av,Aw];exact c _ _ _
 | 10=>simp only[Av,Aw,AZ];omega
 | 11=>simp only[Av,Aw,AZ];omega
 | 12=>simp only[Av,Aw];omega
 | 13=>simp only[Av,Aw];exact c _ _ _
 | 14=>simp only[Av,Aw];exact c _ _ _
 | k+15=>simp
theorem bWr(d f:Int)(k a b:Nat)(w:BJ)(hk:k<10)(ha:a<18446744073709551616)(hb:b<18446744073709551616):
  BX cZ 81 #[.agg #[.int .i64 d,.int .i64 f,.int .i64 1,.int .i64 126],.int .i64 k,.int .u64 a,.int .u64 b] w (lJ (jY 1 126 k a b) w):=by
 have g:=cQ (show jY 1 126 k a b=(b01 ((sV a b (wrap64 a) (wrap64 b)).getD k false),0) by simp[jY]);obtain⟨y,c⟩:=cX ((sV a b (wrap64 a) (wrap64 b)).getD k false)
 have hcell:∀ W:BJ,(W.alloc (.cells ((sV a b (wrap64 a) (wrap64 b)).map Bw).toArray 4)).cell? ⟨W.heap.size,k,none⟩=some (.bool y):=fun W=>by
  rw[(Blk.new W 4 _).cell k];simp only[AX,AV];rw[Ax (by simp[sV];omega),<-c,Ak,Ax (by simp[sV];omega)];rfl
 rw[c]at g;have h:=cQ hcell;clear c hcell;go_in;go_wp2_with fail;refine(bWj a b _ _ _).mono ?_;rintro e i ⟨rfl,rfl⟩;have hcell:=h.out (w.alloc (.cells #[.int .i64 d,.int .i64 f,.int .i64 1,.int .i64 126] 139));simp only[Aa]at hcell;go_wp2_with fail;refine(aKn y _).mono ?_;rintro e i ⟨rfl,rfl⟩;go_wp2;go_ret2;unfold lJ;rw[g.out];exact⟨rfl,((Az _ _).alloc (Aq _) _).alloc (by simp) _⟩
theorem bWs(d f:Int)(k a b:Nat)(w:BJ)(hk:k<10)(ha:a<4294967296)(hb:b<4294967296):
  BX cZ 81 #[.agg #[.int .i64 d,.int .i64 f,.int .i64 1,.int .i64 127],.int .i64 k,.int .u64 a,.int .u64 b] w (lJ (jY 1 127 k a b) w):=by
 have g:=cQ (show jY 1 127 k a b=(b01 ((sV a b (wrap32 a) (wrap32 b)).getD k false),0) by simp[jY]);obtain⟨y,c⟩:=cX ((sV a b (wrap32 a) (wrap32 b)).getD k false)
 have hcell:∀ W:BJ,(W.alloc (.cells ((sV a b (wrap32 a) (wrap32 b)).map Bw).toArray 4)).cell? ⟨W.heap.size,k,none⟩=some (.bool y):=fun W=>by
  rw[(Blk.new W 4 _).cell k];simp only[AX,AV];rw[Ax (by simp[sV];omega),<-c,Ak,Ax (by simp[sV];omega)];rfl
 rw[c]at g;have h:=cQ hcell;clear c hcell;go_in;go_wp2_with fail;refine(bWk a b _ _ _).mono ?_;rintro e i ⟨rfl,rfl⟩;have hcell:=h.out (w.alloc (.cells #[.int .i64 d,.int .i64 f,.int .i64 1,.int .i64 127] 139));simp only[Aa]at hcell;go_wp2_with fail;refine(aKn y _).mono ?_;rintro e i ⟨rfl,rfl⟩;go_wp2;go_ret2;unfold lJ;rw[g.out];exact⟨rfl,((Az _ _).alloc (Aq _) _).alloc (by simp) _⟩
theorem bWt(g h:Int)(k a b:Nat)(w:BJ)(i:3<=k)(j:k<=6)(ha:a<18446744073709551616)(l:b<18446744073709551616):
  BX cZ 81 #[.agg #[.int .i64 g,.int .i64 h,.int .i64 3,.int .i64 126],.int .i64 k,.int .u64 a,.int .u64 b] w (lJ (jY 3 126 k a b) w):=by
 have m:=cQ (show jY 3 126 k a b=fQ 18446744073709551616 (-9223372036854775808) ((k:Int) - 3) a b (wrap64 a) (wrap64 b) by simp[jY,i,j];omega);have hd:tQ k=true:=(by simp[tQ];omega);have q1:=aXv a;have d:=aXv b;have f:wrap64 (b:Int)=0->b=0:=(by unfold wrap64;omega);have n:=cQ f;clear f;generalize c:fQ 18446744073709551616 (-9223372036854775808) ((k:Int) - 3) a b (wrap64 a) (wrap64 b)=R at *;replace c:=cQ c;obtain⟨r1,r2⟩:=R;go_in;go_wp2_with fail;refine(lW k _).mono ?_;rintro e o ⟨rfl,rfl⟩;rw[hd];go_wp2_with fail;refine(bWn _ a b _ _ _ ha l q1.1 q1.2 d.1 d.2 n.out).mono ?_;rintro e o ⟨rfl,rfl⟩;rw[c.out];go_wp2;go_ret2;unfold lJ;rw[m.out];exact⟨rfl,(Az _ _).alloc (Aq _) _⟩
theorem bWu(h i:Int)(k a b:Nat)(w:BJ)(j:3<=k)(l:k<=6)(ha:a<4294967296)(m:b<4294967296):
  BX cZ 81 #[.agg #[.int .i64 h,.int .i64 i,.int .i64 3,.int .i64 127],.int .i64 k,.int .u64 a,.int .u64 b] w (lJ (jY 3 127 k a b) w):=by
 have n:=cQ (show jY 3 127 k a b=fQ 4294967296 (-2147483648) ((k:Int) - 3) a b (wrap32 a) (wrap32 b) by simp[jY,j,l];omega);have hd:tQ k=true:=(by simp[tQ];omega);have q1:=aXw a;have d:=aXw b;have f:wrap32 (b:Int)=0->b=0:=(by unfold wrap32;omega);have q4:=aWa ((k:Int) - 3) a b (wrap32 a) (wrap32 b) ha;have o:=cQ f;clear f;generalize c:fQ 4294967296 (-2147483648) ((k:Int) - 3) a b (wrap32 a) (wrap32 b)=R at *;replace c:=cQ c;obtain⟨r1,r2⟩:=R;go_in;go_wp2_with fail;refine(lW k _).mono ?_;rintro e g ⟨rfl,rfl⟩;rw[hd];go_wp2_with fail;refine(lW k _).mono ?_;rintro e g ⟨rfl,rfl⟩;rw[hd];go_wp2_with fail;refine(bWo _ a b _ _ _ ha m q1.1 q1.2 d.1 d.2 o.out).mono ?_;rintro e g ⟨rfl,rfl⟩;rw[c.out];go_wp2;go_ret2;unfold lJ;rw[n.out];exact⟨rfl,(Az _ _).alloc (Aq _) _⟩
theorem bWv(d f:Int)(k a b:Nat)(w:BJ)(hk:k<3\/6<k)(ae:k<15)(ha:a<18446744073709551616)(j:b<18446744073709551616):
  BX cZ 81 #[.agg #[.int .i64 d,.int .i64 f,.int .i64 3,.int .i64 126],.int .i64 k,.int .u64 a,.int .u64 b] w (lJ (jY 3 126 k a b) w):=by
 have g:=cQ (show jY 3 126 k a b=((oJ .u64 64 a b (b % 64) (wrap64 a)).getD k 0,0) by
  rw[jY,if_pos rfl,if_neg (by decide),if_neg (by omega)]
  simp)
 have hd:tQ k=false:=(by simp[tQ];omega);have q1:=aXv a
 have h:bits .and .i64 (wrap64 (b:Int)) 63=((b % 64:Nat):Int):=by
  rw[bWp];unfold wrap64;omega
 obtain⟨y,c⟩:=cX ((oJ .u64 64 a b (b % 64) (wrap64 a)).getD k 0)
 have hcell:∀ W:BJ,(W.alloc (.cells ((oJ .u64 64 a b (b % 64) (wrap64 a)).map (Ai .u64)).toArray 62)).drew.cell? ⟨W.heap.size,k,none⟩=some (.int .u64 y):=fun W=>by
  rw[(Blk.new W 62 _).drew.cell k];simp only[AX,AV];rw[Ax (by simp[oJ];omega),<-c,Ak,Ax (by simp[oJ];omega)];rfl
 rw[c]at g;have l:=cQ hcell;have m:=cQ h;clear c hcell h;go_in;go_wp2_with fail;refine(lW k _).mono ?_;rintro e i ⟨rfl,rfl⟩;rw[hd];go_wp2_with fail;refine(lW k _).mono ?_;rintro e i ⟨rfl,rfl⟩;rw[hd];go_wp2_with fail;refine(bWl a b _ _ ha j q1.1 q1.2 _ m.out (By _ (by omega))).mono ?_;rintro e i ⟨rfl,rfl⟩;have hcell:=l.out (w.alloc (.cells #[.int .i64 d,.int .i64 f,.int .i64 3,.int .i64 126] 139));simp only[Aa]at hcell;go_wp2;go_ret2;unfold lJ;rw[g.out];exact⟨rfl,(((Az _ _).alloc (Aq _) _).alloc (by simp) _).drew⟩
theorem bWw(d f:Int)(k a b:Nat)(w:BJ)(hk:k<3\/6<k)(ae:k<15)(ha:a<4294967296)(j:b<4294967296):
  BX cZ 81 #[.agg #[.int .i64 d,.int .i64 f,.int .i64 3,.int .i64 127],.int .i64 k,.int .u64 a,.int .u64 b] w (lJ (jY 3 127 k a b) w):=by
 have g:=cQ (show jY 3 127 k a b=((oJ .u32 32 a b (b % 32) (wrap32 a)).getD k 0,0) by
  rw[jY,if_neg (by decide),if_neg (by decide),if_neg (by omega)]
  simp)
 have hd:tQ k=false:=(by simp[tQ];omega);have q1:=aXw a
 have h:bits .and .i64 (b:Int) 31=((b % 32:Nat):Int):=by
  rw[bWq];simp
 obtain⟨y,c⟩:=cX ((oJ .u32 32 a b (b % 32) (wrap32 a)).getD k 0);have hy:0<=y/\y<4294967296:=(by rw[<-c];exact aWb a b (b % 32) (wrap32 a) ha k)
 have hcell:∀ W:BJ,(W.alloc (.cells ((oJ .u32 32 a b (b % 32) (wrap32 a)).map (Ai .u32)).toArray 93)).drew.cell? ⟨W.heap.size,k,none⟩=some (.int .u32 y):=fun W=>by
  rw[(Blk.new W 93 _).drew.cell k];simp only[AX,AV];rw[Ax (by simp[oJ];omega),<-c,Ak,Ax (by simp[oJ];omega)];rfl
 rw[c]at g;have l:=cQ hcell;have m:=cQ h;clear c hcell h;go_in;go_wp2_with fail;refine(lW k _).mono ?_;rintro e i ⟨rfl,rfl⟩;rw[hd];go_wp2_with fail;refine(lW k _).mono ?_;rintro e i ⟨rfl,rfl⟩;rw[hd];go_wp2_with fail;refine(bWm a b _ _ ha j q1.1 q1.2 _ m.out (By _ (by omega))).mono ?_;rintro e i ⟨rfl,rfl⟩;have hcell:=l.out (w.alloc (.cells #[.int .i64 d,.int .i64 f,.int .i64 3,.int .i64 127] 139));simp only[Aa]at hcell;go_wp2;go_ret2;unfold lJ;rw[g.out];exact⟨rfl,(((Az _ _).alloc (Aq _) _).alloc (by simp) _).drew⟩
section
open Go.Lib
theorem vJ:∀ (a b x:Nat),popAux (a+b) x=popAux a x+popAux b (x / 2 ^ a)
 | 0,b,x=>by simp[popAux]
 | a+1,b,x=>by
  rw[show a+1+b=(a+b)+1 from by omega,popAux,popAux,vJ a b (x / 2),AK,Ac,Bk 2];omega
theorem aKj:∀ (a x:Nat),popAux a (x % 2 ^ a)=popAux a x
 | 0,x=>rfl
 | a+1,x=>by
  rw[popAux,popAux,<-aKj a (x / 2)];have h1:x % 2 ^ (a+1) % 2=x % 2:=(by rw[Ac];exact Nat.mod_mul_left_mod x (2 ^ a) 2);have h2:x % 2 ^ (a+1) / 2=x / 2 % 2 ^ a:=(by rw[Ac,Bk];exact Nat.mod_mul_right_div_self x 2 (2 ^ a));rw[h1,h2]
theorem aZs:∀ a,popAux a 0=0
 | 0=>rfl
 | a+1=>by rw[popAux,aZs a]
theorem bWx{a:Nat}(h:x<2 ^ a)(b:Nat):popAux (a+b) x=popAux a x:=by
 rw[vJ,Nat.div_eq_of_lt h,aZs,Bv]
theorem gK:∀ a x,popAux a x<=a
 | 0,_=>Aq _
 | a+1,x=>by rw[popAux];have:=gK a (x / 2);omega
theorem cZz(x y:Nat):(x &&& y) % 256=x % 256 &&& y % 256:=Nat.and_mod_two_pow (n:=8) ..
theorem cXe(x y:Nat):(x &&& y) / 256=x / 256 &&& y / 256:=Nat.and_div_two_pow (n:=8) ..
def pX(c:Nat):Nat->Nat
 | 0=>0
 | n+1=>pX c n*256+c
theorem xV{c n:Nat}(hc:c<256):x &&& pX c (n+1)=(x / 256 &&& pX c n)*256+(x % 256 &&& c):=by
 have h1:=cZz x (pX c (n+1));have h2:=cXe x (pX c (n+1));have a:pX c (n+1) % 256=c:=(by rw[pX];omega);have b:pX c (n+1) / 256=pX c n:=(by rw[pX];omega);rw[a]at h1;rw[b]at h2;omega
def stp(s c n x:Nat):Nat:=(x / s &&& pX c n)+(x &&& pX c n)
def stb(s c b:Nat):Nat:=(b / s &&& c)+(b &&& c)
theorem cVk:∀ (b:Fin 256) (h:Fin 2),(b.val / 2+128*h.val) &&& 85=b.val / 2 &&& 85:=by decide +kernel
theorem cVl:∀ (b:Fin 256) (h:Fin 4),(b.val / 4+64*h.val) &&& 51=b.val / 4 &&& 51:=by decide +kernel
theorem cKf(n x:Nat):stp 2 85 (n+1) x=stp 2 85 n (x / 256)*256+stb 2 85 (x % 256):=by
 have a:=cVk ⟨x % 256,by omega⟩ ⟨x / 256 % 2,by omega⟩;simp only at a;unfold stp stb;rw[xV (by omega),xV (by omega),show x / 2 % 256=x % 256 / 2+128*(x / 256 % 2)from by omega,a,show x / 2 / 256=x / 256 / 2 from by omega];omega
theorem cWm(n x:Nat):stp 4 51 (n+1) x=stp 4 51 n (x / 256)*256+stb 4 51 (x % 256):=by
 have a:=cVl ⟨x % 256,by omega⟩ ⟨x / 256 % 4,by omega⟩;simp only at a;unfold stp stb;rw[xV (by omega),xV (by omega),show x / 4 % 256=x % 256 / 4+64*(x / 256 % 4)from by omega,a,show x / 4 / 256=x / 256 / 4 from by omega];omega
theorem cJa:∀ b:Fin 256,stb 2 85 b.val<256/\stb 4 51 (stb 2 85 b.val)<=68/\stb 4 51 (stb 2 85 b.val) % 16<=4/\(stb 4 51 (stb 2 85 b.val) / 16+stb 4 51 (stb 2 85 b.val)) % 16=popAux 8 b.val:=by decide +kernel
def aJi:Nat->Nat->Nat
 | 0,_=>0
 | n+1,x=>aJi n (x / 256)*256+popAux 8 (x % 256)
theorem aWc:∀ n x,(stp 4 51 n (stp 2 85 n x)) % 16<=4/\((stp 4 51 n (stp 2 85 n x)) / 16+stp 4 51 n (stp 2 85 n x)) &&& pX 15 n=aJi n x
 | 0,x=>by simp[stp,pX,aJi]
 | n+1,x=>by
  obtain⟨h1,h2⟩:=aWc n (x / 256);obtain⟨q1,b,c,a⟩:=cJa ⟨x % 256,by omega⟩;simp only at q1 b c a;have d:stp 2 85 (n+1) x / 256=stp 2 85 n (x / 256):=(by rw[cKf];omega);have e2:stp 2 85 (n+1) x % 256=stb 2 85 (x % 256):=(by rw[cKf];omega);have e:stp 4 51 (n+1) (stp 2 85 (n+1) x)=stp 4 51 n (stp 2 85 n (x / 256))*256+stb 4 51 (stb 2 85 (x % 256)):=(by rw[cWm,d,e2]);rw[e];generalize stp 4 51 n (stp 2 85 n (x / 256))=hi at h1 h2 ⊢;generalize stb 4 51 (stb 2 85 (x % 256))=lo at b c a ⊢;refine⟨by omega,?_⟩;rw[xV (by omega),show((hi*256+lo) / 16+(hi*256+lo)) / 256=hi / 16+hi from by omega,h2,aJi,<-a];rw[show((hi*256+lo) / 16+(hi*256+lo)) % 256 &&& 15=((hi*256+lo) / 16+(hi*256+lo)) % 256 % 16 from AJ _ 4];omega
theorem cWn(a c1 b c d f y:Nat)(b0:a<=8)(b1:c1<=8)(b2:b<=8)(t1:c=d*256+c1)(t2:d=f*256+b)(hy:y=c*256+a):y+y / 256=(d+f)*65536+((c1+b)*256+(a+c1)):=by
 have e:y / 256=c:=(by omega);omega
theorem cWo(h c1 a b c i d f j g:Nat)(b0:h<=8)(b1:c1<=8)(b2:a<=8)(b3:b<=8)(b4:c<=8)(t2:i=d*256+a)(t3:d=f*256+b)(t4:f=j*256+c)(hy:g=(i+d)*65536+((c1+a)*256+(h+c1))):
  g+g / 65536=(f+j)*4294967296+(f+j)*65536+(((b+c)*256+(a+b))*65536+((b+c)*256+(a+b))+((c1+a)*256+(h+c1))):=by
 have e:g / 65536=i+d:=(by omega);omega
theorem cVm(d a e f b c g:Nat)(t4:f=b*256+d)(t5:b=c*256+a)(t6:c=g*256+e):(f+b)*65536=(c+g)*4294967296+((a+e)*256+(d+a))*65536:=by omega
theorem cVn(e f g c a b d:Nat)(b4:e<=8)(b5:f<=8)(b6:g<=8)(h:c=a*256+e)(i:a=b*256+f)(j:b=d*256+g)(b7:d<=8):(c+a+b+d) % 128=e+f+g+d/\c+a+b+d<4294967295:=by
 have h6:b % 256=g:=(by omega);have h5:a % 256=f:=(by omega);have h4:c % 256=e:=(by omega);have g6:b<=2056:=(by omega);have g5:a<=526344:=(by omega);have g4:c<=134744072:=(by omega);clear h i j;omega
theorem cVo(V L a m v:Nat)(h2:a=V*4294967296+L)(aa:L<4294967296)(ad:L % 128=m)(ae:V % 128=v)(hm:m+v<128)(af:V<4294967295):(a+a / 4294967296) % 128=m+v/\a+a / 4294967296<18446744073709551616:=by
 have e:a / 4294967296=V:=(by omega);rw[e];omega
theorem cVp(a b c d:Nat)(ha:a<=32)(hb:b<=32)(hc:c<=32)(hd:d<=32):(d*16777216+c*65536+b*256+a) % 128=a/\d*16777216+c*65536+b*256+a<4294967296:=by omega
theorem cWp(f c1 c a b d e n k o g l:Nat)(D:f<=8)(E:c1<=8)(F:c<=8)(G:a<=8)(p:b<=8)(q:d<=8)(r:e<=8)(h:n=k*256+b)(i:k=o*256+d)(j:o=g*256+e)(s:g<=8)
  (m:l=(n+k)*4294967296+(n+k)*65536+(((a+b)*256+(c+a))*65536+((a+b)*256+(c+a))+((c1+c)*256+(f+c1)))) :
  (l+l / 4294967296) % 128=f+c1+c+a+b+d+e+g/\l+l / 4294967296<18446744073709551616:=by
 have t:f+c1+c+a+(b+d+e+g)<128:=(by clear m h i j;omega);have u:f+c1+c+a<=32:=(by clear m h i j;omega);have v:c1+c+a+b<=32:=(by clear m h i j;omega);have w:c+a+b+d<=32:=(by clear m h i j;omega);have x:a+b+d+e<=32:=(by clear m h i j;omega);have y:=cVm b d e n k o g h i j;obtain⟨z,A⟩:=cVn b d e n k o g p q r h i j s;obtain⟨B,C⟩:=cVp (f+c1+c+a) (c1+c+a+b) (c+a+b+d) (a+b+d+e) u v w x
 have h2:l=(n+k+o+g)*4294967296+((a+b+d+e)*16777216+(c+a+b+d)*65536+(c1+c+a+b)*256+(f+c1+c+a)):=by
  rw[m,y];clear y m z A B C h i j D E F G p q r s t u v w x;omega
 have:=cVo _ _ l _ _ h2 C B z t A;rw[show f+c1+c+a+b+d+e+g=f+c1+c+a+(b+d+e+g)from by simp only[Af]];exact this
theorem cWq(a c1 b d e f g h:Nat)(j:a<=8)(k:c1<=8)(l:b<=8)(m:d<=8)(n:e<=8)(o:f<=8)(p:g<=8)(q:h<=8)(y i c:Nat)(r:y=((((((h*256+g)*256+f)*256+e)*256+d)*256+b)*256+c1)*256+a)
  (h1:i=y+y / 256) (h2:c=i+i / 65536):(c+c / 4294967296) % 128=a+c1+b+d+e+f+g+h/\c+c / 4294967296<18446744073709551616:=by
 have s:=h1.trans (cWn a c1 b _ _ _ y j k l rfl rfl r);have e2:=h2.trans (cWo a c1 b d e _ _ _ _ i j k l m n rfl rfl rfl s);exact cWp a c1 b d e f g _ _ _ h c j k l m n o p rfl rfl rfl q e2
theorem bXu(z:Nat):popAux 8 (z % 256)=popAux 8 z:=aKj 8 z
theorem cVq(x:Nat):popAux 64 x=popAux 8 (x % 256)+popAux 8 (x / 256 % 256)+popAux 8 (x / 65536 % 256)+popAux 8 (x / 16777216 % 256)+popAux 8 (x / 4294967296 % 256)+popAux 8 (x / 1099511627776 % 256)+popAux 8 (x / 281474976710656 % 256)+popAux 8 (x / 72057594037927936 % 256):=by
 rw[show(64:Nat)=8+(8+(8+(8+(8+(8+(8+8))))))from rfl];simp only[vJ,AK,bXu,<-Af,Bz,Ag]
theorem cVr(x:Nat):popAux 32 x=popAux 8 (x % 256)+popAux 8 (x / 256 % 256)+popAux 8 (x / 65536 % 256)+popAux 8 (x / 16777216 % 256):=by
 rw[show(32:Nat)=8+(8+(8+8))from rfl];simp only[vJ,AK,bXu,<-Af,Bz,Ag]
theorem cXf(x y b a:Nat)(c:y=aJi 8 x)(h1:b=y+y / 256)(h2:a=b+b / 65536):(a+a / 4294967296) % 128=popAux 64 x/\a+a / 4294967296<18446744073709551616:=by
 rw[cVq];refine cWq _ _ _ _ _ _ _ _ (gK 8 _) (gK 8 _) (gK 8 _) (gK 8 _) (gK 8 _) (gK 8 _) (gK 8 _) (gK 8 _) y b a ?_ h1 h2;rw[c];simp only[aJi,AK,Ag,Nat.zero_mul,Nat.zero_add]
end
def Tabs(w:BJ):Prop:=TabAt 0 Lib.deBruijn64tab w/\TabAt 1 Lib.deBruijn32tab w/\2<=w.heap.size
theorem aVz{g:Nat}{l:List Nat}{w':BJ}{B:Nat}(h:TabAt g l w)(a:BQ B w w')(b:g<B):TabAt g l w':=fun j c=>(a.cell (p:=⟨g,j,none⟩) b).trans (h j c)
theorem Tabs.below{w':BJ}{B:Nat}(h:Tabs w)(a:BQ B w w')(hB:2<=B):Tabs w':=⟨aVz h.1 a (by omega),aVz h.2.1 a (by omega),Nat.le_trans h.2.2 a.size⟩
theorem bVz(x k idx:Nat)(w:BJ)(aa:((x:Int) == 0)=false)(key:IntKind.u64.wrap (bits BinOp.and IntKind.u64 (x:Int) (IntKind.u64.wrap (-(x:Int)))*285870213051353865) / 288230376151711744=(idx:Int))(hi:idx<64)(hk:k<64)(hcell:w.cell? ⟨0,idx,none⟩=some (.int .u8 k)):
  BX cZ 87 #[.int .u64 x] w fun e w'=>e = .returned (.int .i64 k)/\w=w':=by
 go_in;go_wp2_with (simp only[key]);go_ret;exact⟨rfl,rfl⟩
theorem bWa(w:BJ):BX cZ 87 #[.int .u64 0] w fun e w'=>e = .returned (.int .i64 64)/\w=w':=by
 go_in;go_wp2;go_ret;exact⟨rfl,rfl⟩
theorem cQw(x:Nat)(b:x<18446744073709551616)(w:BJ)(d:Tabs w):BX cZ 87 #[.int .u64 x] w fun e w'=>e = .returned (.int .i64 (Lib.ctz 64 x))/\w=w':=by
 by_cases a:x=0
 ·subst a;exact bWa w
 ·obtain⟨f,c⟩:=Lib.lowest_bit 64 x a b;obtain⟨hi,g⟩:=Lib.deBruijn64_at _ c;have hcell:=d.1 _ hi;rw[g]at hcell;exact bVz x _ _ w (by simp;omega) (tz64_key x _ b a f) hi c hcell
theorem bWb(x k idx:Nat)(w:BJ)(aa:((x:Int) == 0)=false)(key:bits BinOp.and IntKind.u32 (x:Int) (-(x:Int) % 4294967296)*125613361 % 4294967296 / 134217728=(idx:Int))(hi:idx<32)(hk:k<32)(hcell:w.cell? ⟨1,idx,none⟩=some (.int .u8 k)):
  BX cZ 90 #[.int .u32 x] w fun e w'=>e = .returned (.int .i64 k)/\w=w':=by
 go_in;go_wp2_with (simp only[key]);go_ret;exact⟨rfl,rfl⟩
theorem bWc(w:BJ):BX cZ 90 #[.int .u32 0] w fun e w'=>e = .returned (.int .i64 32)/\w=w':=by
 go_in;go_wp2;go_ret;exact⟨rfl,rfl⟩
theorem cQx(x:Nat)(b:x<4294967296)(w:BJ)(d:Tabs w):BX cZ 90 #[.int .u32 x] w fun e w'=>e = .returned (.int .i64 (Lib.ctz 32 x))/\w=w':=by
 by_cases a:x=0
 ·subst a;exact bWc w
 ·obtain⟨f,c⟩:=Lib.lowest_bit 32 x a b;obtain⟨hi,g⟩:=Lib.deBruijn32_at _ c;have hcell:=d.2.1 _ hi;rw[g]at hcell;exact bWb x _ _ w (by simp;omega) (tz32_key x _ b a f) hi c hcell
theorem m0:pX 85 8=6148914691236517205:=by decide
theorem m1:pX 51 8=3689348814741910323:=by decide
theorem m2:pX 15 8=1085102592571150095:=by decide
theorem bWd(x d m p:Nat)(a:x<18446744073709551616)(b:m<18446744073709551616)(h:x / d &&& m=p):bits .and .u64 ((x:Int) / (d:Int)) (m:Int)=(p:Int):=by
 rw[<-h,show(x:Int) / (d:Int)=((x / d:Nat):Int)from by simp];exact bits_and_u64_nat (x / d) m (Nat.lt_of_le_of_lt (Ad _ _) a) b
theorem cZs(x m p:Nat)(hx:x<=7378697629483820646)(a:m<18446744073709551616)(h:(x / 16+x) &&& m=p):bits .and .u64 ((x:Int) / 16+(x:Int)) (m:Int)=(p:Int):=by
 rw[<-h,show(x:Int) / 16+(x:Int)=((x / 16+x:Nat):Int)from by simp];exact bits_and_u64_nat (x / 16+x) m (by omega) a
theorem cKc(a p:Nat)(h:(a+a / 4294967296) % 128=p):bits .and .i64 ((a:Int)+(a:Int) / 4294967296) 127=(p:Int):=by rw[i64_and127];omega
theorem cWj(x3 a:Nat)(b:x3<=1085102592571150095)(h:x3+x3 / 256=a):a<=1090000000000000000:=by omega
theorem cVf(x3 a:Nat)(b:x3<=1090000000000000000)(h:x3+x3 / 65536=a):a<=1100000000000000000:=by omega
theorem cQy(x:Nat)(m:x<18446744073709551616)(w:BJ):BX cZ 88 #[.int .u64 x] w fun e w'=>e = .returned (.int .i64 (Lib.popAux 64 x))/\w=w':=by
 have hle:=gK 64 x;obtain⟨p1,c⟩:∃ p,x / 2 &&& 6148914691236517205=p:=⟨_,rfl⟩;obtain⟨q1,d⟩:∃ p,x &&& 6148914691236517205=p:=⟨_,rfl⟩;have n:p1<=6148914691236517205:=(by rw[<-c];exact AW);have o:q1<=6148914691236517205:=(by rw[<-d];exact AW);obtain⟨x1,f⟩:∃ y,p1+q1=y:=⟨_,rfl⟩;obtain⟨p2,g⟩:∃ p,x1 / 4 &&& 3689348814741910323=p:=⟨_,rfl⟩;obtain⟨h,i⟩:∃ p,x1 &&& 3689348814741910323=p:=⟨_,rfl⟩;have q:p2<=3689348814741910323:=(by rw[<-g];exact AW);have r:h<=3689348814741910323:=(by rw[<-i];exact AW);obtain⟨x2,j⟩:∃ y,p2+h=y:=⟨_,rfl⟩;obtain⟨x3,k⟩:∃ y,(x2 / 16+x2) &&& 1085102592571150095=y:=⟨_,rfl⟩;have s:x3<=1085102592571150095:=(by rw[<-k];exact AW);obtain⟨a,hy1⟩:∃ y,x3+x3 / 256=y:=⟨_,rfl⟩;obtain⟨b,l⟩:∃ y,a+a / 65536=y:=⟨_,rfl⟩
 have hc:x3=aJi 8 x:=by
  have:=(aWc 8 x).2;unfold stp at this;rw[m0,m1,m2,c,d,f,g,i,j,k]at this;exact this
 obtain⟨hs,hb⟩:=cXf x x3 a b hc hy1.symm l.symm;have b1:x1<=12297829382473034410:=(by rw[<-f];exact Bx n o);have t:x2<=7378697629483820646:=(by rw[<-j];exact Bx q r);have e1:bits .and .u64 ((x:Int) / 2) 6148914691236517205=(p1:Int):=bWd x 2 6148914691236517205 p1 m (by decide) c;have e2:bits .and .u64 (x:Int) 6148914691236517205=(q1:Int):=(by rw[<-d];exact bits_and_u64_nat x 6148914691236517205 m (by decide));have e3:(p1:Int)+(q1:Int)=(x1:Int):=(by rw[<-f,Bq]);have e4:bits .and .u64 ((x1:Int) / 4) 3689348814741910323=(p2:Int):=bWd x1 4 3689348814741910323 p2 (by omega) (by decide) g;have e5:bits .and .u64 (x1:Int) 3689348814741910323=(h:Int):=(by rw[<-i];exact bits_and_u64_nat x1 3689348814741910323 (by omega) (by decide));have e6:(p2:Int)+(h:Int)=(x2:Int):=(by rw[<-j,Bq]);have e7:bits .and .u64 ((x2:Int) / 16+(x2:Int)) 1085102592571150095=(x3:Int):=cZs x2 1085102592571150095 x3 t (by decide) k;have c3:(x3:Int)+(x3:Int) / 256=(a:Int):=(by rw[<-hy1];simp);have c4:(a:Int)+(a:Int) / 65536=(b:Int):=(by rw[<-l];simp);have e8:=cKc b _ hs;have u:a<=1090000000000000000:=cWj x3 a s hy1;have b4:b<=1100000000000000000:=cVf a b u l;generalize Lib.popAux 64 x=pc at *;clear c d f g i j k hy1 l hc hs;go_in;go_wp2;go_ret;exact⟨rfl,rfl⟩
theorem cZt{k:IntKind}{a b:Int}(h:a=b):Ending.returned (.int k a) = .returned (.int k b):=by rw[h]
theorem cWk(a c1 b c:Nat):(c:Int)+b+c1+a=((a+c1+b+c:Nat):Int):=by omega
theorem aYv(x p:Nat)(a:x<4294967296)(h:x % 256=p):bits .and .u32 (x:Int) 255=(p:Int):=by
 rw[<-h,show(255:Int)=((2 ^ 8 - 1:Nat):Int)from rfl,bits_and_u32_nat x (2 ^ 8 - 1) a (by decide),AJ]
theorem cVg(b:Nat)(a:b<256):Lib.pop8 (b:Int)=(Lib.popAux 8 b:Int):=by
 have:=Lib.pop8_eq ⟨b,a⟩;simp only[Lib.onesCount]at this;rw[this,show(64:Nat)=8+56 from rfl,bWx (by omega)]
theorem aWq(b:Nat)(c:b<256)(a:b<Lib.pop8tab.size):(Lib.pop8tab[b]'(a)).toNat=Lib.popAux 8 b:=by
 have:=cVg b c;unfold Lib.pop8 at this;rw[AY,ByteArray.getElem?_lt' _ _ a,Option.getD_some]at this;omega
theorem cQz(x:Nat)(o:x<4294967296)(w:BJ):BX cZ 91 #[.int .u32 x] w fun e w'=>e = .returned (.int .i64 (Lib.popAux 32 x))/\w.drew=w':=by
 have hp:=cVr x;obtain⟨a,g⟩:∃ b,x % 256=b:=⟨_,rfl⟩;obtain⟨c,h1⟩:∃ b,x / 256 % 256=b:=⟨_,rfl⟩;obtain⟨d,h2⟩:∃ b,x / 65536 % 256=b:=⟨_,rfl⟩;obtain⟨f,h⟩:∃ b,x / 16777216 % 256=b:=⟨_,rfl⟩;have i:a<256:=(by omega);have j:c<256:=(by omega);have k:d<256:=(by omega);have l3:f<256:=(by omega);rw[g,h1,h2,h]at hp;have e3:(x:Int) / 16777216=(f:Int):=(by omega);have e2:bits .and .u32 ((x:Int) / 65536) 255=(d:Int):=(by rw[show(x:Int) / 65536=((x / 65536:Nat):Int)from by simp];exact aYv _ _ (by omega) h2);have e1:bits .and .u32 ((x:Int) / 256) 255=(c:Int):=(by rw[show(x:Int) / 256=((x / 256:Nat):Int)from by simp];exact aYv _ _ (by omega) h1);have e0:bits .and .u32 (x:Int) 255=(a:Int):=aYv _ _ o g;have p:a<Lib.pop8tab.size:=(by rw[Lib.pop8tab_size];exact i);have p0:=aWq a i p;have q:c<Lib.pop8tab.size:=(by rw[Lib.pop8tab_size];exact j);have p1:=aWq c j q;have r:d<Lib.pop8tab.size:=(by rw[Lib.pop8tab_size];exact k);have p2:=aWq d k r;have s:f<Lib.pop8tab.size:=(by rw[Lib.pop8tab_size];exact l3);have p3:=aWq f l3 s;have m0:=gK 8 a;have m1:=gK 8 c;have m2:=gK 8 d;have m3:=gK 8 f;generalize Lib.popAux 8 a=l at *;generalize Lib.popAux 8 c=c1 at *;generalize Lib.popAux 8 d=m at *;generalize Lib.popAux 8 f=n at *;have t:=cQ (show(n:Int)+m+c1+l=(Lib.popAux 32 x:Int) by rw[hp];exact cWk l c1 m n);clear hp g h1 h2 h;go_in;go_wp2_with fail;go_region;go_wp2;go_ret;exact⟨cZt t.out,rfl⟩
theorem aXr:∀ f x,Lib.bitLenAux f x<=f
 | 0,_=>Aq _
 | f+1,x=>by
  rw[Lib.bitLenAux];have:=aXr f (x / 2)
  split <;> omega
def aKz(W x:Nat)(w:BJ)(e:Ending)(w':BJ):Prop:=
 ∃ g,e = .returned (.slice (some ⟨g,0,none⟩) 3 3)/\w.heap.size<=g/\Blk w' g 3 ((xK W x).map (Ai .i64)).toArray/\BQ w.heap.size w w'
theorem cXa(x:Nat)(a:x<18446744073709551616)(w:BJ)(b:Tabs w):BX cZ 77 #[.int .u64 x,.bool true] w (aKz 64 x w):=by
 have d:=cQ b;clear b;go_in;go_wp2_with fail;refine(Tryd.bits_LeadingZeros64 x _ (by omega) (by omega)).mono ?_;rintro e c ⟨rfl,rfl⟩;rw[AY];go_wp2_with fail;refine(cQw x a _ d.out).mono ?_;rintro e c ⟨rfl,rfl⟩;go_wp2_with fail;refine(cQy x a _).mono ?_;rintro e c ⟨rfl,rfl⟩;go_wp2;go_ret;exact⟨_,rfl,Aq _,Blk.new _ _ _,(Az _ _).alloc (Aq _) _⟩
theorem cXb(x:Nat)(a:x<4294967296)(w:BJ)(b:Tabs w):BX cZ 77 #[.int .u64 x,.bool false] w (aKz 32 x w):=by
 have d:=cQ b;clear b;go_in;go_wp2_with fail;refine(Tryd.bits_LeadingZeros32 x _ (by omega) (by omega)).mono ?_;rintro e c ⟨rfl,rfl⟩;rw[AY];go_wp2_with fail;refine(cQx x a _ d.out).mono ?_;rintro e c ⟨rfl,rfl⟩;go_wp2_with fail;refine(cQz x a _).mono ?_;rintro e c ⟨rfl,rfl⟩;go_wp2;go_ret;exact⟨_,rfl,Aq _,(Blk.new _ _ _).drew,((Az _ _).alloc (Aq _) _).drew⟩
theorem cZn(a b o n c x:Nat)(w:BJ)(hc:w.cell? ⟨a,0,none⟩=some (.slice (some ⟨b,o,none⟩) n c))(h0:w.cell? ⟨b,o,none⟩=some (.int .u64 x))(hn:1<=n):
  BX cZ 74 #[.pointer (some ⟨a,0,none⟩)] w fun e w'=>e = .returned (.int .u64 (b01 ((x:Int) == 0)))/\w=w':=by
 obtain⟨y,d⟩:=cX (((x:Int) == 0));rw[d];have aa:0<n:=(by omega);go_in;go_wp2_with fail;refine(aKn y _).mono ?_;rintro e w1 ⟨rfl,rfl⟩;go_wp2;go_ret;exact⟨rfl,rfl⟩
theorem cZo(a b o n c x:Nat)(w:BJ)(hc:w.cell? ⟨a,0,none⟩=some (.slice (some ⟨b,o,none⟩) n c))(h0:w.cell? ⟨b,o,none⟩=some (.int .u64 x))(hn:1<=n):
  BX cZ 78 #[.pointer (some ⟨a,0,none⟩)] w fun e w'=>e = .returned (.int .u64 ((x:Int) % 4294967296))/\w=w':=by
 have aa:0<n:=(by omega);go_in;go_wp2;go_ret;exact⟨rfl,rfl⟩
theorem cKz(q:(out == 127)=true):pQ 0 out x=wrap64 (IntKind.i8.wrap x) % 4294967296:=by rw[pQ,if_pos (eq_of_beq q),aXt,if_pos rfl]
theorem cVa(q:(out == 127)=false):pQ 0 out x=IntKind.u64.wrap (wrap64 (IntKind.i8.wrap x)):=by rw[pQ,if_neg (ne_of_beq_false q),aXt,if_pos rfl]
theorem cVb(q:(out == 127)=true):pQ 1 out x=wrap64 (IntKind.i16.wrap x) % 4294967296:=by rw[pQ,if_pos (eq_of_beq q),aXt,if_neg (by decide),if_pos rfl]
theorem cVc(q:(out == 127)=false):pQ 1 out x=IntKind.u64.wrap (wrap64 (IntKind.i16.wrap x)):=by rw[pQ,if_neg (ne_of_beq_false q),aXt,if_neg (by decide),if_pos rfl]
theorem cVd(q:(out == 127)=true):pQ 2 out x=wrap64 (wrap32 x) % 4294967296:=by rw[pQ,if_pos (eq_of_beq q),aXt,if_neg (by decide),if_neg (by decide)]
theorem cVe(q:(out == 127)=false):pQ 2 out x=IntKind.u64.wrap (wrap64 (wrap32 x)):=by rw[pQ,if_neg (ne_of_beq_false q),aXt,if_neg (by decide),if_neg (by decide)]
theorem cWh:aXs 0 x=IntKind.u64.wrap (wrap64 (wrap32 x)):=by rw[aXs,if_pos rfl]
theorem cWi:aXs 1 x=x:=by rw[aXs,if_neg (by decide)]
theorem cZp(a d b o n c x:Nat)(k:Int)(w:BJ)(hc:w.cell? ⟨a,0,none⟩=some (.slice (some ⟨b,o,none⟩) n c))(h0:w.cell? ⟨b,o,none⟩=some (.int .u64 x))(hn:1<=n)(hk:w.cell? ⟨d,0,none⟩=some (.int .i64 k))(f:k=0\/k=1)
  (l1:a<w.heap.size) (l2:d<w.heap.size) (l3:b<w.heap.size) :
  BX cZ 79 #[.pointer (some ⟨a,0,none⟩),.pointer (some ⟨d,0,none⟩)] w fun e w'=>e = .returned (.int .u64 (aXs k x))/\BQ w.heap.size w w':=by
 have ad:0<n:=(by omega);rcases f with rfl | rfl
 all_goals
  go_in;go_wp2_with fail;go_region;go_wp2;go_ret
  first | rw[cWh] | rw[cWi]
  exact⟨rfl,((Az _ _).alloc (Aq _) _).drew⟩
theorem cZq(d f g b o n c x:Nat)(k out:Int)(w:BJ)(hc:w.cell? ⟨d,0,none⟩=some (.slice (some ⟨b,o,none⟩) n c))(h0:w.cell? ⟨b,o,none⟩=some (.int .u64 x))(hn:1<=n)(hk:w.cell? ⟨f,0,none⟩=some (.int .i64 k))(h:k=0\/k=1\/k=2)
  (ho:w.cell? ⟨g,0,none⟩=some (.int .i64 out)) (l1:d<w.heap.size) (l2:f<w.heap.size) (l3:b<w.heap.size) (l4:g<w.heap.size) :
  BX cZ 80 #[.pointer (some ⟨d,0,none⟩),.pointer (some ⟨f,0,none⟩),.pointer (some ⟨g,0,none⟩)] w fun e w'=>e = .returned (.int .u64 (pQ k out x))/\BQ w.heap.size w w':=by
 have ae:0<n:=(by omega);by_cases a:out=127
 ·have q:(out == 127)=true:=(by simp[a]);clear a;rcases h with rfl | rfl | rfl
  all_goals
   go_in;go_wp2_with fail;go_region;go_wp2;go_ret
   first | rw[cKz q] | rw[cVb q] | rw[cVd q]
   exact⟨rfl,((Az _ _).alloc (Aq _) _).drew⟩
 ·have q:(out == 127)=false:=(by simp[a]);clear a;rcases h with rfl | rfl | rfl
  all_goals
   go_in;go_wp2_with fail;go_region;go_wp2;go_ret
   first | rw[cVa q] | rw[cVc q] | rw[cVe q]
   exact⟨rfl,((Az _ _).alloc (Aq _) _).drew⟩
theorem aXq:∀ (f x n:Nat),x<2 ^ n->Lib.bitLenAux f x<=n
 | 0,x,n,_=>by simp[Lib.bitLenAux]
 | f+1,x,0,h=>by
  have:x=0:=(by simpa using h);simp[Lib.bitLenAux,this]
 | f+1,x,n+1,h=>by
  rw[Lib.bitLenAux];have:=aXq f (x / 2) n (by rw[Ac]at h;omega)
  split <;> omega
theorem bVy(h:x<4294967296):Lib.bitLen x<=32:=aXq 64 x 32 h
theorem cQv{W k g:Nat}{y:Int}(h:(xK W x).getD k 0=y)(hk:k<3)(a:Blk w g 3 ((xK W x).map (Ai .i64)).toArray):w.cell? ⟨g,k,none⟩=some (.int .i64 y):=by
 rw[a.cell k];simp only[AX,AV];rw[Ax (by simp[xK];omega),<-h,Ak,Ax (by simp[xK];omega)];rfl
theorem bXr{W x k:Nat}(a:(W=64/\x<18446744073709551616)\/(W=32/\x<4294967296))(hk:k<3):0<=(xK W x).getD k 0/\(xK W x).getD k 0<=64:=by
 have e:k=0\/k=1\/k=2:=by omega
 have hb:Lib.bitLen x<=W:=by
  rcases a with⟨rfl,_⟩ | ⟨rfl,c⟩
  ·exact aXr 64 x
  ·exact bVy c
 have hc:Lib.ctz W x<=W:=by
  by_cases b:x=0
  ·simp[Lib.ctz,b]
  ·have:=(Lib.lowest_bit W x b (by rcases a with⟨rfl,h⟩ | ⟨rfl,h⟩ <;> exact h)).2;omega
 have hp:=gK W x;have aa:W<=64:=(by rcases a with⟨rfl,_⟩ | ⟨rfl,_⟩ <;> decide);clear a;rcases e with rfl | rfl | rfl
 ·show 0<=(W:Int) - Lib.bitLen x/\(W:Int) - Lib.bitLen x<=64;omega
 ·show 0<=((Lib.ctz W x:Nat):Int)/\((Lib.ctz W x:Nat):Int)<=64;omega
 ·show 0<=((Lib.popAux W x:Nat):Int)/\((Lib.popAux W x:Nat):Int)<=64;omega
theorem cZr(j pg f b o n c x W k:Nat)(a0 b0 c0 d:Int)(w:BJ)(hc:w.cell? ⟨j,0,none⟩=some (.slice (some ⟨b,o,none⟩) n c))(h0:w.cell? ⟨b,o,none⟩=some (.int .u64 x))(hn:1<=n)(z:w.cell? ⟨f,0,none⟩=some (.int .i64 k))(r:k<3)
  (hd:w.cell? ⟨pg,3,none⟩=some (.int .i64 d)) (l1:j<w.heap.size) (A:f<w.heap.size) (l3:b<w.heap.size) (l4:pg<w.heap.size) (s:Tabs w) (l:(d=126/\W=64/\x<18446744073709551616)\/(d=127/\W=32/\x<4294967296)) :
  BX cZ 76 #[.pointer (some ⟨j,0,none⟩),.pointer (some ⟨pg,0,none⟩),.pointer (some ⟨f,0,none⟩)] w fun e w'=>e = .returned (.int .u64 ((xK W x).getD k 0))/\BQ w.heap.size w w':=by
 have ah:0<n:=by omega
 obtain⟨wd,ai,B⟩:∃ wd,(d == 126)=wd/\Hid (∀ a:BJ,Tabs a->BX cZ 77 #[.int .u64 x,.bool wd] a (aKz W x a)):=by
  rcases l with⟨rfl,rfl,m⟩ | ⟨rfl,rfl,m⟩
  ·exact⟨true,rfl,cQ (fun a h=>cXa x m a h)⟩
  ·exact⟨false,rfl,cQ (fun a h=>cXb x m a h)⟩
 have C:=cQ (@bXr W x k (by rcases l with⟨_,h1,h2⟩ | ⟨_,h1,h2⟩;exact .inl ⟨h1,h2⟩;exact .inr ⟨h1,h2⟩) r);have t:=cQ s;clear s l;obtain⟨y,i⟩:=cX ((xK W x).getD k 0);have hy:0<=y/\y<=64:=(by rw[<-i];exact C.out);have aj:IntKind.u64.wrap y=y:=(by rw[IntKind.wrap_u64];omega);rw[i];replace i:=cQ i;go_in;go_wp2_with fail;go_region_with ((go_at_call 77;refine(B.out _ (t.out.below (Az _ _).drew t.out.2.2)).mono ?_;rintro e u ⟨g,rfl,hg,v,q⟩;have ak:u.cell? ⟨g,k,none⟩=some (.int .i64 y):=cQv i.out r v;have al:u.cell? ⟨f,0,none⟩=some (.int .i64 k):=(q.cell (p:=⟨f,0,none⟩) A).trans z;have D:=cQ q;clear q v))
 all_goals
  go_wp2;go_ret;exact⟨rfl,(Az w.heap.size w).drew.trans D.out⟩
def nX(p:Int×Int)(w:BJ)(e:Ending)(w':BJ):Prop:=e = .returned (.tuple #[.int .u64 p.1,.int .i64 p.2])/\BQ w.heap.size w w'
theorem bWe(op:Int)(A:Option Addr)(n c:Nat)(l:List Nat)(w:BJ)(h1 : -9223372036854775808<=op)(h2:op<=9223372036854775807)(hg:fK op=none):
  BX cZ 59 #[.int .i64 op,.slice A n c] w (nX (mZ op l) w):=by
 have g:=cQ (show mZ op l=(0,1) by simp[mZ,hg]);have h:=cQ (show pZ op = .tuple #[.agg #[.int .i64 0,.int .i64 0,.int .i64 0,.int .i64 0],.int .i64 0,.bool false] by simp[pZ,hg]);have i:=cQ (show(fK op).isSome=false by simp[hg]);have j:=cQ (show BQ w.heap.size w (w.alloc (.cells #[.slice A n c] 30))from(Az _ _).alloc (Aq _) _);clear hg;go_in;go_wp2_with fail;refine(sY op _ h1 h2).mono ?_;rintro e w1 ⟨rfl,b⟩;rw[h.out];have a:=cQ (j.out.trans (b.mono (by simp)));clear b;go_wp2_with fail;refine(vV op _ h1 h2).mono ?_;rintro e w2 ⟨A2,c2,rfl,_,d⟩;rw[i.out];have f:=cQ (show BQ w.heap.size w w2 from((a.out.alloc a.out.size _).alloc (by have:=a.out.size;simp;omega) _).trans (d.mono (by have:=a.out.size;simp;omega)));generalize (fW op).length=L;generalize oW op=O;clear d;go_wp2;go_ret2;unfold nX;rw[g.out];exact⟨rfl,f.out.alloc f.out.size _⟩
theorem cXc(op a b c d:Int)(A:Option Addr)(n j:Nat)(l:List Nat)(w:BJ)(h1 : -9223372036854775808<=op)(h2:op<=9223372036854775807)(hg:fK op=some (a,b,c,d))(o:l.length=n)(k:(fW op).length≠n):
  BX cZ 59 #[.int .i64 op,.slice A n j] w (nX (mZ op l) w):=by
 have s:=cQ (show mZ op l=(0,1) by simp[mZ,hg,o,k]);have t:=cQ (show pZ op = .tuple #[.agg #[.int .i64 a,.int .i64 b,.int .i64 c,.int .i64 d],.int .i64 (op - a),.bool true] by simp[pZ,hg,gV]);have u:=cQ (show(fK op).isSome=true by simp[hg]);have v:=cQ (show BQ w.heap.size w (w.alloc (.cells #[.slice A n j] 30))from(Az _ _).alloc (Aq _) _);generalize m:(fW op).length=L at k;replace m:=cQ m;have ak:((L:Int) != (n:Int))=true:=(by simp;omega);clear hg o k;go_in;go_wp2_with fail;refine(sY op _ h1 h2).mono ?_;rintro e f ⟨rfl,h⟩;rw[t.out];have x:w.heap.size<f.heap.size:=(by have:=h.size;simp at this;omega);have q:=h.cell (p:=⟨w.heap.size,0,none⟩) (by simp);simp at q;have i:=cQ (v.out.trans (h.mono (by simp)));clear h;go_wp2_with fail;refine(vV op _ h1 h2).mono ?_;rintro e w2 ⟨A2,c2,rfl,y,g⟩;rw[u.out];have ax:f.heap.size+1+1<=w2.heap.size:=(by have:=g.size;simpa using this);have r:=cQ (show BQ w.heap.size w w2 from((i.out.alloc i.out.size _).alloc (by have:=i.out.size;simp;omega) _).trans (g.mono (by have:=i.out.size;simp;omega)));have ay:w.heap.size<w2.heap.size:=(by omega);have az:f.heap.size<w2.heap.size:=(by omega);have aA:f.heap.size+1<w2.heap.size:=(by omega);have aB:w2.cell? ⟨w.heap.size,0,none⟩=some (.slice A n j):=(g.cell (p:=⟨w.heap.size,0,none⟩) (by simp;omega)).trans (((((Az f.heap.size f).alloc (Aq _) _).alloc (by simp) _).cell (p:=⟨w.heap.size,0,none⟩) x).trans q);have z:=(g.cell (p:=⟨f.heap.size,0,none⟩) (by simp;omega));have B:=(g.cell (p:=⟨f.heap.size,1,none⟩) (by simp;omega));have C:=(g.cell (p:=⟨f.heap.size,2,none⟩) (by simp;omega));have D:=(g.cell (p:=⟨f.heap.size,3,none⟩) (by simp;omega));have E:=(g.cell (p:=⟨f.heap.size+1,0,none⟩) (by simp));simp at z B C D E;rw[m.out];generalize oW op=O;clear g y;go_wp2;go_ret2;unfold nX;rw[s.out];exact⟨rfl,r.out.alloc r.out.size _⟩
def kW(a pg b c:Nat):List (Int×Value):=[(0,Ay (.func 74) #[] #[Aj (some ⟨a,0,none⟩)]),(2,Ay (.func 76) #[] #[Aj (some ⟨a,0,none⟩),Aj (some ⟨pg,0,none⟩),Aj (some ⟨b,0,none⟩)]),(4,Ay (.func 78) #[] #[Aj (some ⟨a,0,none⟩)]),(5,Ay (.func 79) #[] #[Aj (some ⟨a,0,none⟩),Aj (some ⟨b,0,none⟩)]),(6,Ay (.func 80) #[] #[Aj (some ⟨a,0,none⟩),Aj (some ⟨b,0,none⟩),Aj (some ⟨c,0,none⟩)])]
def fL(a pg b c i:Nat):Obj:=lit ((kW a pg b c).take i)
theorem fi0(a pg b c:Nat)(W:BJ):(Instr.mapUpdate 147 (.map (some W.heap.size)) (.int .i64 0) (Ay (.func 74) #[] #[Aj (some ⟨a,0,none⟩)])).run cZ (W.alloc (fL a pg b c 0)) = .ok () (W.alloc (fL a pg b c 1)):=
 dX W 147 3 89 ((kW a pg b c).take 0) 0 _ underlying147 underlying3 (by simp[kW,dW])
theorem fi1(a pg b c:Nat)(W:BJ):(Instr.mapUpdate 147 (.map (some W.heap.size)) (.int .i64 2) (Ay (.func 76) #[] #[Aj (some ⟨a,0,none⟩),Aj (some ⟨pg,0,none⟩),Aj (some ⟨b,0,none⟩)])).run cZ (W.alloc (fL a pg b c 1)) = .ok () (W.alloc (fL a pg b c 2)):=
 dX W 147 3 89 ((kW a pg b c).take 1) 2 _ underlying147 underlying3 (by simp[kW,dW])
theorem fi2(a pg b c:Nat)(W:BJ):(Instr.mapUpdate 147 (.map (some W.heap.size)) (.int .i64 4) (Ay (.func 78) #[] #[Aj (some ⟨a,0,none⟩)])).run cZ (W.alloc (fL a pg b c 2)) = .ok () (W.alloc (fL a pg b c 3)):=
 dX W 147 3 89 ((kW a pg b c).take 2) 4 _ underlying147 underlying3 (by simp[kW,dW])
theorem fi3(a pg b c:Nat)(W:BJ):(Instr.mapUpdate 147 (.map (some W.heap.size)) (.int .i64 5) (Ay (.func 79) #[] #[Aj (some ⟨a,0,none⟩),Aj (some ⟨b,0,none⟩)])).run cZ (W.alloc (fL a pg b c 3)) = .ok () (W.alloc (fL a pg b c 4)):=
 dX W 147 3 89 ((kW a pg b c).take 3) 5 _ underlying147 underlying3 (by simp[kW,dW])
theorem fi4(a pg b c:Nat)(W:BJ):(Instr.mapUpdate 147 (.map (some W.heap.size)) (.int .i64 6) (Ay (.func 80) #[] #[Aj (some ⟨a,0,none⟩),Aj (some ⟨b,0,none⟩),Aj (some ⟨c,0,none⟩)])).run cZ (W.alloc (fL a pg b c 4)) = .ok () (W.alloc (fL a pg b c 5)):=
 dX W 147 3 89 ((kW a pg b c).take 4) 6 _ underlying147 underlying3 (by simp[kW,dW])
theorem aQq(w:BJ):(zeroValue 89).run cZ w = .ok .nilFunc w:=by kernel_rfl
theorem cWl(a pg b c:Nat)(W:BJ):(Instr.lookup 147 (.map (some W.heap.size)) (.int .i64 0) true).run cZ (W.alloc (fL a pg b c 5)) = .ok (.tuple #[Ay (.func 74) #[] #[Aj (some ⟨a,0,none⟩)],.bool true]) (W.alloc (fL a pg b c 5)):=by
 have:=gW (P:=cZ) W 147 3 89 .nilFunc ((kW a pg b c).take 5) 0 underlying147 underlying3 aQq;rw[fL,this];simp[kW,dW]
theorem fk2(a pg b c:Nat)(W:BJ):(Instr.lookup 147 (.map (some W.heap.size)) (.int .i64 2) true).run cZ (W.alloc (fL a pg b c 5)) = .ok (.tuple #[Ay (.func 76) #[] #[Aj (some ⟨a,0,none⟩),Aj (some ⟨pg,0,none⟩),Aj (some ⟨b,0,none⟩)],.bool true]) (W.alloc (fL a pg b c 5)):=by
 have:=gW (P:=cZ) W 147 3 89 .nilFunc ((kW a pg b c).take 5) 2 underlying147 underlying3 aQq;rw[fL,this];simp[kW,dW]
theorem fk4(a pg b c:Nat)(W:BJ):(Instr.lookup 147 (.map (some W.heap.size)) (.int .i64 4) true).run cZ (W.alloc (fL a pg b c 5)) = .ok (.tuple #[Ay (.func 78) #[] #[Aj (some ⟨a,0,none⟩)],.bool true]) (W.alloc (fL a pg b c 5)):=by
 have:=gW (P:=cZ) W 147 3 89 .nilFunc ((kW a pg b c).take 5) 4 underlying147 underlying3 aQq;rw[fL,this];simp[kW,dW]
theorem fk5(a pg b c:Nat)(W:BJ):(Instr.lookup 147 (.map (some W.heap.size)) (.int .i64 5) true).run cZ (W.alloc (fL a pg b c 5)) = .ok (.tuple #[Ay (.func 79) #[] #[Aj (some ⟨a,0,none⟩),Aj (some ⟨b,0,none⟩)],.bool true]) (W.alloc (fL a pg b c 5)):=by
 have:=gW (P:=cZ) W 147 3 89 .nilFunc ((kW a pg b c).take 5) 5 underlying147 underlying3 aQq;rw[fL,this];simp[kW,dW]
theorem fk6(a pg b c:Nat)(W:BJ):(Instr.lookup 147 (.map (some W.heap.size)) (.int .i64 6) true).run cZ (W.alloc (fL a pg b c 5)) = .ok (.tuple #[Ay (.func 80) #[] #[Aj (some ⟨a,0,none⟩),Aj (some ⟨b,0,none⟩),Aj (some ⟨c,0,none⟩)],.bool true]) (W.alloc (fL a pg b c 5)):=by
 have:=gW (P:=cZ) W 147 3 89 .nilFunc ((kW a pg b c).take 5) 6 underlying147 underlying3 aQq;rw[fL,this];simp[kW,dW]
theorem fk1(a pg b c:Nat)(W:BJ):(Instr.lookup 147 (.map (some W.heap.size)) (.int .i64 1) true).run cZ (W.alloc (fL a pg b c 5)) = .ok (.tuple #[.nilFunc,.bool false]) (W.alloc (fL a pg b c 5)):=by
 have:=gW (P:=cZ) W 147 3 89 .nilFunc ((kW a pg b c).take 5) 1 underlying147 underlying3 aQq;rw[fL,this];simp[kW,dW]
theorem fk3(a pg b c:Nat)(W:BJ):(Instr.lookup 147 (.map (some W.heap.size)) (.int .i64 3) true).run cZ (W.alloc (fL a pg b c 5)) = .ok (.tuple #[.nilFunc,.bool false]) (W.alloc (fL a pg b c 5)):=by
 have:=gW (P:=cZ) W 147 3 89 .nilFunc ((kW a pg b c).take 5) 3 underlying147 underlying3 aQq;rw[fL,this];simp[kW,dW]
theorem bXs{op a b c d:Int}(h:fK op=some (a,b,c,d)):(c=0->b=1)/\(c=1->b=10)/\(c=2->b=3)/\(c=3->b=15)/\(c=4->b=1)/\(c=5->b=2)/\(c=6->b<=3):=by
 have e:=List.mem_of_find?_eq_some h;have f:∀ g∈uV,(g.2.2.1=0->g.2.1=1)/\(g.2.2.1=1->g.2.1=10)/\(g.2.2.1=2->g.2.1=3)/\(g.2.2.1=3->g.2.1=15)/\(g.2.2.1=4->g.2.1=1)/\(g.2.2.1=5->g.2.1=2)/\(g.2.2.1=6->g.2.1<=3):=(by decide);exact f _ e
theorem bXt(e f c d:Int)(k a b:Nat)(w:BJ)(hc:(c=1/\k<10)\/(c=3/\k<15))(hd:d=126\/d=127)(ha:kJ d a=true)(n:kJ d b=true)(i:a<18446744073709551616)(j:b<18446744073709551616):
  BX cZ 81 #[.agg #[.int .i64 e,.int .i64 f,.int .i64 c,.int .i64 d],.int .i64 k,.int .u64 a,.int .u64 b] w (lJ (jY c d k a b) w):=by
 rcases hd with rfl | rfl
 ·rcases hc with⟨rfl,g⟩ | ⟨rfl,g⟩
  ·exact bWr e f k a b w g i j
  ·by_cases h:3<=k/\k<=6
   ·exact bWt e f k a b w h.1 h.2 i j
   ·exact bWv e f k a b w (by omega) g i j
 ·have l:a<4294967296:=(by simpa[kJ]using ha);have m:b<4294967296:=(by simpa[kJ]using n);rcases hc with⟨rfl,g⟩ | ⟨rfl,g⟩
  ·exact bWs e f k a b w g l m
  ·by_cases h:3<=k/\k<=6
   ·exact bWu e f k a b w h.1 h.2 l m
   ·exact bWw e f k a b w (by omega) g l m
def cVh(n:Nat)(d:Int)(l:List Nat)(i:Value):Prop:=∃ k:Nat,k<=n/\i = .int .i64 k/\Hid ((l.take k).all (kJ d)=true)
theorem bWf(op a b c d:Int)(A:Option Addr)(n r:Nat)(l:List Nat)(w:BJ)(h1 : -9223372036854775808<=op)(h2:op<=9223372036854775807)(hg:fK op=some (a,b,c,d))(hs:Src w A n (u64V l))(bz:All64 l)(hT:Tabs w)(aN:(fW op).length=n):
  BX cZ 59 #[.int .i64 op,.slice A n r] w (nX (mZ op l) w):=by
 have hl:l.length=n:=(by have:=hs.1;simpa[u64V]using this);have HF:=cQ (show pZ op = .tuple #[.agg #[.int .i64 a,.int .i64 b,.int .i64 c,.int .i64 d],.int .i64 (op - a),.bool true] by simp[pZ,hg,gV]);have HI:=cQ (show(fK op).isSome=true by simp[hg]);have aU:=cQ (show fW op=List.replicate n d by rw[<-aN];simp only[fW,hg];split <;> rfl);have aV:n=1\/n=2:=(by rw[<-aN];simp only[fW,hg];split <;> simp);have Y:1<=n:=(by omega);have bP:n<=2:=(by omega);have bF:=cQ (show BQ w.heap.size w (w.alloc (.cells #[.slice A n r] 30))from(Az _ _).alloc (Aq _) _);obtain⟨ab,g,rfl,bQ⟩:=hs.addr (by omega);have HS:=cQ hs;have aA:=cQ aN;have Z:=cQ hg;have m:=cQ hl;have aW:=cQ hT;have aw:=cQ bz;have bT:((n:Int) != (n:Int))=false:=(by simp);clear hg hl aN hs aV hT bz;go_in;go_wp2_with fail;refine(sY op _ h1 h2).mono ?_;rintro e f ⟨rfl,aO⟩;rw[HF.out];have bG:w.heap.size<f.heap.size:=(by have:=aO.size;simp at this;omega);have aX:=aO.cell (p:=⟨w.heap.size,0,none⟩) (by simp);simp at aX;have aB:=cQ (bF.out.trans (aO.mono (by simp)));clear aO;go_wp2_with fail;refine(vV op _ h1 h2).mono ?_;rintro e w2 ⟨A2,c2,rfl,aY,u⟩;rw[HI.out];have bU:f.heap.size+1+1<=w2.heap.size:=(by have:=u.size;simpa using this);have aZ:=cQ (show BQ w.heap.size w w2 from((aB.out.alloc aB.out.size _).alloc (by have:=aB.out.size;simp;omega) _).trans (u.mono (by have:=aB.out.size;simp;omega)));have bH:w.heap.size<w2.heap.size:=(by omega);have aP:f.heap.size<w2.heap.size:=(by omega);have bI:f.heap.size+1<w2.heap.size:=(by omega);have bB:w2.cell? ⟨w.heap.size,0,none⟩=some (.slice (some ⟨ab,g,none⟩) n r):=(u.cell (p:=⟨w.heap.size,0,none⟩) (by simp;omega)).trans (((((Az f.heap.size f).alloc (Aq _) _).alloc (by simp) _).cell (p:=⟨w.heap.size,0,none⟩) bG).trans aX);have a1:=(u.cell (p:=⟨f.heap.size,0,none⟩) (by simp;omega));have a6:=(u.cell (p:=⟨f.heap.size,1,none⟩) (by simp;omega));have a7:=(u.cell (p:=⟨f.heap.size,2,none⟩) (by simp;omega));have a8:=(u.cell (p:=⟨f.heap.size,3,none⟩) (by simp;omega));have ba:=(u.cell (p:=⟨f.heap.size+1,0,none⟩) (by simp));simp at a1 a6 a7 a8 ba;rw[aA.out];rw[aA.out,aU.out]at aY;generalize HO:oW op=O;replace HO:=cQ HO;have bb:=cQ aY;clear u aY;obtain⟨g2,bV,e,bW,bX,_⟩:=lV bb.out Y;injection e with e1 e2 e3;subst e1;subst e3;have aC:=cQ (aZ.out.alloc aZ.out.size (.cells #[.int .i64 O] 3));have E:BQ w2.heap.size w2 (w2.alloc (.cells #[.int .i64 O] 3)):=(Az _ _).alloc (Aq _) _;have hq:=(E.cell (p:=⟨w.heap.size,0,none⟩) bH).trans bB;have aQ:=(E.cell (p:=⟨f.heap.size,0,none⟩) aP).trans a1;have aR:=(E.cell (p:=⟨f.heap.size,1,none⟩) aP).trans a6;have aS:=(E.cell (p:=⟨f.heap.size,2,none⟩) aP).trans a7;have bc:=(E.cell (p:=⟨f.heap.size,3,none⟩) aP).trans a8;have bd:=(E.cell (p:=⟨f.heap.size+1,0,none⟩) bI).trans ba;have be:(w2.alloc (.cells #[.int .i64 O] 3)).cell? ⟨w2.heap.size,0,none⟩=some (.int .i64 O):=(Blk.new w2 3 #[.int .i64 O]).cell 0;have ax:=cQ (HS.out.below aC.out (Aq _));have aT:=cQ (aW.out.below aC.out aW.out.2.2);have aD:=cQ (cK bb.out E (Aq _))
 have bJ:w2.heap.size<(w2.alloc (.cells #[.int .i64 O] 3)).heap.size:=by simp
 have bC:∀ k,k<n->(w2.alloc (.cells #[.int .i64 O] 3)).cell? ⟨g2,k,none⟩=some (.int .i64 d):=fun k hk=>by
  rw[aD.out.cellAt k (by omega)];simp[cXh,hk]
 have bf:=cQ bC;go_wp2_with fail;clear aX bB a1 a6 a7 a8 ba E aZ bb aD aB HS bC aW;generalize w2.alloc (.cells #[.int .i64 O] 3)=h at *;go_loop [40] (fun i=>cVh n d l i) (fun i=>n+1 - (intOf i).toNat)
 case atStart=>exact⟨0,by omega,rfl,cQ (by simp)⟩
 case round=>
  obtain⟨k,hk,rfl,bg⟩:=hrel;by_cases ay:k<n
  ·have bL:decide ((k:Int)<(n:Int))=true:=(by simpa using ay);have az:=ax.out.at_ ay;simp only[u64V,Ab]at az;have bY:=bf.out k ay;have F:=aw.out _ (AQ (show k<l.length by rw[m.out];exact ay));have bh:=cQ (List.take_succ_eq_append_getElem (show k<l.length by rw[m.out];exact ay));generalize l[k]'(by rw[m.out];exact ay)=x at az F bh
   cases hf:kJ d x with
   | true=>
    have aE:=cQ hf;clear hf;go_wp2_with fail;refine(aZw d x _ F).mono ?_;rintro e o ⟨rfl,rfl⟩;rw[aE.out];go_wp2;exact⟨⟨k+1,by omega,by simp,cQ (by rw[bh.out,Ae,bg.out];simp[aE.out])⟩,by simp[intOf];omega⟩
   | false=>
    have aE:=cQ hf;clear hf;go_wp2_with fail;refine(aZw d x _ F).mono ?_;rintro e o ⟨rfl,rfl⟩;rw[aE.out];go_wp2;go_ret2;unfold nX
    have hV:mZ op l=(0,1):=by
     have af:l.all (kJ d)=false:=by
      rw[<-List.take_append_drop (k+1) l,Ae,bh.out,Ae];simp[aE.out]
     simp[mZ,Z.out,af]
    rw[hV];exact⟨rfl,aC.out⟩
  ·obtain rfl:k=n:=by omega
   have af:l.all (kJ d)=true:=by
    have:=bg.out
    rwa[List.take_of_length_le (by rw[m.out];omega)]at this
   have G:=cQ (show mZ op l=nQ c d (op - a) O l by rw[mZ,Z.out];simp only;rw[if_pos ⟨by rw[aA.out,m.out],af⟩,HO.out]);obtain⟨bM,bj,_,bZ,b0,_,_⟩:=wJ Z.out;obtain⟨Q,H,I,J,R,K,L⟩:=bXs Z.out;obtain⟨q,bk⟩:=Int.eq_ofNat_of_zero_le (show 0<=op - a by omega);have bD:∀ (t:TypeId) (S:BJ),(Instr.makeMap t none).run cZ S = .ok (.map (some S.heap.size)) (S.alloc (fL w.heap.size f.heap.size (f.heap.size+1) w2.heap.size 0)):=fun _ _=>rfl;have i0:=fi0 w.heap.size f.heap.size (f.heap.size+1) w2.heap.size;have i1:=fi1 w.heap.size f.heap.size (f.heap.size+1) w2.heap.size;have i2:=fi2 w.heap.size f.heap.size (f.heap.size+1) w2.heap.size;have i3:=fi3 w.heap.size f.heap.size (f.heap.size+1) w2.heap.size;have i4:=fi4 w.heap.size f.heap.size (f.heap.size+1) w2.heap.size;have T:BQ h.heap.size h (h.alloc (fL w.heap.size f.heap.size (f.heap.size+1) w2.heap.size 5)):=(Az _ _).alloc (Aq _) _;have s:=cQ (aC.out.alloc aC.out.size (fL w.heap.size f.heap.size (f.heap.size+1) w2.heap.size 5));have za:w.heap.size<h.heap.size:=(by omega);have U:f.heap.size<h.heap.size:=(by omega);have zc:f.heap.size+1<h.heap.size:=(by omega);have zd:ab<h.heap.size:=(by omega);have v:=(T.cell (p:=⟨w.heap.size,0,none⟩) za).trans hq;have M:=(T.cell (p:=⟨f.heap.size+1,0,none⟩) zc).trans bd;have qg:=(T.cell (p:=⟨f.heap.size,3,none⟩) U).trans bc;have qo:=(T.cell (p:=⟨w2.heap.size,0,none⟩) bJ).trans be;have bm:=cQ (aT.out.below T aT.out.2.2);have az:=ax.out.at_ (k:=0) (by omega);simp only[u64V,Ab,Bv]at az;have F:=aw.out _ (AQ (show 0<l.length by rw[m.out];omega));have N:=cQ (show l.getD 0 0=l[0]'(by rw[m.out];omega) by rw[Ak,Ax (by rw[m.out];omega)];rfl);have bn:=List.all_eq_true.1 af _ (AQ (show 0<l.length by rw[m.out];omega));generalize l[0]'(by rw[m.out];omega)=x at az F N bn;have B:=(T.cell (p:=⟨ab,g,none⟩) zd).trans az;have aF:w.heap.size<(h.alloc (fL w.heap.size f.heap.size (f.heap.size+1) w2.heap.size 5)).heap.size:=(by simp;omega);have C:f.heap.size<(h.alloc (fL w.heap.size f.heap.size (f.heap.size+1) w2.heap.size 5)).heap.size:=(by simp;omega);have aG:(f.heap.size+1)<(h.alloc (fL w.heap.size f.heap.size (f.heap.size+1) w2.heap.size 5)).heap.size:=(by simp;omega);have V:ab<(h.alloc (fL w.heap.size f.heap.size (f.heap.size+1) w2.heap.size 5)).heap.size:=(by simp;omega);have bN:w2.heap.size<(h.alloc (fL w.heap.size f.heap.size (f.heap.size+1) w2.heap.size 5)).heap.size:=(by simp;omega);have bo:=cQ bn;have aH:=cQ af;rw[bk]at M G;have bE:=cQ bk;have bO:(q:Int)<b:=(by omega);clear bk T af bg bn;rcases bM with rfl | rfl | rfl | rfl | rfl | rfl | rfl
   ·have P:=cWl w.heap.size f.heap.size (f.heap.size+1) w2.heap.size;clear Q H I J R K L;go_wp2_with fail;refine(cZn w.heap.size ab g _ r x _ v B Y).mono ?_;rintro e w5 ⟨rfl,rfl⟩;go_wp2;go_ret2;unfold nX;rw[G.out,nQ,if_pos rfl,N.out];exact⟨rfl,s.out⟩
   ·have P:=fk1 w.heap.size f.heap.size (f.heap.size+1) w2.heap.size;have bp:2<=k:=(by have:=aA.out;rw[fW,Z.out]at this;simp at this;omega);have W:=ax.out.at_ (k:=1) (by omega);simp only[u64V,Ab]at W;have ah:=aw.out _ (AQ (show 1<l.length by rw[m.out];omega));have aI:=cQ (show l.getD 1 0=l[1]'(by rw[m.out];omega) by rw[Ak,Ax (by rw[m.out];omega)];rfl);have X:=List.all_eq_true.1 aH.out _ (AQ (show 1<l.length by rw[m.out];omega));generalize l[1]'(by rw[m.out];omega)=y at W ah aI X;have q1:=((Az h.heap.size h).alloc (Aq _) (fL w.heap.size f.heap.size (f.heap.size+1) w2.heap.size 5)).cell (p:=⟨ab,g+1,none⟩) zd |>.trans W;have aJ:=((Az h.heap.size h).alloc (Aq _) (fL w.heap.size f.heap.size (f.heap.size+1) w2.heap.size 5)).cell (p:=⟨f.heap.size,0,none⟩) U |>.trans aQ;have aK:=((Az h.heap.size h).alloc (Aq _) (fL w.heap.size f.heap.size (f.heap.size+1) w2.heap.size 5)).cell (p:=⟨f.heap.size,1,none⟩) U |>.trans aR;have aL:=((Az h.heap.size h).alloc (Aq _) (fL w.heap.size f.heap.size (f.heap.size+1) w2.heap.size 5)).cell (p:=⟨f.heap.size,2,none⟩) U |>.trans aS;have bq:q<10:=(by have:=H rfl;omega);have br:=cQ (fun S=>bXt a b 1 d q x y S (by omega) bj bo.out X F ah);have bs:0<k:=(by omega);have bt:1<k:=(by omega);have bu:(1:Int)<(k:Int):=(by omega);clear X Q H I J R K L;go_wp2_with fail;generalize h.alloc (fL w.heap.size f.heap.size (f.heap.size+1) w2.heap.size 5)=o at *;have bw:o.cell? ⟨w.heap.size,0,none⟩=some (.slice (some ⟨ab,g,none⟩) k r)/\o.cell? ⟨f.heap.size,0,none⟩=some (.int .i64 a)/\o.cell? ⟨f.heap.size,1,none⟩=some (.int .i64 b)/\o.cell? ⟨f.heap.size,2,none⟩=some (.int .i64 1)/\o.cell? ⟨f.heap.size,3,none⟩=some (.int .i64 d)/\o.cell? ⟨f.heap.size+1,0,none⟩=some (.int .i64 q)/\o.cell? ⟨ab,g,none⟩=some (.int .u64 x)/\o.cell? ⟨ab,g+1,none⟩=some (.int .u64 y):=⟨v,aJ,aK,aL,qg,M,B,q1⟩;clear P bm aT ax bf aQ aR aS bc bd be hq qo i0 i1 i2 i3 i4 bD bE HF HI aU aw;go_region_held3 (fun w'=>w'.cell? ⟨w.heap.size,0,none⟩=some (.slice (some ⟨ab,g,none⟩) k r)/\w'.cell? ⟨f.heap.size,0,none⟩=some (.int .i64 a)/\w'.cell? ⟨f.heap.size,1,none⟩=some (.int .i64 b)/\w'.cell? ⟨f.heap.size,2,none⟩=some (.int .i64 1)/\w'.cell? ⟨f.heap.size,3,none⟩=some (.int .i64 d)/\w'.cell? ⟨f.heap.size+1,0,none⟩=some (.int .i64 q)/\w'.cell? ⟨ab,g,none⟩=some (.int .u64 x)/\w'.cell? ⟨ab,g+1,none⟩=some (.int .u64 y)) (first | exact bw | exact hs5) (first | (go_at_call 81;refine(br.out _).mono ?_;rintro e w5 ⟨rfl,j⟩;have hs5:w5.cell? ⟨w.heap.size,0,none⟩=some (.slice (some ⟨ab,g,none⟩) k r)/\w5.cell? ⟨f.heap.size,0,none⟩=some (.int .i64 a)/\w5.cell? ⟨f.heap.size,1,none⟩=some (.int .i64 b)/\w5.cell? ⟨f.heap.size,2,none⟩=some (.int .i64 1)/\w5.cell? ⟨f.heap.size,3,none⟩=some (.int .i64 d)/\w5.cell? ⟨f.heap.size+1,0,none⟩=some (.int .i64 q)/\w5.cell? ⟨ab,g,none⟩=some (.int .u64 x)/\w5.cell? ⟨ab,g+1,none⟩=some (.int .u64 y):=⟨(j.cell (p:=⟨w.heap.size,0,none⟩) aF).trans v,(j.cell (p:=⟨f.heap.size,0,none⟩) C).trans aJ,(j.cell (p:=⟨f.heap.size,1,none⟩) C).trans aK,(j.cell (p:=⟨f.heap.size,2,none⟩) C).trans aL,(j.cell (p:=⟨f.heap.size,3,none⟩) C).trans qg,(j.cell (p:=⟨f.heap.size+1,0,none⟩) aG).trans M,(j.cell (p:=⟨ab,g,none⟩) V).trans B,(j.cell (p:=⟨ab,g+1,none⟩) V).trans q1⟩;have D:=cQ j;clear j))
    all_goals
     go_wp2;go_ret2;unfold nX;rw[G.out,nQ,if_neg (by decide),if_neg (by decide),if_neg (by decide),if_neg (by decide),if_neg (by decide),N.out,aI.out];exact⟨rfl,s.out.drew.trans (D.out.mono s.out.size)⟩
   ·have P:=fk2 w.heap.size f.heap.size (f.heap.size+1) w2.heap.size
    have hW:(d=126/\(if d=126 then 64 else 32:Nat)=64/\x<18446744073709551616)\/(d=127/\(if d=126 then 64 else 32:Nat)=32/\x<4294967296):=by
     rcases bj with rfl | rfl
     ·exact .inl ⟨rfl,rfl,F⟩
     ·exact .inr ⟨rfl,rfl,by have:=bo.out;simp[kJ]at this;exact this⟩
    have bx:=(cZr w.heap.size f.heap.size (f.heap.size+1) ab g k r x _ q a b 2 d _ v B Y M (by have:=I rfl;omega) qg aF aG V C bm.out hW);obtain⟨z,HZ⟩:∃ z,(xK (if d=126 then 64 else 32) x).getD q 0=z:=⟨_,rfl⟩;rw[HZ]at bx;have aM:=cQ bx;replace HZ:=cQ HZ;clear hW bx;clear Q H I J R K L;go_wp2_with fail;refine aM.out.mono ?_;rintro e w5 ⟨rfl,j⟩;have D:=cQ (s.out.trans (j.mono s.out.size));clear j;go_wp2;go_ret2;unfold nX;rw[G.out,nQ,if_neg (by decide),if_pos rfl,N.out,AY,HZ.out];exact⟨rfl,D.out⟩
   ·have P:=fk3 w.heap.size f.heap.size (f.heap.size+1) w2.heap.size;have bp:2<=k:=(by have:=aA.out;rw[fW,Z.out]at this;simp at this;omega);have W:=ax.out.at_ (k:=1) (by omega);simp only[u64V,Ab]at W;have ah:=aw.out _ (AQ (show 1<l.length by rw[m.out];omega));have aI:=cQ (show l.getD 1 0=l[1]'(by rw[m.out];omega) by rw[Ak,Ax (by rw[m.out];omega)];rfl);have X:=List.all_eq_true.1 aH.out _ (AQ (show 1<l.length by rw[m.out];omega));generalize l[1]'(by rw[m.out];omega)=y at W ah aI X;have q1:=((Az h.heap.size h).alloc (Aq _) (fL w.heap.size f.heap.size (f.heap.size+1) w2.heap.size 5)).cell (p:=⟨ab,g+1,none⟩) zd |>.trans W;have aJ:=((Az h.heap.size h).alloc (Aq _) (fL w.heap.size f.heap.size (f.heap.size+1) w2.heap.size 5)).cell (p:=⟨f.heap.size,0,none⟩) U |>.trans aQ;have aK:=((Az h.heap.size h).alloc (Aq _) (fL w.heap.size f.heap.size (f.heap.size+1) w2.heap.size 5)).cell (p:=⟨f.heap.size,1,none⟩) U |>.trans aR;have aL:=((Az h.heap.size h).alloc (Aq _) (fL w.heap.size f.heap.size (f.heap.size+1) w2.heap.size 5)).cell (p:=⟨f.heap.size,2,none⟩) U |>.trans aS;have bq:q<15:=(by have:=J rfl;omega);have br:=cQ (fun S=>bXt a b 3 d q x y S (by omega) bj bo.out X F ah);have bs:0<k:=(by omega);have bt:1<k:=(by omega);have bu:(1:Int)<(k:Int):=(by omega);clear X Q H I J R K L;go_wp2_with fail;generalize h.alloc (fL w.heap.size f.heap.size (f.heap.size+1) w2.heap.size 5)=o at *;have bw:o.cell? ⟨w.heap.size,0,none⟩=some (.slice (some ⟨ab,g,none⟩) k r)/\o.cell? ⟨f.heap.size,0,none⟩=some (.int .i64 a)/\o.cell? ⟨f.heap.size,1,none⟩=some (.int .i64 b)/\o.cell? ⟨f.heap.size,2,none⟩=some (.int .i64 3)/\o.cell? ⟨f.heap.size,3,none⟩=some (.int .i64 d)/\o.cell? ⟨f.heap.size+1,0,none⟩=some (.int .i64 q)/\o.cell? ⟨ab,g,none⟩=some (.int .u64 x)/\o.cell? ⟨ab,g+1,none⟩=some (.int .u64 y):=⟨v,aJ,aK,aL,qg,M,B,q1⟩;clear P bm aT ax bf aQ aR aS bc bd be hq qo i0 i1 i2 i3 i4 bD bE HF HI aU aw;go_region_held3 (fun w'=>w'.cell? ⟨w.heap.size,0,none⟩=some (.slice (some ⟨ab,g,none⟩) k r)/\w'.cell? ⟨f.heap.size,0,none⟩=some (.int .i64 a)/\w'.cell? ⟨f.heap.size,1,none⟩=some (.int .i64 b)/\w'.cell? ⟨f.heap.size,2,none⟩=some (.int .i64 3)/\w'.cell? ⟨f.heap.size,3,none⟩=some (.int .i64 d)/\w'.cell? ⟨f.heap.size+1,0,none⟩=some (.int .i64 q)/\w'.cell? ⟨ab,g,none⟩=some (.int .u64 x)/\w'.cell? ⟨ab,g+1,none⟩=some (.int .u64 y)) (first | exact bw | exact hs5) (first | (go_at_call 81;refine(br.out _).mono ?_;rintro e w5 ⟨rfl,j⟩;have hs5:w5.cell? ⟨w.heap.size,0,none⟩=some (.slice (some ⟨ab,g,none⟩) k r)/\w5.cell? ⟨f.heap.size,0,none⟩=some (.int .i64 a)/\w5.cell? ⟨f.heap.size,1,none⟩=some (.int .i64 b)/\w5.cell? ⟨f.heap.size,2,none⟩=some (.int .i64 3)/\w5.cell? ⟨f.heap.size,3,none⟩=some (.int .i64 d)/\w5.cell? ⟨f.heap.size+1,0,none⟩=some (.int .i64 q)/\w5.cell? ⟨ab,g,none⟩=some (.int .u64 x)/\w5.cell? ⟨ab,g+1,none⟩=some (.int .u64 y):=⟨(j.cell (p:=⟨w.heap.size,0,none⟩) aF).trans v,(j.cell (p:=⟨f.heap.size,0,none⟩) C).trans aJ,(j.cell (p:=⟨f.heap.size,1,none⟩) C).trans aK,(j.cell (p:=⟨f.heap.size,2,none⟩) C).trans aL,(j.cell (p:=⟨f.heap.size,3,none⟩) C).trans qg,(j.cell (p:=⟨f.heap.size+1,0,none⟩) aG).trans M,(j.cell (p:=⟨ab,g,none⟩) V).trans B,(j.cell (p:=⟨ab,g+1,none⟩) V).trans q1⟩;have D:=cQ j;clear j))
    all_goals
     go_wp2;go_ret2;unfold nX;rw[G.out,nQ,if_neg (by decide),if_neg (by decide),if_neg (by decide),if_neg (by decide),if_neg (by decide),N.out,aI.out];exact⟨rfl,s.out.drew.trans (D.out.mono s.out.size)⟩
   ·have P:=fk4 w.heap.size f.heap.size (f.heap.size+1) w2.heap.size;clear Q H I J R K L;go_wp2_with fail;refine(cZo w.heap.size ab g _ r x _ v B Y).mono ?_;rintro e w5 ⟨rfl,rfl⟩;go_wp2;go_ret2;unfold nX;rw[G.out,nQ,if_neg (by decide),if_neg (by decide),if_pos rfl,N.out];exact⟨rfl,s.out⟩
   ·have P:=fk5 w.heap.size f.heap.size (f.heap.size+1) w2.heap.size;have aM:=cQ (cZp w.heap.size (f.heap.size+1) ab g k r x q _ v B Y M (by have:=K rfl;omega) aF aG V);clear Q H I J R K L;go_wp2_with fail;refine aM.out.mono ?_;rintro e w5 ⟨rfl,j⟩;have D:=cQ (s.out.trans (j.mono s.out.size));clear j;go_wp2;go_ret2;unfold nX;rw[G.out,nQ,if_neg (by decide),if_neg (by decide),if_neg (by decide),if_pos rfl,N.out];exact⟨rfl,D.out⟩
   ·have P:=fk6 w.heap.size f.heap.size (f.heap.size+1) w2.heap.size;have aM:=cQ (cZq w.heap.size (f.heap.size+1) w2.heap.size ab g k r x q O _ v B Y M (by have:=L rfl;omega) qo aF aG V bN);clear Q H I J R K L;go_wp2_with fail;refine aM.out.mono ?_;rintro e w5 ⟨rfl,j⟩;have D:=cQ (s.out.trans (j.mono s.out.size));clear j;go_wp2;go_ret2;unfold nX;rw[G.out,nQ,if_neg (by decide),if_neg (by decide),if_neg (by decide),if_neg (by decide),if_pos rfl,N.out];exact⟨rfl,D.out⟩
theorem cXd(op:Int)(A:Option Addr)(n e:Nat)(l:List Nat)(w:BJ)(h1 : -9223372036854775808<=op)(h2:op<=9223372036854775807)(hs:Src w A n (u64V l))(h:All64 l)(i:Tabs w):
  BX cZ 59 #[.int .i64 op,.slice A n e] w (nX (mZ op l) w):=by
 cases hg:fK op with
 | none=>exact bWe op A n e l w h1 h2 hg
 | some g=>
  obtain⟨a,b,c,d⟩:=g;by_cases f:(fW op).length=n
  ·exact bWf op a b c d A n e l w h1 h2 hg hs h i f
  ·exact cXc op a b c d A n e l w h1 h2 hg (by have:=hs.1;simpa[u64V]using this) f
end Go.Proofs.YtabibkpfgmolkaaDoor

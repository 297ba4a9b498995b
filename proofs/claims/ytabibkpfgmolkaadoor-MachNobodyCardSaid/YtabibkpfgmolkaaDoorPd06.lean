/- Lemmas for the claim, part 6. Conditions: none. -/
import Derived.Test.YtabibkpfgmolkaaDoorPd05
import Derived.Deep.RegionHeld3
import Derived.Shelf.Spec.TrailingZeros
set_option maxRecDepth 100000
set_option maxHeartbeats 16000000
set_option linter.unusedVariables false
set_option linter.unusedSimpArgs false
open Go.Lib renaming hid→cQ
open Go.Proofs.Tryd renaming prog→cZ
open Go.Proofs.Tryd
open Go.RowKit
open Go.Value renaming pointer→Aj,func→Ak,int→Bq
open Nat renaming le_refl→Aq,div_div_eq_div_mul→AQ,and_le_right→AX,and_two_pow_sub_one_eq_mod→AK,pow_succ→AW,div_le_self→AY,add_assoc→Ac,reduceMul→Ad,add_le_add→Ag,reducePow→Ah,mul_comm→Ai,add_zero→Bj
open Go.RowKit.Below renaming refl→Ax
open List renaming getD_eq_getElem?_getD→Az,getElem?_eq_getElem→Av,getElem_mem→Aw,getD_cons_zero→Ay,getD_cons_succ→AJ,getElem_map→AV,all_append→Aa,mem_of_getElem?→Ab
open Int renaming toNat_natCast→AZ,natCast_add→Ae,ediv_nonneg→Af
open Go renaming World→Bx,Calls→Bk
open Go.RowKit renaming Below→Bz
namespace Go.Proofs.YtabibkpfgmolkaaDoor
variable {x:Nat}{out a b d:Int}{l:List Nat}{w:Bx}
section
open Go.Lib
theorem uW:∀ (a b x:Nat),popAux (a+b) x=popAux a x+popAux b (x / 2 ^ a)
 | 0,b,x=>by simp[popAux]
 | a+1,b,x=>by
  rw[show a+1+b=(a+b)+1 from by omega,popAux,popAux,uW a b (x / 2),AQ,AW,Ai 2];omega
theorem aKe:∀ (a x:Nat),popAux a (x % 2 ^ a)=popAux a x
 | 0,x=>rfl
 | a+1,x=>by
  rw[popAux,popAux,<-aKe a (x / 2)];have h1:x % 2 ^ (a+1) % 2=x % 2:=(by rw[AW];exact Nat.mod_mul_left_mod x (2 ^ a) 2);have h2:x % 2 ^ (a+1) / 2=x / 2 % 2 ^ a:=(by rw[AW,Ai];exact Nat.mod_mul_right_div_self x 2 (2 ^ a));rw[h1,h2]
theorem aZm:∀ a,popAux a 0=0
 | 0=>rfl
 | a+1=>by rw[popAux,aZm a]
theorem bWz{a:Nat}(h:x<2 ^ a)(b:Nat):popAux (a+b) x=popAux a x:=by
 rw[uW,Nat.div_eq_of_lt h,aZm,Bj]
theorem gJ:∀ a x,popAux a x<=a
 | 0,_=>Aq _
 | a+1,x=>by rw[popAux];have:=gJ a (x / 2);omega
theorem cZw(x y:Nat):(x &&& y) % 256=x % 256 &&& y % 256:=Nat.and_mod_two_pow (n:=8) ..
theorem cXf(x y:Nat):(x &&& y) / 256=x / 256 &&& y / 256:=Nat.and_div_two_pow (n:=8) ..
def pQ(c:Nat):Nat->Nat
 | 0=>0
 | n+1=>pQ c n*256+c
theorem xQ{c n:Nat}(hc:c<256):x &&& pQ c (n+1)=(x / 256 &&& pQ c n)*256+(x % 256 &&& c):=by
 have h1:=cZw x (pQ c (n+1));have h2:=cXf x (pQ c (n+1));have a:pQ c (n+1) % 256=c:=(by rw[pQ];omega);have b:pQ c (n+1) / 256=pQ c n:=(by rw[pQ];omega);rw[a]at h1;rw[b]at h2;omega
def stp(s c n x:Nat):Nat:=(x / s &&& pQ c n)+(x &&& pQ c n)
def stb(s c b:Nat):Nat:=(b / s &&& c)+(b &&& c)
theorem cVe:∀ (b:Fin 256) (h:Fin 2),(b.val / 2+128*h.val) &&& 85=b.val / 2 &&& 85:=by decide +kernel
theorem cVf:∀ (b:Fin 256) (h:Fin 4),(b.val / 4+64*h.val) &&& 51=b.val / 4 &&& 51:=by decide +kernel
theorem cKa(n x:Nat):stp 2 85 (n+1) x=stp 2 85 n (x / 256)*256+stb 2 85 (x % 256):=by
 have a:=cVe ⟨x % 256,by omega⟩ ⟨x / 256 % 2,by omega⟩;simp only at a;unfold stp stb;rw[xQ (by omega),xQ (by omega),show x / 2 % 256=x % 256 / 2+128*(x / 256 % 2)from by omega,a,show x / 2 / 256=x / 256 / 2 from by omega];omega
theorem cWi(n x:Nat):stp 4 51 (n+1) x=stp 4 51 n (x / 256)*256+stb 4 51 (x % 256):=by
 have a:=cVf ⟨x % 256,by omega⟩ ⟨x / 256 % 4,by omega⟩;simp only at a;unfold stp stb;rw[xQ (by omega),xQ (by omega),show x / 4 % 256=x % 256 / 4+64*(x / 256 % 4)from by omega,a,show x / 4 / 256=x / 256 / 4 from by omega];omega
theorem cZx:∀ b:Fin 256,stb 2 85 b.val<256/\stb 4 51 (stb 2 85 b.val)<=68/\stb 4 51 (stb 2 85 b.val) % 16<=4/\(stb 4 51 (stb 2 85 b.val) / 16+stb 4 51 (stb 2 85 b.val)) % 16=popAux 8 b.val:=by decide +kernel
def aJe:Nat->Nat->Nat
 | 0,_=>0
 | n+1,x=>aJe n (x / 256)*256+popAux 8 (x % 256)
theorem aVy:∀ n x,(stp 4 51 n (stp 2 85 n x)) % 16<=4/\((stp 4 51 n (stp 2 85 n x)) / 16+stp 4 51 n (stp 2 85 n x)) &&& pQ 15 n=aJe n x
 | 0,x=>by simp[stp,pQ,aJe]
 | n+1,x=>by
  obtain⟨h1,h2⟩:=aVy n (x / 256);obtain⟨q1,b,c,a⟩:=cZx ⟨x % 256,by omega⟩;simp only at q1 b c a;have d:stp 2 85 (n+1) x / 256=stp 2 85 n (x / 256):=(by rw[cKa];omega);have e2:stp 2 85 (n+1) x % 256=stb 2 85 (x % 256):=(by rw[cKa];omega);have e:stp 4 51 (n+1) (stp 2 85 (n+1) x)=stp 4 51 n (stp 2 85 n (x / 256))*256+stb 4 51 (stb 2 85 (x % 256)):=(by rw[cWi,d,e2]);rw[e];generalize stp 4 51 n (stp 2 85 n (x / 256))=hi at h1 h2 ⊢;generalize stb 4 51 (stb 2 85 (x % 256))=lo at b c a ⊢;refine⟨by omega,?_⟩;rw[xQ (by omega),show((hi*256+lo) / 16+(hi*256+lo)) / 256=hi / 16+hi from by omega,h2,aJe,<-a];rw[show((hi*256+lo) / 16+(hi*256+lo)) % 256 &&& 15=((hi*256+lo) / 16+(hi*256+lo)) % 256 % 16 from AK _ 4];omega
theorem cWj(a c1 b c d f y:Nat)(b0:a<=8)(b1:c1<=8)(b2:b<=8)(t1:c=d*256+c1)(t2:d=f*256+b)(hy:y=c*256+a):y+y / 256=(d+f)*65536+((c1+b)*256+(a+c1)):=by
 have e:y / 256=c:=(by omega);omega
theorem cWk(h c1 a b c i d f j g:Nat)(b0:h<=8)(b1:c1<=8)(b2:a<=8)(b3:b<=8)(b4:c<=8)(t2:i=d*256+a)(t3:d=f*256+b)(t4:f=j*256+c)(hy:g=(i+d)*65536+((c1+a)*256+(h+c1))):
  g+g / 65536=(f+j)*4294967296+(f+j)*65536+(((b+c)*256+(a+b))*65536+((b+c)*256+(a+b))+((c1+a)*256+(h+c1))):=by
 have e:g / 65536=i+d:=(by omega);omega
theorem cVg(d a e f b c g:Nat)(t4:f=b*256+d)(t5:b=c*256+a)(t6:c=g*256+e):(f+b)*65536=(c+g)*4294967296+((a+e)*256+(d+a))*65536:=by omega
theorem cVh(e f g c a b d:Nat)(b4:e<=8)(b5:f<=8)(b6:g<=8)(h:c=a*256+e)(i:a=b*256+f)(j:b=d*256+g)(b7:d<=8):(c+a+b+d) % 128=e+f+g+d/\c+a+b+d<4294967295:=by
 have h6:b % 256=g:=(by omega);have h5:a % 256=f:=(by omega);have h4:c % 256=e:=(by omega);have g6:b<=2056:=(by omega);have g5:a<=526344:=(by omega);have g4:c<=134744072:=(by omega);clear h i j;omega
theorem cVi(V L a m v:Nat)(h2:a=V*4294967296+L)(aa:L<4294967296)(ad:L % 128=m)(ae:V % 128=v)(hm:m+v<128)(af:V<4294967295):(a+a / 4294967296) % 128=m+v/\a+a / 4294967296<18446744073709551616:=by
 have e:a / 4294967296=V:=(by omega);rw[e];omega
theorem cVj(a b c d:Nat)(ha:a<=32)(hb:b<=32)(hc:c<=32)(hd:d<=32):(d*16777216+c*65536+b*256+a) % 128=a/\d*16777216+c*65536+b*256+a<4294967296:=by omega
theorem cWl(f c1 c a b d e n k o g l:Nat)(D:f<=8)(E:c1<=8)(F:c<=8)(G:a<=8)(p:b<=8)(q:d<=8)(r:e<=8)(h:n=k*256+b)(i:k=o*256+d)(j:o=g*256+e)(s:g<=8)
  (m:l=(n+k)*4294967296+(n+k)*65536+(((a+b)*256+(c+a))*65536+((a+b)*256+(c+a))+((c1+c)*256+(f+c1)))) :
  (l+l / 4294967296) % 128=f+c1+c+a+b+d+e+g/\l+l / 4294967296<18446744073709551616:=by
 have t:f+c1+c+a+(b+d+e+g)<128:=(by clear m h i j;omega);have u:f+c1+c+a<=32:=(by clear m h i j;omega);have v:c1+c+a+b<=32:=(by clear m h i j;omega);have w:c+a+b+d<=32:=(by clear m h i j;omega);have x:a+b+d+e<=32:=(by clear m h i j;omega);have y:=cVg b d e n k o g h i j;obtain⟨z,A⟩:=cVh b d e n k o g p q r h i j s;obtain⟨B,C⟩:=cVj (f+c1+c+a) (c1+c+a+b) (c+a+b+d) (a+b+d+e) u v w x
 have h2:l=(n+k+o+g)*4294967296+((a+b+d+e)*16777216+(c+a+b+d)*65536+(c1+c+a+b)*256+(f+c1+c+a)):=by
  rw[m,y];clear y m z A B C h i j D E F G p q r s t u v w x;omega
 have:=cVi _ _ l _ _ h2 C B z t A;rw[show f+c1+c+a+b+d+e+g=f+c1+c+a+(b+d+e+g)from by simp only[Ac]];exact this
theorem cWm(a c1 b d e f g h:Nat)(j:a<=8)(k:c1<=8)(l:b<=8)(m:d<=8)(n:e<=8)(o:f<=8)(p:g<=8)(q:h<=8)(y i c:Nat)(r:y=((((((h*256+g)*256+f)*256+e)*256+d)*256+b)*256+c1)*256+a)
  (h1:i=y+y / 256) (h2:c=i+i / 65536):(c+c / 4294967296) % 128=a+c1+b+d+e+f+g+h/\c+c / 4294967296<18446744073709551616:=by
 have s:=h1.trans (cWj a c1 b _ _ _ y j k l rfl rfl r);have e2:=h2.trans (cWk a c1 b d e _ _ _ _ i j k l m n rfl rfl rfl s);exact cWl a c1 b d e f g _ _ _ h c j k l m n o p rfl rfl rfl q e2
theorem bXw(z:Nat):popAux 8 (z % 256)=popAux 8 z:=aKe 8 z
theorem cVk(x:Nat):popAux 64 x=popAux 8 (x % 256)+popAux 8 (x / 256 % 256)+popAux 8 (x / 65536 % 256)+popAux 8 (x / 16777216 % 256)+popAux 8 (x / 4294967296 % 256)+popAux 8 (x / 1099511627776 % 256)+popAux 8 (x / 281474976710656 % 256)+popAux 8 (x / 72057594037927936 % 256):=by
 rw[show(64:Nat)=8+(8+(8+(8+(8+(8+(8+8))))))from rfl];simp only[uW,AQ,bXw,<-Ac,Ah,Ad]
theorem cVl(x:Nat):popAux 32 x=popAux 8 (x % 256)+popAux 8 (x / 256 % 256)+popAux 8 (x / 65536 % 256)+popAux 8 (x / 16777216 % 256):=by
 rw[show(32:Nat)=8+(8+(8+8))from rfl];simp only[uW,AQ,bXw,<-Ac,Ah,Ad]
theorem cXg(x y b a:Nat)(c:y=aJe 8 x)(h1:b=y+y / 256)(h2:a=b+b / 65536):(a+a / 4294967296) % 128=popAux 64 x/\a+a / 4294967296<18446744073709551616:=by
 rw[cVk];refine cWm _ _ _ _ _ _ _ _ (gJ 8 _) (gJ 8 _) (gJ 8 _) (gJ 8 _) (gJ 8 _) (gJ 8 _) (gJ 8 _) (gJ 8 _) y b a ?_ h1 h2;rw[c];simp only[aJe,AQ,Ad,Nat.zero_mul,Nat.zero_add]
end
def Tabs(w:Bx):Prop:=TabAt 0 Lib.deBruijn64tab w/\TabAt 1 Lib.deBruijn32tab w/\2<=w.heap.size
theorem aVv{g:Nat}{w':Bx}{B:Nat}(h:TabAt g l w)(a:Bz B w w')(b:g<B):TabAt g l w':=fun j c=>(a.cell (p:=⟨g,j,none⟩) b).trans (h j c)
theorem Tabs.below{w':Bx}{B:Nat}(h:Tabs w)(a:Bz B w w')(hB:2<=B):Tabs w':=⟨aVv h.1 a (by omega),aVv h.2.1 a (by omega),Nat.le_trans h.2.2 a.size⟩
theorem bWb(x k idx:Nat)(w:Bx)(aa:((x:Int) == 0)=false)(key:IntKind.u64.wrap (bits BinOp.and IntKind.u64 (x:Int) (IntKind.u64.wrap (-(x:Int)))*285870213051353865) / 288230376151711744=(idx:Int))(hi:idx<64)(hk:k<64)(hcell:w.cell? ⟨0,idx,none⟩=some (.int .u8 k)):
  Bk cZ 87 #[.int .u64 x] w fun e w'=>e = .returned (.int .i64 k)/\w=w':=by
 go_in;go_wp2_with (simp only[key]);go_ret;exact⟨rfl,rfl⟩
theorem bWc(w:Bx):Bk cZ 87 #[.int .u64 0] w fun e w'=>e = .returned (.int .i64 64)/\w=w':=by
 go_in;go_wp2;go_ret;exact⟨rfl,rfl⟩
theorem cQx(x:Nat)(b:x<18446744073709551616)(w:Bx)(d:Tabs w):Bk cZ 87 #[.int .u64 x] w fun e w'=>e = .returned (.int .i64 (Lib.ctz 64 x))/\w=w':=by
 by_cases a:x=0
 ·subst a;exact bWc w
 ·obtain⟨f,c⟩:=Lib.lowest_bit 64 x a b;obtain⟨hi,g⟩:=Lib.deBruijn64_at _ c;have hcell:=d.1 _ hi;rw[g]at hcell;exact bWb x _ _ w (by simp;omega) (tz64_key x _ b a f) hi c hcell
theorem bWd(x k idx:Nat)(w:Bx)(aa:((x:Int) == 0)=false)(key:bits BinOp.and IntKind.u32 (x:Int) (-(x:Int) % 4294967296)*125613361 % 4294967296 / 134217728=(idx:Int))(hi:idx<32)(hk:k<32)(hcell:w.cell? ⟨1,idx,none⟩=some (.int .u8 k)):
  Bk cZ 90 #[.int .u32 x] w fun e w'=>e = .returned (.int .i64 k)/\w=w':=by
 go_in;go_wp2_with (simp only[key]);go_ret;exact⟨rfl,rfl⟩
theorem bWe(w:Bx):Bk cZ 90 #[.int .u32 0] w fun e w'=>e = .returned (.int .i64 32)/\w=w':=by
 go_in;go_wp2;go_ret;exact⟨rfl,rfl⟩
theorem cQy(x:Nat)(b:x<4294967296)(w:Bx)(d:Tabs w):Bk cZ 90 #[.int .u32 x] w fun e w'=>e = .returned (.int .i64 (Lib.ctz 32 x))/\w=w':=by
 by_cases a:x=0
 ·subst a;exact bWe w
 ·obtain⟨f,c⟩:=Lib.lowest_bit 32 x a b;obtain⟨hi,g⟩:=Lib.deBruijn32_at _ c;have hcell:=d.2.1 _ hi;rw[g]at hcell;exact bWd x _ _ w (by simp;omega) (tz32_key x _ b a f) hi c hcell
theorem m0:pQ 85 8=6148914691236517205:=by decide
theorem m1:pQ 51 8=3689348814741910323:=by decide
theorem m2:pQ 15 8=1085102592571150095:=by decide
theorem bWf(x d m p:Nat)(a:x<18446744073709551616)(b:m<18446744073709551616)(h:x / d &&& m=p):bits .and .u64 ((x:Int) / (d:Int)) (m:Int)=(p:Int):=by
 rw[<-h,show(x:Int) / (d:Int)=((x / d:Nat):Int)from by simp];exact bits_and_u64_nat (x / d) m (Nat.lt_of_le_of_lt (AY _ _) a) b
theorem cZp(x m p:Nat)(hx:x<=7378697629483820646)(a:m<18446744073709551616)(h:(x / 16+x) &&& m=p):bits .and .u64 ((x:Int) / 16+(x:Int)) (m:Int)=(p:Int):=by
 rw[<-h,show(x:Int) / 16+(x:Int)=((x / 16+x:Nat):Int)from by simp];exact bits_and_u64_nat (x / 16+x) m (by omega) a
theorem cJx(a p:Nat)(h:(a+a / 4294967296) % 128=p):bits .and .i64 ((a:Int)+(a:Int) / 4294967296) 127=(p:Int):=by rw[i64_and127];omega
theorem cWf(x3 a:Nat)(b:x3<=1085102592571150095)(h:x3+x3 / 256=a):a<=1090000000000000000:=by omega
theorem cKz(x3 a:Nat)(b:x3<=1090000000000000000)(h:x3+x3 / 65536=a):a<=1100000000000000000:=by omega
theorem cQz(x:Nat)(m:x<18446744073709551616)(w:Bx):Bk cZ 88 #[.int .u64 x] w fun e w'=>e = .returned (.int .i64 (Lib.popAux 64 x))/\w=w':=by
 have hle:=gJ 64 x;obtain⟨p1,c⟩:∃ p,x / 2 &&& 6148914691236517205=p:=⟨_,rfl⟩;obtain⟨q1,d⟩:∃ p,x &&& 6148914691236517205=p:=⟨_,rfl⟩;have n:p1<=6148914691236517205:=(by rw[<-c];exact AX);have o:q1<=6148914691236517205:=(by rw[<-d];exact AX);obtain⟨x1,f⟩:∃ y,p1+q1=y:=⟨_,rfl⟩;obtain⟨p2,g⟩:∃ p,x1 / 4 &&& 3689348814741910323=p:=⟨_,rfl⟩;obtain⟨h,i⟩:∃ p,x1 &&& 3689348814741910323=p:=⟨_,rfl⟩;have q:p2<=3689348814741910323:=(by rw[<-g];exact AX);have r:h<=3689348814741910323:=(by rw[<-i];exact AX);obtain⟨x2,j⟩:∃ y,p2+h=y:=⟨_,rfl⟩;obtain⟨x3,k⟩:∃ y,(x2 / 16+x2) &&& 1085102592571150095=y:=⟨_,rfl⟩;have s:x3<=1085102592571150095:=(by rw[<-k];exact AX);obtain⟨a,hy1⟩:∃ y,x3+x3 / 256=y:=⟨_,rfl⟩;obtain⟨b,l⟩:∃ y,a+a / 65536=y:=⟨_,rfl⟩
 have hc:x3=aJe 8 x:=by
  have:=(aVy 8 x).2;unfold stp at this;rw[m0,m1,m2,c,d,f,g,i,j,k]at this;exact this
 obtain⟨hs,hb⟩:=cXg x x3 a b hc hy1.symm l.symm;have b1:x1<=12297829382473034410:=(by rw[<-f];exact Ag n o);have t:x2<=7378697629483820646:=(by rw[<-j];exact Ag q r);have e1:bits .and .u64 ((x:Int) / 2) 6148914691236517205=(p1:Int):=bWf x 2 6148914691236517205 p1 m (by decide) c;have e2:bits .and .u64 (x:Int) 6148914691236517205=(q1:Int):=(by rw[<-d];exact bits_and_u64_nat x 6148914691236517205 m (by decide));have e3:(p1:Int)+(q1:Int)=(x1:Int):=(by rw[<-f,Ae]);have e4:bits .and .u64 ((x1:Int) / 4) 3689348814741910323=(p2:Int):=bWf x1 4 3689348814741910323 p2 (by omega) (by decide) g;have e5:bits .and .u64 (x1:Int) 3689348814741910323=(h:Int):=(by rw[<-i];exact bits_and_u64_nat x1 3689348814741910323 (by omega) (by decide));have e6:(p2:Int)+(h:Int)=(x2:Int):=(by rw[<-j,Ae]);have e7:bits .and .u64 ((x2:Int) / 16+(x2:Int)) 1085102592571150095=(x3:Int):=cZp x2 1085102592571150095 x3 t (by decide) k;have c3:(x3:Int)+(x3:Int) / 256=(a:Int):=(by rw[<-hy1];simp);have c4:(a:Int)+(a:Int) / 65536=(b:Int):=(by rw[<-l];simp);have e8:=cJx b _ hs;have u:a<=1090000000000000000:=cWf x3 a s hy1;have b4:b<=1100000000000000000:=cKz a b u l;generalize Lib.popAux 64 x=pc at *;clear c d f g i j k hy1 l hc hs;go_in;go_wp2;go_ret;exact⟨rfl,rfl⟩
theorem cZq{k:IntKind}(h:a=b):Ending.returned (.int k a) = .returned (.int k b):=by rw[h]
theorem cWg(a c1 b c:Nat):(c:Int)+b+c1+a=((a+c1+b+c:Nat):Int):=by omega
theorem aYx(x p:Nat)(a:x<4294967296)(h:x % 256=p):bits .and .u32 (x:Int) 255=(p:Int):=by
 rw[<-h,show(255:Int)=((2 ^ 8 - 1:Nat):Int)from rfl,bits_and_u32_nat x (2 ^ 8 - 1) a (by decide),AK]
theorem cVa(b:Nat)(a:b<256):Lib.pop8 (b:Int)=(Lib.popAux 8 b:Int):=by
 have:=Lib.pop8_eq ⟨b,a⟩;simp only[Lib.onesCount]at this;rw[this,show(64:Nat)=8+56 from rfl,bWz (by omega)]
theorem aWn(b:Nat)(c:b<256)(a:b<Lib.pop8tab.size):(Lib.pop8tab[b]'(a)).toNat=Lib.popAux 8 b:=by
 have:=cVa b c;unfold Lib.pop8 at this;rw[AZ,ByteArray.getElem?_lt' _ _ a,Option.getD_some]at this;omega
theorem cXa(x:Nat)(o:x<4294967296)(w:Bx):Bk cZ 91 #[.int .u32 x] w fun e w'=>e = .returned (.int .i64 (Lib.popAux 32 x))/\w.drew=w':=by
 have hp:=cVl x;obtain⟨a,g⟩:∃ b,x % 256=b:=⟨_,rfl⟩;obtain⟨c,h1⟩:∃ b,x / 256 % 256=b:=⟨_,rfl⟩;obtain⟨d,h2⟩:∃ b,x / 65536 % 256=b:=⟨_,rfl⟩;obtain⟨f,h⟩:∃ b,x / 16777216 % 256=b:=⟨_,rfl⟩;have i:a<256:=(by omega);have j:c<256:=(by omega);have k:d<256:=(by omega);have l3:f<256:=(by omega);rw[g,h1,h2,h]at hp;have e3:(x:Int) / 16777216=(f:Int):=(by omega);have e2:bits .and .u32 ((x:Int) / 65536) 255=(d:Int):=(by rw[show(x:Int) / 65536=((x / 65536:Nat):Int)from by simp];exact aYx _ _ (by omega) h2);have e1:bits .and .u32 ((x:Int) / 256) 255=(c:Int):=(by rw[show(x:Int) / 256=((x / 256:Nat):Int)from by simp];exact aYx _ _ (by omega) h1);have e0:bits .and .u32 (x:Int) 255=(a:Int):=aYx _ _ o g;have p:a<Lib.pop8tab.size:=(by rw[Lib.pop8tab_size];exact i);have p0:=aWn a i p;have q:c<Lib.pop8tab.size:=(by rw[Lib.pop8tab_size];exact j);have p1:=aWn c j q;have r:d<Lib.pop8tab.size:=(by rw[Lib.pop8tab_size];exact k);have p2:=aWn d k r;have s:f<Lib.pop8tab.size:=(by rw[Lib.pop8tab_size];exact l3);have p3:=aWn f l3 s;have m0:=gJ 8 a;have m1:=gJ 8 c;have m2:=gJ 8 d;have m3:=gJ 8 f;generalize Lib.popAux 8 a=l at *;generalize Lib.popAux 8 c=c1 at *;generalize Lib.popAux 8 d=m at *;generalize Lib.popAux 8 f=n at *;have t:=cQ (show(n:Int)+m+c1+l=(Lib.popAux 32 x:Int) by rw[hp];exact cWg l c1 m n);clear hp g h1 h2 h;go_in;go_wp2_with fail;go_region;go_wp2;go_ret;exact⟨cZq t.out,rfl⟩
theorem aXk:∀ f x,Lib.bitLenAux f x<=f
 | 0,_=>Aq _
 | f+1,x=>by
  rw[Lib.bitLenAux];have:=aXk f (x / 2)
  split <;> omega
def aKv(W x:Nat)(w:Bx)(e:Ending)(w':Bx):Prop:=
 ∃ g,e = .returned (.slice (some ⟨g,0,none⟩) 3 3)/\w.heap.size<=g/\Blk w' g 3 ((wY W x).map (Bq .i64)).toArray/\Bz w.heap.size w w'
theorem cXb(x:Nat)(a:x<18446744073709551616)(w:Bx)(b:Tabs w):Bk cZ 77 #[.int .u64 x,.bool true] w (aKv 64 x w):=by
 have d:=cQ b;clear b;go_in;go_wp2_with fail;refine(Tryd.bits_LeadingZeros64 x _ (by omega) (by omega)).mono ?_;rintro e c ⟨rfl,rfl⟩;rw[AZ];go_wp2_with fail;refine(cQx x a _ d.out).mono ?_;rintro e c ⟨rfl,rfl⟩;go_wp2_with fail;refine(cQz x a _).mono ?_;rintro e c ⟨rfl,rfl⟩;go_wp2;go_ret;exact⟨_,rfl,Aq _,Blk.new _ _ _,(Ax _ _).alloc (Aq _) _⟩
theorem cXc(x:Nat)(a:x<4294967296)(w:Bx)(b:Tabs w):Bk cZ 77 #[.int .u64 x,.bool false] w (aKv 32 x w):=by
 have d:=cQ b;clear b;go_in;go_wp2_with fail;refine(Tryd.bits_LeadingZeros32 x _ (by omega) (by omega)).mono ?_;rintro e c ⟨rfl,rfl⟩;rw[AZ];go_wp2_with fail;refine(cQy x a _ d.out).mono ?_;rintro e c ⟨rfl,rfl⟩;go_wp2_with fail;refine(cXa x a _).mono ?_;rintro e c ⟨rfl,rfl⟩;go_wp2;go_ret;exact⟨_,rfl,Aq _,(Blk.new _ _ _).drew,((Ax _ _).alloc (Aq _) _).drew⟩
theorem cZk(a b o n c x:Nat)(w:Bx)(hc:w.cell? ⟨a,0,none⟩=some (.slice (some ⟨b,o,none⟩) n c))(h0:w.cell? ⟨b,o,none⟩=some (.int .u64 x))(hn:1<=n):
  Bk cZ 74 #[.pointer (some ⟨a,0,none⟩)] w fun e w'=>e = .returned (.int .u64 (b01 ((x:Int) == 0)))/\w=w':=by
 obtain⟨y,d⟩:=cX (((x:Int) == 0));rw[d];have aa:0<n:=(by omega);go_in;go_wp2_with fail;refine(aKi y _).mono ?_;rintro e w1 ⟨rfl,rfl⟩;go_wp2;go_ret;exact⟨rfl,rfl⟩
theorem cZl(a b o n c x:Nat)(w:Bx)(hc:w.cell? ⟨a,0,none⟩=some (.slice (some ⟨b,o,none⟩) n c))(h0:w.cell? ⟨b,o,none⟩=some (.int .u64 x))(hn:1<=n):
  Bk cZ 78 #[.pointer (some ⟨a,0,none⟩)] w fun e w'=>e = .returned (.int .u64 ((x:Int) % 4294967296))/\w=w':=by
 have aa:0<n:=(by omega);go_in;go_wp2;go_ret;exact⟨rfl,rfl⟩
theorem cKt(q:(out == 127)=true):oY 0 out x=wrap64 (IntKind.i8.wrap x) % 4294967296:=by rw[oY,if_pos (eq_of_beq q),aXm,if_pos rfl]
theorem cKu(q:(out == 127)=false):oY 0 out x=IntKind.u64.wrap (wrap64 (IntKind.i8.wrap x)):=by rw[oY,if_neg (ne_of_beq_false q),aXm,if_pos rfl]
theorem cKv(q:(out == 127)=true):oY 1 out x=wrap64 (IntKind.i16.wrap x) % 4294967296:=by rw[oY,if_pos (eq_of_beq q),aXm,if_neg (by decide),if_pos rfl]
theorem cKw(q:(out == 127)=false):oY 1 out x=IntKind.u64.wrap (wrap64 (IntKind.i16.wrap x)):=by rw[oY,if_neg (ne_of_beq_false q),aXm,if_neg (by decide),if_pos rfl]
theorem cKx(q:(out == 127)=true):oY 2 out x=wrap64 (wrap32 x) % 4294967296:=by rw[oY,if_pos (eq_of_beq q),aXm,if_neg (by decide),if_neg (by decide)]
theorem cKy(q:(out == 127)=false):oY 2 out x=IntKind.u64.wrap (wrap64 (wrap32 x)):=by rw[oY,if_neg (ne_of_beq_false q),aXm,if_neg (by decide),if_neg (by decide)]
theorem cWd:aXl 0 x=IntKind.u64.wrap (wrap64 (wrap32 x)):=by rw[aXl,if_pos rfl]
theorem cWe:aXl 1 x=x:=by rw[aXl,if_neg (by decide)]
theorem cZm(a d b o n c x:Nat)(k:Int)(w:Bx)(hc:w.cell? ⟨a,0,none⟩=some (.slice (some ⟨b,o,none⟩) n c))(h0:w.cell? ⟨b,o,none⟩=some (.int .u64 x))(hn:1<=n)(hk:w.cell? ⟨d,0,none⟩=some (.int .i64 k))(f:k=0\/k=1)
  (l1:a<w.heap.size) (l2:d<w.heap.size) (l3:b<w.heap.size) :
  Bk cZ 79 #[.pointer (some ⟨a,0,none⟩),.pointer (some ⟨d,0,none⟩)] w fun e w'=>e = .returned (.int .u64 (aXl k x))/\Bz w.heap.size w w':=by
 have ad:0<n:=(by omega);rcases f with rfl | rfl
 all_goals
  go_in;go_wp2_with fail;go_region;go_wp2;go_ret
  first | rw[cWd] | rw[cWe]
  exact⟨rfl,((Ax _ _).alloc (Aq _) _).drew⟩
theorem cZn(d f g b o n c x:Nat)(k out:Int)(w:Bx)(hc:w.cell? ⟨d,0,none⟩=some (.slice (some ⟨b,o,none⟩) n c))(h0:w.cell? ⟨b,o,none⟩=some (.int .u64 x))(hn:1<=n)(hk:w.cell? ⟨f,0,none⟩=some (.int .i64 k))(h:k=0\/k=1\/k=2)
  (ho:w.cell? ⟨g,0,none⟩=some (.int .i64 out)) (l1:d<w.heap.size) (l2:f<w.heap.size) (l3:b<w.heap.size) (l4:g<w.heap.size) :
  Bk cZ 80 #[.pointer (some ⟨d,0,none⟩),.pointer (some ⟨f,0,none⟩),.pointer (some ⟨g,0,none⟩)] w fun e w'=>e = .returned (.int .u64 (oY k out x))/\Bz w.heap.size w w':=by
 have ae:0<n:=(by omega);by_cases a:out=127
 ·have q:(out == 127)=true:=(by simp[a]);clear a;rcases h with rfl | rfl | rfl
  all_goals
   go_in;go_wp2_with fail;go_region;go_wp2;go_ret
   first | rw[cKt q] | rw[cKv q] | rw[cKx q]
   exact⟨rfl,((Ax _ _).alloc (Aq _) _).drew⟩
 ·have q:(out == 127)=false:=(by simp[a]);clear a;rcases h with rfl | rfl | rfl
  all_goals
   go_in;go_wp2_with fail;go_region;go_wp2;go_ret
   first | rw[cKu q] | rw[cKw q] | rw[cKy q]
   exact⟨rfl,((Ax _ _).alloc (Aq _) _).drew⟩
theorem aXj:∀ (f x n:Nat),x<2 ^ n->Lib.bitLenAux f x<=n
 | 0,x,n,_=>by simp[Lib.bitLenAux]
 | f+1,x,0,h=>by
  have:x=0:=(by simpa using h);simp[Lib.bitLenAux,this]
 | f+1,x,n+1,h=>by
  rw[Lib.bitLenAux];have:=aXj f (x / 2) n (by rw[AW]at h;omega)
  split <;> omega
theorem bWa(h:x<4294967296):Lib.bitLen x<=32:=aXj 64 x 32 h
theorem cQw{W k g:Nat}{y:Int}(h:(wY W x).getD k 0=y)(hk:k<3)(a:Blk w g 3 ((wY W x).map (Bq .i64)).toArray):w.cell? ⟨g,k,none⟩=some (.int .i64 y):=by
 rw[a.cell k];simp only[List.getElem?_toArray,List.getElem?_map];rw[Av (by simp[wY];omega),<-h,Az,Av (by simp[wY];omega)];rfl
theorem bXt{W x k:Nat}(a:(W=64/\x<18446744073709551616)\/(W=32/\x<4294967296))(hk:k<3):0<=(wY W x).getD k 0/\(wY W x).getD k 0<=64:=by
 have e:k=0\/k=1\/k=2:=by omega
 have hb:Lib.bitLen x<=W:=by
  rcases a with⟨rfl,_⟩ | ⟨rfl,c⟩
  ·exact aXk 64 x
  ·exact bWa c
 have hc:Lib.ctz W x<=W:=by
  by_cases b:x=0
  ·simp[Lib.ctz,b]
  ·have:=(Lib.lowest_bit W x b (by rcases a with⟨rfl,h⟩ | ⟨rfl,h⟩ <;> exact h)).2;omega
 have hp:=gJ W x;have aa:W<=64:=(by rcases a with⟨rfl,_⟩ | ⟨rfl,_⟩ <;> decide);clear a;rcases e with rfl | rfl | rfl
 ·show 0<=(W:Int) - Lib.bitLen x/\(W:Int) - Lib.bitLen x<=64;omega
 ·show 0<=((Lib.ctz W x:Nat):Int)/\((Lib.ctz W x:Nat):Int)<=64;omega
 ·show 0<=((Lib.popAux W x:Nat):Int)/\((Lib.popAux W x:Nat):Int)<=64;omega
theorem cZo(j pg f b o n c x W k:Nat)(a0 b0 c0 d:Int)(w:Bx)(hc:w.cell? ⟨j,0,none⟩=some (.slice (some ⟨b,o,none⟩) n c))(h0:w.cell? ⟨b,o,none⟩=some (.int .u64 x))(hn:1<=n)(z:w.cell? ⟨f,0,none⟩=some (.int .i64 k))(r:k<3)
  (hd:w.cell? ⟨pg,3,none⟩=some (.int .i64 d)) (l1:j<w.heap.size) (A:f<w.heap.size) (l3:b<w.heap.size) (l4:pg<w.heap.size) (s:Tabs w) (l:(d=126/\W=64/\x<18446744073709551616)\/(d=127/\W=32/\x<4294967296)) :
  Bk cZ 76 #[.pointer (some ⟨j,0,none⟩),.pointer (some ⟨pg,0,none⟩),.pointer (some ⟨f,0,none⟩)] w fun e w'=>e = .returned (.int .u64 ((wY W x).getD k 0))/\Bz w.heap.size w w':=by
 have ah:0<n:=by omega
 obtain⟨wd,ai,B⟩:∃ wd,(d == 126)=wd/\Hid (∀ a:Bx,Tabs a->Bk cZ 77 #[.int .u64 x,.bool wd] a (aKv W x a)):=by
  rcases l with⟨rfl,rfl,m⟩ | ⟨rfl,rfl,m⟩
  ·exact⟨true,rfl,cQ (fun a h=>cXb x m a h)⟩
  ·exact⟨false,rfl,cQ (fun a h=>cXc x m a h)⟩
 have C:=cQ (@bXt W x k (by rcases l with⟨_,h1,h2⟩ | ⟨_,h1,h2⟩;exact .inl ⟨h1,h2⟩;exact .inr ⟨h1,h2⟩) r);have t:=cQ s;clear s l;obtain⟨y,i⟩:=cX ((wY W x).getD k 0);have hy:0<=y/\y<=64:=(by rw[<-i];exact C.out);have aj:IntKind.u64.wrap y=y:=(by rw[IntKind.wrap_u64];omega);rw[i];replace i:=cQ i;go_in;go_wp2_with fail;go_region_with ((go_at_call 77;refine(B.out _ (t.out.below (Ax _ _).drew t.out.2.2)).mono ?_;rintro e u ⟨g,rfl,hg,v,q⟩;have ak:u.cell? ⟨g,k,none⟩=some (.int .i64 y):=cQw i.out r v;have al:u.cell? ⟨f,0,none⟩=some (.int .i64 k):=(q.cell (p:=⟨f,0,none⟩) A).trans z;have D:=cQ q;clear q v))
 all_goals
  go_wp2;go_ret;exact⟨rfl,(Ax w.heap.size w).drew.trans D.out⟩
def mK(p:Int×Int)(w:Bx)(e:Ending)(w':Bx):Prop:=e = .returned (.tuple #[.int .u64 p.1,.int .i64 p.2])/\Bz w.heap.size w w'
theorem bWg(op:Int)(A:Option Addr)(n c:Nat)(l:List Nat)(w:Bx)(h1 : -9223372036854775808<=op)(h2:op<=9223372036854775807)(hg:fZ op=none):
  Bk cZ 59 #[.int .i64 op,.slice A n c] w (mK (lJ op l) w):=by
 have g:=cQ (show lJ op l=(0,1) by simp[lJ,hg]);have h:=cQ (show pX op = .tuple #[.agg #[.int .i64 0,.int .i64 0,.int .i64 0,.int .i64 0],.int .i64 0,.bool false] by simp[pX,hg]);have i:=cQ (show(fZ op).isSome=false by simp[hg]);have j:=cQ (show Bz w.heap.size w (w.alloc (.cells #[.slice A n c] 30))from(Ax _ _).alloc (Aq _) _);clear hg;go_in;go_wp2_with fail;refine(sX op _ h1 h2).mono ?_;rintro e w1 ⟨rfl,b⟩;rw[h.out];have a:=cQ (j.out.trans (b.mono (by simp)));clear b;go_wp2_with fail;refine(vQ op _ h1 h2).mono ?_;rintro e w2 ⟨A2,c2,rfl,_,d⟩;rw[i.out];have f:=cQ (show Bz w.heap.size w w2 from((a.out.alloc a.out.size _).alloc (by have:=a.out.size;simp;omega) _).trans (d.mono (by have:=a.out.size;simp;omega)));generalize (fJ op).length=L;generalize oV op=O;clear d;go_wp2;go_ret2;unfold mK;rw[g.out];exact⟨rfl,f.out.alloc f.out.size _⟩
theorem cXd(op a b c d:Int)(A:Option Addr)(n j:Nat)(l:List Nat)(w:Bx)(h1 : -9223372036854775808<=op)(h2:op<=9223372036854775807)(hg:fZ op=some (a,b,c,d))(o:l.length=n)(k:(fJ op).length≠n):
  Bk cZ 59 #[.int .i64 op,.slice A n j] w (mK (lJ op l) w):=by
 have s:=cQ (show lJ op l=(0,1) by simp[lJ,hg,o,k]);have t:=cQ (show pX op = .tuple #[.agg #[.int .i64 a,.int .i64 b,.int .i64 c,.int .i64 d],.int .i64 (op - a),.bool true] by simp[pX,hg,gV]);have u:=cQ (show(fZ op).isSome=true by simp[hg]);have v:=cQ (show Bz w.heap.size w (w.alloc (.cells #[.slice A n j] 30))from(Ax _ _).alloc (Aq _) _);generalize m:(fJ op).length=L at k;replace m:=cQ m;have ak:((L:Int) != (n:Int))=true:=(by simp;omega);clear hg o k;go_in;go_wp2_with fail;refine(sX op _ h1 h2).mono ?_;rintro e f ⟨rfl,h⟩;rw[t.out];have x:w.heap.size<f.heap.size:=(by have:=h.size;simp at this;omega);have q:=h.cell (p:=⟨w.heap.size,0,none⟩) (by simp);simp at q;have i:=cQ (v.out.trans (h.mono (by simp)));clear h;go_wp2_with fail;refine(vQ op _ h1 h2).mono ?_;rintro e w2 ⟨A2,c2,rfl,y,g⟩;rw[u.out];have ax:f.heap.size+1+1<=w2.heap.size:=(by have:=g.size;simpa using this);have r:=cQ (show Bz w.heap.size w w2 from((i.out.alloc i.out.size _).alloc (by have:=i.out.size;simp;omega) _).trans (g.mono (by have:=i.out.size;simp;omega)));have ay:w.heap.size<w2.heap.size:=(by omega);have az:f.heap.size<w2.heap.size:=(by omega);have aA:f.heap.size+1<w2.heap.size:=(by omega);have aB:w2.cell? ⟨w.heap.size,0,none⟩=some (.slice A n j):=(g.cell (p:=⟨w.heap.size,0,none⟩) (by simp;omega)).trans (((((Ax f.heap.size f).alloc (Aq _) _).alloc (by simp) _).cell (p:=⟨w.heap.size,0,none⟩) x).trans q);have z:=(g.cell (p:=⟨f.heap.size,0,none⟩) (by simp;omega));have B:=(g.cell (p:=⟨f.heap.size,1,none⟩) (by simp;omega));have C:=(g.cell (p:=⟨f.heap.size,2,none⟩) (by simp;omega));have D:=(g.cell (p:=⟨f.heap.size,3,none⟩) (by simp;omega));have E:=(g.cell (p:=⟨f.heap.size+1,0,none⟩) (by simp));simp at z B C D E;rw[m.out];generalize oV op=O;clear g y;go_wp2;go_ret2;unfold mK;rw[s.out];exact⟨rfl,r.out.alloc r.out.size _⟩
def kZ(a pg b c:Nat):List (Int×Value):=[(0,Ak (.func 74) #[] #[Aj (some ⟨a,0,none⟩)]),(2,Ak (.func 76) #[] #[Aj (some ⟨a,0,none⟩),Aj (some ⟨pg,0,none⟩),Aj (some ⟨b,0,none⟩)]),(4,Ak (.func 78) #[] #[Aj (some ⟨a,0,none⟩)]),(5,Ak (.func 79) #[] #[Aj (some ⟨a,0,none⟩),Aj (some ⟨b,0,none⟩)]),(6,Ak (.func 80) #[] #[Aj (some ⟨a,0,none⟩),Aj (some ⟨b,0,none⟩),Aj (some ⟨c,0,none⟩)])]
def fL(a pg b c i:Nat):Obj:=lit ((kZ a pg b c).take i)
theorem fi0(a pg b c:Nat)(W:Bx):(Instr.mapUpdate 147 (.map (some W.heap.size)) (.int .i64 0) (Ak (.func 74) #[] #[Aj (some ⟨a,0,none⟩)])).run cZ (W.alloc (fL a pg b c 0)) = .ok () (W.alloc (fL a pg b c 1)):=
 cY W 147 3 89 ((kZ a pg b c).take 0) 0 _ underlying147 underlying3 (by simp[kZ,dV])
theorem fi1(a pg b c:Nat)(W:Bx):(Instr.mapUpdate 147 (.map (some W.heap.size)) (.int .i64 2) (Ak (.func 76) #[] #[Aj (some ⟨a,0,none⟩),Aj (some ⟨pg,0,none⟩),Aj (some ⟨b,0,none⟩)])).run cZ (W.alloc (fL a pg b c 1)) = .ok () (W.alloc (fL a pg b c 2)):=
 cY W 147 3 89 ((kZ a pg b c).take 1) 2 _ underlying147 underlying3 (by simp[kZ,dV])
theorem fi2(a pg b c:Nat)(W:Bx):(Instr.mapUpdate 147 (.map (some W.heap.size)) (.int .i64 4) (Ak (.func 78) #[] #[Aj (some ⟨a,0,none⟩)])).run cZ (W.alloc (fL a pg b c 2)) = .ok () (W.alloc (fL a pg b c 3)):=
 cY W 147 3 89 ((kZ a pg b c).take 2) 4 _ underlying147 underlying3 (by simp[kZ,dV])
theorem fi3(a pg b c:Nat)(W:Bx):(Instr.mapUpdate 147 (.map (some W.heap.size)) (.int .i64 5) (Ak (.func 79) #[] #[Aj (some ⟨a,0,none⟩),Aj (some ⟨b,0,none⟩)])).run cZ (W.alloc (fL a pg b c 3)) = .ok () (W.alloc (fL a pg b c 4)):=
 cY W 147 3 89 ((kZ a pg b c).take 3) 5 _ underlying147 underlying3 (by simp[kZ,dV])
theorem fi4(a pg b c:Nat)(W:Bx):(Instr.mapUpdate 147 (.map (some W.heap.size)) (.int .i64 6) (Ak (.func 80) #[] #[Aj (some ⟨a,0,none⟩),Aj (some ⟨b,0,none⟩),Aj (some ⟨c,0,none⟩)])).run cZ (W.alloc (fL a pg b c 4)) = .ok () (W.alloc (fL a pg b c 5)):=
 cY W 147 3 89 ((kZ a pg b c).take 4) 6 _ underlying147 underlying3 (by simp[kZ,dV])
theorem aQk(w:Bx):(zeroValue 89).run cZ w = .ok .nilFunc w:=by kernel_rfl
theorem cWh(a pg b c:Nat)(W:Bx):(Instr.lookup 147 (.map (some W.heap.size)) (.int .i64 0) true).run cZ (W.alloc (fL a pg b c 5)) = .ok (.tuple #[Ak (.func 74) #[] #[Aj (some ⟨a,0,none⟩)],.bool true]) (W.alloc (fL a pg b c 5)):=by
 have:=gK (P:=cZ) W 147 3 89 .nilFunc ((kZ a pg b c).take 5) 0 underlying147 underlying3 aQk;rw[fL,this];simp[kZ,dV]
theorem fk2(a pg b c:Nat)(W:Bx):(Instr.lookup 147 (.map (some W.heap.size)) (.int .i64 2) true).run cZ (W.alloc (fL a pg b c 5)) = .ok (.tuple #[Ak (.func 76) #[] #[Aj (some ⟨a,0,none⟩),Aj (some ⟨pg,0,none⟩),Aj (some ⟨b,0,none⟩)],.bool true]) (W.alloc (fL a pg b c 5)):=by
 have:=gK (P:=cZ) W 147 3 89 .nilFunc ((kZ a pg b c).take 5) 2 underlying147 underlying3 aQk;rw[fL,this];simp[kZ,dV]
theorem fk4(a pg b c:Nat)(W:Bx):(Instr.lookup 147 (.map (some W.heap.size)) (.int .i64 4) true).run cZ (W.alloc (fL a pg b c 5)) = .ok (.tuple #[Ak (.func 78) #[] #[Aj (some ⟨a,0,none⟩)],.bool true]) (W.alloc (fL a pg b c 5)):=by
 have:=gK (P:=cZ) W 147 3 89 .nilFunc ((kZ a pg b c).take 5) 4 underlying147 underlying3 aQk;rw[fL,this];simp[kZ,dV]
theorem fk5(a pg b c:Nat)(W:Bx):(Instr.lookup 147 (.map (some W.heap.size)) (.int .i64 5) true).run cZ (W.alloc (fL a pg b c 5)) = .ok (.tuple #[Ak (.func 79) #[] #[Aj (some ⟨a,0,none⟩),Aj (some ⟨b,0,none⟩)],.bool true]) (W.alloc (fL a pg b c 5)):=by
 have:=gK (P:=cZ) W 147 3 89 .nilFunc ((kZ a pg b c).take 5) 5 underlying147 underlying3 aQk;rw[fL,this];simp[kZ,dV]
theorem fk6(a pg b c:Nat)(W:Bx):(Instr.lookup 147 (.map (some W.heap.size)) (.int .i64 6) true).run cZ (W.alloc (fL a pg b c 5)) = .ok (.tuple #[Ak (.func 80) #[] #[Aj (some ⟨a,0,none⟩),Aj (some ⟨b,0,none⟩),Aj (some ⟨c,0,none⟩)],.bool true]) (W.alloc (fL a pg b c 5)):=by
 have:=gK (P:=cZ) W 147 3 89 .nilFunc ((kZ a pg b c).take 5) 6 underlying147 underlying3 aQk;rw[fL,this];simp[kZ,dV]
theorem fk1(a pg b c:Nat)(W:Bx):(Instr.lookup 147 (.map (some W.heap.size)) (.int .i64 1) true).run cZ (W.alloc (fL a pg b c 5)) = .ok (.tuple #[.nilFunc,.bool false]) (W.alloc (fL a pg b c 5)):=by
 have:=gK (P:=cZ) W 147 3 89 .nilFunc ((kZ a pg b c).take 5) 1 underlying147 underlying3 aQk;rw[fL,this];simp[kZ,dV]
theorem fk3(a pg b c:Nat)(W:Bx):(Instr.lookup 147 (.map (some W.heap.size)) (.int .i64 3) true).run cZ (W.alloc (fL a pg b c 5)) = .ok (.tuple #[.nilFunc,.bool false]) (W.alloc (fL a pg b c 5)):=by
 have:=gK (P:=cZ) W 147 3 89 .nilFunc ((kZ a pg b c).take 5) 3 underlying147 underlying3 aQk;rw[fL,this];simp[kZ,dV]
theorem bXu{op c:Int}(h:fZ op=some (a,b,c,d)):(c=0->b=1)/\(c=1->b=10)/\(c=2->b=3)/\(c=3->b=15)/\(c=4->b=1)/\(c=5->b=2)/\(c=6->b<=3):=by
 have e:=List.mem_of_find?_eq_some h;have f:∀ g∈uQ,(g.2.2.1=0->g.2.1=1)/\(g.2.2.1=1->g.2.1=10)/\(g.2.2.1=2->g.2.1=3)/\(g.2.2.1=3->g.2.1=15)/\(g.2.2.1=4->g.2.1=1)/\(g.2.2.1=5->g.2.1=2)/\(g.2.2.1=6->g.2.1<=3):=(by decide);exact f _ e
theorem bXv(e f c d:Int)(k a b:Nat)(w:Bx)(hc:(c=1/\k<10)\/(c=3/\k<15))(hd:d=126\/d=127)(ha:jW d a=true)(n:jW d b=true)(i:a<18446744073709551616)(j:b<18446744073709551616):
  Bk cZ 81 #[.agg #[.int .i64 e,.int .i64 f,.int .i64 c,.int .i64 d],.int .i64 k,.int .u64 a,.int .u64 b] w (kW (jZ c d k a b) w):=by
 rcases hd with rfl | rfl
 ·rcases hc with⟨rfl,g⟩ | ⟨rfl,g⟩
  ·exact bWt e f k a b w g i j
  ·by_cases h:3<=k/\k<=6
   ·exact bWv e f k a b w h.1 h.2 i j
   ·exact bWx e f k a b w (by omega) g i j
 ·have l:a<4294967296:=(by simpa[jW]using ha);have m:b<4294967296:=(by simpa[jW]using n);rcases hc with⟨rfl,g⟩ | ⟨rfl,g⟩
  ·exact bWu e f k a b w g l m
  ·by_cases h:3<=k/\k<=6
   ·exact bWw e f k a b w h.1 h.2 l m
   ·exact bWy e f k a b w (by omega) g l m
def cVb(n:Nat)(d:Int)(l:List Nat)(i:Value):Prop:=∃ k:Nat,k<=n/\i = .int .i64 k/\Hid ((l.take k).all (jW d)=true)
theorem bWh(op a b c d:Int)(A:Option Addr)(n s:Nat)(l:List Nat)(w:Bx)(h1 : -9223372036854775808<=op)(h2:op<=9223372036854775807)(hg:fZ op=some (a,b,c,d))(hs:Src w A n (u64V l))(bB:All64 l)(hT:Tabs w)(aN:(fJ op).length=n):
  Bk cZ 59 #[.int .i64 op,.slice A n s] w (mK (lJ op l) w):=by
 have hl:l.length=n:=(by have:=hs.1;simpa[u64V]using this);have HF:=cQ (show pX op = .tuple #[.agg #[.int .i64 a,.int .i64 b,.int .i64 c,.int .i64 d],.int .i64 (op - a),.bool true] by simp[pX,hg,gV]);have HI:=cQ (show(fZ op).isSome=true by simp[hg]);have aU:=cQ (show fJ op=List.replicate n d by rw[<-aN];simp only[fJ,hg];split <;> rfl);have aV:n=1\/n=2:=(by rw[<-aN];simp only[fJ,hg];split <;> simp);have Z:1<=n:=(by omega);have bQ:n<=2:=(by omega);have bG:=cQ (show Bz w.heap.size w (w.alloc (.cells #[.slice A n s] 30))from(Ax _ _).alloc (Aq _) _);obtain⟨ab,g,rfl,bT⟩:=hs.addr (by omega);have HS:=cQ hs;have aA:=cQ aN;have HG:=cQ hg;have o:=cQ hl;have aW:=cQ hT;have aw:=cQ bB;have bU:((n:Int) != (n:Int))=false:=(by simp);clear hg hl aN hs aV hT bB;go_in;go_wp2_with fail;refine(sX op _ h1 h2).mono ?_;rintro e f ⟨rfl,aO⟩;rw[HF.out];have bH:w.heap.size<f.heap.size:=(by have:=aO.size;simp at this;omega);have aX:=aO.cell (p:=⟨w.heap.size,0,none⟩) (by simp);simp at aX;have aB:=cQ (bG.out.trans (aO.mono (by simp)));clear aO;go_wp2_with fail;refine(vQ op _ h1 h2).mono ?_;rintro e w2 ⟨A2,c2,rfl,aY,v⟩;rw[HI.out];have bV:f.heap.size+1+1<=w2.heap.size:=(by have:=v.size;simpa using this);have aZ:=cQ (show Bz w.heap.size w w2 from((aB.out.alloc aB.out.size _).alloc (by have:=aB.out.size;simp;omega) _).trans (v.mono (by have:=aB.out.size;simp;omega)));have bI:w.heap.size<w2.heap.size:=(by omega);have aP:f.heap.size<w2.heap.size:=(by omega);have bJ:f.heap.size+1<w2.heap.size:=(by omega);have bC:w2.cell? ⟨w.heap.size,0,none⟩=some (.slice (some ⟨ab,g,none⟩) n s):=(v.cell (p:=⟨w.heap.size,0,none⟩) (by simp;omega)).trans (((((Ax f.heap.size f).alloc (Aq _) _).alloc (by simp) _).cell (p:=⟨w.heap.size,0,none⟩) bH).trans aX);have a1:=(v.cell (p:=⟨f.heap.size,0,none⟩) (by simp;omega));have a6:=(v.cell (p:=⟨f.heap.size,1,none⟩) (by simp;omega));have a7:=(v.cell (p:=⟨f.heap.size,2,none⟩) (by simp;omega));have a8:=(v.cell (p:=⟨f.heap.size,3,none⟩) (by simp;omega));have ba:=(v.cell (p:=⟨f.heap.size+1,0,none⟩) (by simp));simp at a1 a6 a7 a8 ba;rw[aA.out];rw[aA.out,aU.out]at aY;generalize HO:oV op=O;replace HO:=cQ HO;have bb:=cQ aY;clear v aY;obtain⟨g2,bW,e,bX,bY,_⟩:=kY bb.out Z;injection e with e1 e2 e3;subst e1;subst e3;have aC:=cQ (aZ.out.alloc aZ.out.size (.cells #[.int .i64 O] 3));have F:Bz w2.heap.size w2 (w2.alloc (.cells #[.int .i64 O] 3)):=(Ax _ _).alloc (Aq _) _;have hq:=(F.cell (p:=⟨w.heap.size,0,none⟩) bI).trans bC;have aQ:=(F.cell (p:=⟨f.heap.size,0,none⟩) aP).trans a1;have aR:=(F.cell (p:=⟨f.heap.size,1,none⟩) aP).trans a6;have aS:=(F.cell (p:=⟨f.heap.size,2,none⟩) aP).trans a7;have bc:=(F.cell (p:=⟨f.heap.size,3,none⟩) aP).trans a8;have bd:=(F.cell (p:=⟨f.heap.size+1,0,none⟩) bJ).trans ba;have be:(w2.alloc (.cells #[.int .i64 O] 3)).cell? ⟨w2.heap.size,0,none⟩=some (.int .i64 O):=(Blk.new w2 3 #[.int .i64 O]).cell 0;have ax:=cQ (HS.out.below aC.out (Aq _));have aT:=cQ (aW.out.below aC.out aW.out.2.2);have aD:=cQ (dJ bb.out F (Aq _))
 have bL:w2.heap.size<(w2.alloc (.cells #[.int .i64 O] 3)).heap.size:=by simp
 have bD:∀ k,k<n->(w2.alloc (.cells #[.int .i64 O] 3)).cell? ⟨g2,k,none⟩=some (.int .i64 d):=fun k hk=>by
  rw[aD.out.cellAt k (by omega)];simp[cXi,hk]
 have bf:=cQ bD;go_wp2_with fail;clear aX bC a1 a6 a7 a8 ba F aZ bb aD aB HS bD aW;generalize w2.alloc (.cells #[.int .i64 O] 3)=h at *;go_loop [40] (fun i=>cVb n d l i) (fun i=>n+1 - (intOf i).toNat)
 case atStart=>exact⟨0,by omega,rfl,cQ (by simp)⟩
 case round=>
  obtain⟨k,hk,rfl,bg⟩:=hrel;by_cases ay:k<n
  ·have bM:decide ((k:Int)<(n:Int))=true:=(by simpa using ay);have az:=ax.out.at_ ay;simp only[u64V,AV]at az;have bZ:=bf.out k ay;have G:=aw.out _ (Aw (show k<l.length by rw[o.out];exact ay));have bh:=cQ (List.take_succ_eq_append_getElem (show k<l.length by rw[o.out];exact ay));generalize l[k]'(by rw[o.out];exact ay)=x at az G bh
   cases hf:jW d x with
   | true=>
    have aE:=cQ hf;clear hf;go_wp2_with fail;refine(aZq d x _ G).mono ?_;rintro e q ⟨rfl,rfl⟩;rw[aE.out];go_wp2;exact⟨⟨k+1,by omega,by simp,cQ (by rw[bh.out,Aa,bg.out];simp[aE.out])⟩,by simp[intOf];omega⟩
   | false=>
    have aE:=cQ hf;clear hf;go_wp2_with fail;refine(aZq d x _ G).mono ?_;rintro e q ⟨rfl,rfl⟩;rw[aE.out];go_wp2;go_ret2;unfold mK
    have hV:lJ op l=(0,1):=by
     have af:l.all (jW d)=false:=by
      rw[<-List.take_append_drop (k+1) l,Aa,bh.out,Aa];simp[aE.out]
     simp[lJ,HG.out,af]
    rw[hV];exact⟨rfl,aC.out⟩
  ·obtain rfl:k=n:=by omega
   have af:l.all (jW d)=true:=by
    have:=bg.out
    rwa[List.take_of_length_le (by rw[o.out];omega)]at this
   have H:=cQ (show lJ op l=mJ c d (op - a) O l by rw[lJ,HG.out];simp only;rw[if_pos ⟨by rw[aA.out,o.out],af⟩,HO.out]);obtain⟨bN,bj,_,b0,b1,_,_⟩:=vW HG.out;obtain⟨R,I,J,K,S,L,M⟩:=bXu HG.out;obtain⟨r,bk⟩:=Int.eq_ofNat_of_zero_le (show 0<=op - a by omega);have bE:∀ (t:TypeId) (T:Bx),(Instr.makeMap t none).run cZ T = .ok (.map (some T.heap.size)) (T.alloc (fL w.heap.size f.heap.size (f.heap.size+1) w2.heap.size 0)):=fun _ _=>rfl;have i0:=fi0 w.heap.size f.heap.size (f.heap.size+1) w2.heap.size;have i1:=fi1 w.heap.size f.heap.size (f.heap.size+1) w2.heap.size;have i2:=fi2 w.heap.size f.heap.size (f.heap.size+1) w2.heap.size;have i3:=fi3 w.heap.size f.heap.size (f.heap.size+1) w2.heap.size;have i4:=fi4 w.heap.size f.heap.size (f.heap.size+1) w2.heap.size;have U:Bz h.heap.size h (h.alloc (fL w.heap.size f.heap.size (f.heap.size+1) w2.heap.size 5)):=(Ax _ _).alloc (Aq _) _;have u:=cQ (aC.out.alloc aC.out.size (fL w.heap.size f.heap.size (f.heap.size+1) w2.heap.size 5));have za:w.heap.size<h.heap.size:=(by omega);have V:f.heap.size<h.heap.size:=(by omega);have zc:f.heap.size+1<h.heap.size:=(by omega);have zd:ab<h.heap.size:=(by omega);have B:=(U.cell (p:=⟨w.heap.size,0,none⟩) za).trans hq;have N:=(U.cell (p:=⟨f.heap.size+1,0,none⟩) zc).trans bd;have qg:=(U.cell (p:=⟨f.heap.size,3,none⟩) V).trans bc;have qo:=(U.cell (p:=⟨w2.heap.size,0,none⟩) bL).trans be;have bm:=cQ (aT.out.below U aT.out.2.2);have az:=ax.out.at_ (k:=0) (by omega);simp only[u64V,AV,Bj]at az;have G:=aw.out _ (Aw (show 0<l.length by rw[o.out];omega));have P:=cQ (show l.getD 0 0=l[0]'(by rw[o.out];omega) by rw[Az,Av (by rw[o.out];omega)];rfl);have bn:=List.all_eq_true.1 af _ (Aw (show 0<l.length by rw[o.out];omega));generalize l[0]'(by rw[o.out];omega)=x at az G P bn;have C:=(U.cell (p:=⟨ab,g,none⟩) zd).trans az;have aF:w.heap.size<(h.alloc (fL w.heap.size f.heap.size (f.heap.size+1) w2.heap.size 5)).heap.size:=(by simp;omega);have D:f.heap.size<(h.alloc (fL w.heap.size f.heap.size (f.heap.size+1) w2.heap.size 5)).heap.size:=(by simp;omega);have aG:(f.heap.size+1)<(h.alloc (fL w.heap.size f.heap.size (f.heap.size+1) w2.heap.size 5)).heap.size:=(by simp;omega);have W:ab<(h.alloc (fL w.heap.size f.heap.size (f.heap.size+1) w2.heap.size 5)).heap.size:=(by simp;omega);have bO:w2.heap.size<(h.alloc (fL w.heap.size f.heap.size (f.heap.size+1) w2.heap.size 5)).heap.size:=(by simp;omega);have bo:=cQ bn;have aH:=cQ af;rw[bk]at N H;have bF:=cQ bk;have bP:(r:Int)<b:=(by omega);clear bk U af bg bn;rcases bN with rfl | rfl | rfl | rfl | rfl | rfl | rfl
   ·have Q:=cWh w.heap.size f.heap.size (f.heap.size+1) w2.heap.size;clear R I J K S L M;go_wp2_with fail;refine(cZk w.heap.size ab g _ s x _ B C Z).mono ?_;rintro e m ⟨rfl,rfl⟩;go_wp2;go_ret2;unfold mK;rw[H.out,mJ,if_pos rfl,P.out];exact⟨rfl,u.out⟩
   ·have Q:=fk1 w.heap.size f.heap.size (f.heap.size+1) w2.heap.size;have bp:2<=k:=(by have:=aA.out;rw[fJ,HG.out]at this;simp at this;omega);have X:=ax.out.at_ (k:=1) (by omega);simp only[u64V,AV]at X;have ah:=aw.out _ (Aw (show 1<l.length by rw[o.out];omega));have aI:=cQ (show l.getD 1 0=l[1]'(by rw[o.out];omega) by rw[Az,Av (by rw[o.out];omega)];rfl);have Y:=List.all_eq_true.1 aH.out _ (Aw (show 1<l.length by rw[o.out];omega));generalize l[1]'(by rw[o.out];omega)=y at X ah aI Y;have q1:=((Ax h.heap.size h).alloc (Aq _) (fL w.heap.size f.heap.size (f.heap.size+1) w2.heap.size 5)).cell (p:=⟨ab,g+1,none⟩) zd |>.trans X;have aJ:=((Ax h.heap.size h).alloc (Aq _) (fL w.heap.size f.heap.size (f.heap.size+1) w2.heap.size 5)).cell (p:=⟨f.heap.size,0,none⟩) V |>.trans aQ;have aK:=((Ax h.heap.size h).alloc (Aq _) (fL w.heap.size f.heap.size (f.heap.size+1) w2.heap.size 5)).cell (p:=⟨f.heap.size,1,none⟩) V |>.trans aR;have aL:=((Ax h.heap.size h).alloc (Aq _) (fL w.heap.size f.heap.size (f.heap.size+1) w2.heap.size 5)).cell (p:=⟨f.heap.size,2,none⟩) V |>.trans aS;have bq:r<10:=(by have:=I rfl;omega);have br:=cQ (fun T=>bXv a b 1 d r x y T (by omega) bj bo.out Y G ah);have bs:0<k:=(by omega);have bt:1<k:=(by omega);have bu:(1:Int)<(k:Int):=(by omega);clear Y R I J K S L M;go_wp2_with fail;generalize h.alloc (fL w.heap.size f.heap.size (f.heap.size+1) w2.heap.size 5)=q at *;have bw:q.cell? ⟨w.heap.size,0,none⟩=some (.slice (some ⟨ab,g,none⟩) k s)/\q.cell? ⟨f.heap.size,0,none⟩=some (.int .i64 a)/\q.cell? ⟨f.heap.size,1,none⟩=some (.int .i64 b)/\q.cell? ⟨f.heap.size,2,none⟩=some (.int .i64 1)/\q.cell? ⟨f.heap.size,3,none⟩=some (.int .i64 d)/\q.cell? ⟨f.heap.size+1,0,none⟩=some (.int .i64 r)/\q.cell? ⟨ab,g,none⟩=some (.int .u64 x)/\q.cell? ⟨ab,g+1,none⟩=some (.int .u64 y):=⟨B,aJ,aK,aL,qg,N,C,q1⟩;clear Q bm aT ax bf aQ aR aS bc bd be hq qo i0 i1 i2 i3 i4 bE bF HF HI aU aw;go_region_held3 (fun w'=>w'.cell? ⟨w.heap.size,0,none⟩=some (.slice (some ⟨ab,g,none⟩) k s)/\w'.cell? ⟨f.heap.size,0,none⟩=some (.int .i64 a)/\w'.cell? ⟨f.heap.size,1,none⟩=some (.int .i64 b)/\w'.cell? ⟨f.heap.size,2,none⟩=some (.int .i64 1)/\w'.cell? ⟨f.heap.size,3,none⟩=some (.int .i64 d)/\w'.cell? ⟨f.heap.size+1,0,none⟩=some (.int .i64 r)/\w'.cell? ⟨ab,g,none⟩=some (.int .u64 x)/\w'.cell? ⟨ab,g+1,none⟩=some (.int .u64 y)) (first | exact bw | exact bx) (first | (go_at_call 81;refine(br.out _).mono ?_;rintro e m ⟨rfl,j⟩;have bx:m.cell? ⟨w.heap.size,0,none⟩=some (.slice (some ⟨ab,g,none⟩) k s)/\m.cell? ⟨f.heap.size,0,none⟩=some (.int .i64 a)/\m.cell? ⟨f.heap.size,1,none⟩=some (.int .i64 b)/\m.cell? ⟨f.heap.size,2,none⟩=some (.int .i64 1)/\m.cell? ⟨f.heap.size,3,none⟩=some (.int .i64 d)/\m.cell? ⟨f.heap.size+1,0,none⟩=some (.int .i64 r)/\m.cell? ⟨ab,g,none⟩=some (.int .u64 x)/\m.cell? ⟨ab,g+1,none⟩=some (.int .u64 y):=⟨(j.cell (p:=⟨w.heap.size,0,none⟩) aF).trans B,(j.cell (p:=⟨f.heap.size,0,none⟩) D).trans aJ,(j.cell (p:=⟨f.heap.size,1,none⟩) D).trans aK,(j.cell (p:=⟨f.heap.size,2,none⟩) D).trans aL,(j.cell (p:=⟨f.heap.size,3,none⟩) D).trans qg,(j.cell (p:=⟨f.heap.size+1,0,none⟩) aG).trans N,(j.cell (p:=⟨ab,g,none⟩) W).trans C,(j.cell (p:=⟨ab,g+1,none⟩) W).trans q1⟩;have E:=cQ j;clear j))
    all_goals
     go_wp2;go_ret2;unfold mK;rw[H.out,mJ,if_neg (by decide),if_neg (by decide),if_neg (by decide),if_neg (by decide),if_neg (by decide),P.out,aI.out];exact⟨rfl,u.out.drew.trans (E.out.mono u.out.size)⟩
   ·have Q:=fk2 w.heap.size f.heap.size (f.heap.size+1) w2.heap.size
    have hW:(d=126/\(if d=126 then 64 else 32:Nat)=64/\x<18446744073709551616)\/(d=127/\(if d=126 then 64 else 32:Nat)=32/\x<4294967296):=by
     rcases bj with rfl | rfl
     ·exact .inl ⟨rfl,rfl,G⟩
     ·exact .inr ⟨rfl,rfl,by have:=bo.out;simp[jW]at this;exact this⟩
    have bz:=(cZo w.heap.size f.heap.size (f.heap.size+1) ab g k s x _ r a b 2 d _ B C Z N (by have:=J rfl;omega) qg aF aG W D bm.out hW);obtain⟨z,HZ⟩:∃ z,(wY (if d=126 then 64 else 32) x).getD r 0=z:=⟨_,rfl⟩;rw[HZ]at bz;have aM:=cQ bz;replace HZ:=cQ HZ;clear hW bz;clear R I J K S L M;go_wp2_with fail;refine aM.out.mono ?_;rintro e m ⟨rfl,j⟩;have E:=cQ (u.out.trans (j.mono u.out.size));clear j;go_wp2;go_ret2;unfold mK;rw[H.out,mJ,if_neg (by decide),if_pos rfl,P.out,AZ,HZ.out];exact⟨rfl,E.out⟩
   ·have Q:=fk3 w.heap.size f.heap.size (f.heap.size+1) w2.heap.size;have bp:2<=k:=(by have:=aA.out;rw[fJ,HG.out]at this;simp at this;omega);have X:=ax.out.at_ (k:=1) (by omega);simp only[u64V,AV]at X;have ah:=aw.out _ (Aw (show 1<l.length by rw[o.out];omega));have aI:=cQ (show l.getD 1 0=l[1]'(by rw[o.out];omega) by rw[Az,Av (by rw[o.out];omega)];rfl);have Y:=List.all_eq_true.1 aH.out _ (Aw (show 1<l.length by rw[o.out];omega));generalize l[1]'(by rw[o.out];omega)=y at X ah aI Y;have q1:=((Ax h.heap.size h).alloc (Aq _) (fL w.heap.size f.heap.size (f.heap.size+1) w2.heap.size 5)).cell (p:=⟨ab,g+1,none⟩) zd |>.trans X;have aJ:=((Ax h.heap.size h).alloc (Aq _) (fL w.heap.size f.heap.size (f.heap.size+1) w2.heap.size 5)).cell (p:=⟨f.heap.size,0,none⟩) V |>.trans aQ;have aK:=((Ax h.heap.size h).alloc (Aq _) (fL w.heap.size f.heap.size (f.heap.size+1) w2.heap.size 5)).cell (p:=⟨f.heap.size,1,none⟩) V |>.trans aR;have aL:=((Ax h.heap.size h).alloc (Aq _) (fL w.heap.size f.heap.size (f.heap.size+1) w2.heap.size 5)).cell (p:=⟨f.heap.size,2,none⟩) V |>.trans aS;have bq:r<15:=(by have:=K rfl;omega);have br:=cQ (fun T=>bXv a b 3 d r x y T (by omega) bj bo.out Y G ah);have bs:0<k:=(by omega);have bt:1<k:=(by omega);have bu:(1:Int)<(k:Int):=(by omega);clear Y R I J K S L M;go_wp2_with fail;generalize h.alloc (fL w.heap.size f.heap.size (f.heap.size+1) w2.heap.size 5)=q at *;have bw:q.cell? ⟨w.heap.size,0,none⟩=some (.slice (some ⟨ab,g,none⟩) k s)/\q.cell? ⟨f.heap.size,0,none⟩=some (.int .i64 a)/\q.cell? ⟨f.heap.size,1,none⟩=some (.int .i64 b)/\q.cell? ⟨f.heap.size,2,none⟩=some (.int .i64 3)/\q.cell? ⟨f.heap.size,3,none⟩=some (.int .i64 d)/\q.cell? ⟨f.heap.size+1,0,none⟩=some (.int .i64 r)/\q.cell? ⟨ab,g,none⟩=some (.int .u64 x)/\q.cell? ⟨ab,g+1,none⟩=some (.int .u64 y):=⟨B,aJ,aK,aL,qg,N,C,q1⟩;clear Q bm aT ax bf aQ aR aS bc bd be hq qo i0 i1 i2 i3 i4 bE bF HF HI aU aw;go_region_held3 (fun w'=>w'.cell? ⟨w.heap.size,0,none⟩=some (.slice (some ⟨ab,g,none⟩) k s)/\w'.cell? ⟨f.heap.size,0,none⟩=some (.int .i64 a)/\w'.cell? ⟨f.heap.size,1,none⟩=some (.int .i64 b)/\w'.cell? ⟨f.heap.size,2,none⟩=some (.int .i64 3)/\w'.cell? ⟨f.heap.size,3,none⟩=some (.int .i64 d)/\w'.cell? ⟨f.heap.size+1,0,none⟩=some (.int .i64 r)/\w'.cell? ⟨ab,g,none⟩=some (.int .u64 x)/\w'.cell? ⟨ab,g+1,none⟩=some (.int .u64 y)) (first | exact bw | exact bx) (first | (go_at_call 81;refine(br.out _).mono ?_;rintro e m ⟨rfl,j⟩;have bx:m.cell? ⟨w.heap.size,0,none⟩=some (.slice (some ⟨ab,g,none⟩) k s)/\m.cell? ⟨f.heap.size,0,none⟩=some (.int .i64 a)/\m.cell? ⟨f.heap.size,1,none⟩=some (.int .i64 b)/\m.cell? ⟨f.heap.size,2,none⟩=some (.int .i64 3)/\m.cell? ⟨f.heap.size,3,none⟩=some (.int .i64 d)/\m.cell? ⟨f.heap.size+1,0,none⟩=some (.int .i64 r)/\m.cell? ⟨ab,g,none⟩=some (.int .u64 x)/\m.cell? ⟨ab,g+1,none⟩=some (.int .u64 y):=⟨(j.cell (p:=⟨w.heap.size,0,none⟩) aF).trans B,(j.cell (p:=⟨f.heap.size,0,none⟩) D).trans aJ,(j.cell (p:=⟨f.heap.size,1,none⟩) D).trans aK,(j.cell (p:=⟨f.heap.size,2,none⟩) D).trans aL,(j.cell (p:=⟨f.heap.size,3,none⟩) D).trans qg,(j.cell (p:=⟨f.heap.size+1,0,none⟩) aG).trans N,(j.cell (p:=⟨ab,g,none⟩) W).trans C,(j.cell (p:=⟨ab,g+1,none⟩) W).trans q1⟩;have E:=cQ j;clear j))
    all_goals
     go_wp2;go_ret2;unfold mK;rw[H.out,mJ,if_neg (by decide),if_neg (by decide),if_neg (by decide),if_neg (by decide),if_neg (by decide),P.out,aI.out];exact⟨rfl,u.out.drew.trans (E.out.mono u.out.size)⟩
   ·have Q:=fk4 w.heap.size f.heap.size (f.heap.size+1) w2.heap.size;clear R I J K S L M;go_wp2_with fail;refine(cZl w.heap.size ab g _ s x _ B C Z).mono ?_;rintro e m ⟨rfl,rfl⟩;go_wp2;go_ret2;unfold mK;rw[H.out,mJ,if_neg (by decide),if_neg (by decide),if_pos rfl,P.out];exact⟨rfl,u.out⟩
   ·have Q:=fk5 w.heap.size f.heap.size (f.heap.size+1) w2.heap.size;have aM:=cQ (cZm w.heap.size (f.heap.size+1) ab g k s x r _ B C Z N (by have:=L rfl;omega) aF aG W);clear R I J K S L M;go_wp2_with fail;refine aM.out.mono ?_;rintro e m ⟨rfl,j⟩;have E:=cQ (u.out.trans (j.mono u.out.size));clear j;go_wp2;go_ret2;unfold mK;rw[H.out,mJ,if_neg (by decide),if_neg (by decide),if_neg (by decide),if_pos rfl,P.out];exact⟨rfl,E.out⟩
   ·have Q:=fk6 w.heap.size f.heap.size (f.heap.size+1) w2.heap.size;have aM:=cQ (cZn w.heap.size (f.heap.size+1) w2.heap.size ab g k s x r O _ B C Z N (by have:=M rfl;omega) qo aF aG W bO);clear R I J K S L M;go_wp2_with fail;refine aM.out.mono ?_;rintro e m ⟨rfl,j⟩;have E:=cQ (u.out.trans (j.mono u.out.size));clear j;go_wp2;go_ret2;unfold mK;rw[H.out,mJ,if_neg (by decide),if_neg (by decide),if_neg (by decide),if_neg (by decide),if_pos rfl,P.out];exact⟨rfl,E.out⟩
theorem cXe(op:Int)(A:Option Addr)(n e:Nat)(l:List Nat)(w:Bx)(h1 : -9223372036854775808<=op)(h2:op<=9223372036854775807)(hs:Src w A n (u64V l))(h:All64 l)(i:Tabs w):
  Bk cZ 59 #[.int .i64 op,.slice A n e] w (mK (lJ op l) w):=by
 cases hg:fZ op with
 | none=>exact bWg op A n e l w h1 h2 hg
 | some g=>
  obtain⟨a,b,c,d⟩:=g;by_cases f:(fJ op).length=n
  ·exact bWh op a b c d A n e l w h1 h2 hg hs h i f
  ·exact cXd op a b c d A n e l w h1 h2 hg (by have:=hs.1;simpa[u64V]using this) f
def nX(z:Int):Prop:=0<=z/\z<18446744073709551616
def In32(z:Int):Prop:=0<=z/\z<4294967296
theorem In32.cWw{z:Int}(h:In32 z):nX z:=⟨h.1,by have:=h.2;omega⟩
theorem zQ(b:Bool):In32 (b01 b):=by cases b <;> simp[b01,In32]
theorem pV(z:Int):nX (IntKind.u64.wrap z):=by unfold nX;rw[IntKind.wrap_u64];omega
theorem aKd(z:Int):In32 (z % 4294967296):=by unfold In32;omega
theorem aYy(o:BinOp)(x y:Int):nX (bits o .u64 x y):=by
 have h:∃ z,bits o .u64 x y=IntKind.u64.wrap z:=⟨_,rfl⟩;obtain⟨z,a⟩:=h;rw[a];exact pV z
theorem bWj(a b by_:Nat)(x:Int)(ha:a<18446744073709551616)(k:Nat):nX ((oX .u64 64 a b by_ x).getD k 0):=by
 have h1:(a:Int) / 2 ^ by_=((a / 2 ^ by_:Nat):Int):=(by simp);have h2:=AY a (2 ^ by_);have e:0<=(a:Int) / 2 ^ by_:=Af (by omega) (Int.le_of_lt (Int.pow_pos (by omega)));have c:=fun o x y=>aYy o x y;have d:nX 0:=⟨by omega,by omega⟩;unfold oX
 match k with
 | 0=>exact pV _
 | 1=>exact pV _
 | 2=>exact pV _
 | 3=>exact d
 | 4=>exact d
 | 5=>exact d
 | 6=>exact d
 | 7=>simp only[Ay,AJ];exact c _ _ _
 | 8=>simp only[Ay,AJ];exact c _ _ _
 | 9=>simp only[Ay,AJ];exact c _ _ _
 | 10=>exact pV _
 | 11=>exact pV _
 | 12=>exact(show nX ((a:Int) / 2 ^ by_)from⟨e,by rw[h1];omega⟩)
 | 13=>simp only[Ay,AJ];exact c _ _ _
 | 14=>simp only[Ay,AJ];exact c _ _ _
 | k+15=>exact d
theorem bWk(k:Int)(a b:Nat)(x y:Int)(ha:a<18446744073709551616):nX (eW 18446744073709551616 (-9223372036854775808) k a b x y).1:=by
 have h1:(a:Int) / b=((a / b:Nat):Int):=(by simp);have h2:=AY a b;have h5:0<=(a:Int) / b:=Af (by omega) (by omega);have h3:(a:Int) % b=((a % b:Nat):Int):=(by simp);have h4:=Nat.mod_le a b;unfold eW nX
 repeat' split
 all_goals (simp only;omega)
theorem aYz(M least k:Int)(a b:Nat)(x y:Int):(eW M least k a b x y).2=0\/(eW M least k a b x y).2=33\/(eW M least k a b x y).2=34:=by
 unfold eW
 repeat' split
 all_goals simp
theorem bQa(c d k:Int)(a b:Nat)(hd:d=126\/d=127)(ha:a<18446744073709551616)(i:d=127->a<4294967296):
  nX (jZ c d k a b).1/\(c=1->In32 (jZ c d k a b).1)/\(d=127->In32 (jZ c d k a b).1)/\((jZ c d k a b).2=0\/((jZ c d k a b).2≠1/\c≠1/\3<=k/\k<=6)):=by
 have key:∀ z:Int×Int,z.2=0\/z.2=33\/z.2=34->z.2=0\/z.2≠1:=fun z h=>by omega
 rcases hd with rfl | rfl
 ·unfold jZ;rw[if_pos rfl];by_cases hc:c=1
  ·rw[if_pos hc];exact⟨(zQ _).cWw,fun _=>zQ _,fun h=>absurd h (by decide),.inl rfl⟩
  ·rw[if_neg hc];by_cases e:3<=k/\k<=6
   ·rw[if_pos e];refine⟨bWk _ _ _ _ _ ha,fun h=>absurd h hc,fun h=>absurd h (by decide),?_⟩;rcases key _ (aYz 18446744073709551616 (-9223372036854775808) (k - 3) a b (wrap64 a) (wrap64 b))with h | h
    ·exact .inl h
    ·exact .inr ⟨h,hc,e.1,e.2⟩
   ·rw[if_neg e];exact⟨bWj _ _ _ _ ha _,fun h=>absurd h hc,fun h=>absurd h (by decide),.inl rfl⟩
 ·have g:=i rfl;unfold jZ;rw[if_neg (by decide)];by_cases hc:c=1
  ·rw[if_pos hc];exact⟨(zQ _).cWw,fun _=>zQ _,fun _=>zQ _,.inl rfl⟩
  ·rw[if_neg hc];by_cases e:3<=k/\k<=6
   ·rw[if_pos e];have f:In32 _:=aVw (k - 3) a b (wrap32 a) (wrap32 b) g;refine⟨f.cWw,fun h=>absurd h hc,fun _=>f,?_⟩;rcases key _ (aYz 4294967296 (-2147483648) (k - 3) a b (wrap32 a) (wrap32 b))with h | h
    ·exact .inl h
    ·exact .inr ⟨h,hc,e.1,e.2⟩
   ·rw[if_neg e];have f:In32 _:=aVx a b (b % 32) (wrap32 a) g k.toNat;exact⟨f.cWw,fun h=>absurd h hc,fun _=>f,.inl rfl⟩
theorem cZt(k:Int)(x:Nat)(hx:x<18446744073709551616):nX (aXl k x):=by
 unfold aXl
 split
 ·exact pV _
 ·exact⟨by omega,by omega⟩
theorem cZu(k out:Int)(x:Nat):nX (oY k out x)/\(out=127->In32 (oY k out x)):=by
 unfold oY
 split
 ·exact⟨(aKd _).cWw,fun _=>aKd _⟩
 ·exact⟨pV _,fun h=>absurd h (by assumption)⟩
theorem aXn(h:All64 l)(i:Nat):l.getD i 0<18446744073709551616:=by
 rw[Az]
 cases hx:l[i]? with
 | none=>simp
 | some x=>exact h x (Ab hx)
theorem cZv(h:l.all (jW d)=true)(i:Nat)(hd:d=127):l.getD i 0<4294967296:=by
 subst hd;rw[Az]
 cases a:l[i]? with
 | none=>simp
 | some x=>
  have:=List.all_eq_true.1 h x (Ab a)
  simpa[jW]using this
theorem bJi{op c:Int}(hg:fZ op=some (a,b,c,d))(h:All64 l)(hf:l.all (jW d)=true):nX (mJ c d (op - a) (oV op) l).1:=by
 obtain⟨hc,hd,_,hle,ae,_,_⟩:=vW hg;obtain⟨r0,r1,j,r3,r4,r5,r6⟩:=bXu hg;have e:=aXn h 0;have f:=cZv (i:=0) hf;rcases hc with rfl | rfl | rfl | rfl | rfl | rfl | rfl
 ·rw[mJ,if_pos rfl];exact(zQ _).cWw
 ·rw[mJ,if_neg (by decide),if_neg (by decide),if_neg (by decide),if_neg (by decide),if_neg (by decide)];exact(bQa 1 d (op - a) (l.getD 0 0) (l.getD 1 0) hd e f).1
 ·rw[mJ,if_neg (by decide),if_pos rfl]
  have g:=@bXt (if d=126 then 64 else 32) (l.getD 0 0) (op - a).toNat (by
   rcases hd with rfl | rfl
   ·exact .inl ⟨rfl,e⟩
   ·exact .inr ⟨rfl,f rfl⟩) (by have:=j rfl;omega)
  exact⟨g.1,by have:=g.2;omega⟩
 ·rw[mJ,if_neg (by decide),if_neg (by decide),if_neg (by decide),if_neg (by decide),if_neg (by decide)];exact(bQa 3 d (op - a) (l.getD 0 0) (l.getD 1 0) hd e f).1
 ·rw[mJ,if_neg (by decide),if_neg (by decide),if_pos rfl];exact(aKd _).cWw
 ·rw[mJ,if_neg (by decide),if_neg (by decide),if_neg (by decide),if_pos rfl];exact cZt _ _ e
 ·rw[mJ,if_neg (by decide),if_neg (by decide),if_neg (by decide),if_neg (by decide),if_pos rfl];exact(cZu (op - a) (oV op) (l.getD 0 0)).1
end Go.Proofs.YtabibkpfgmolkaaDoor

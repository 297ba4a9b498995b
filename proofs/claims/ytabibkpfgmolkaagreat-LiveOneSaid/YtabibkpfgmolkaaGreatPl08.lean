/- Lemmas for the claim, part 8. Conditions: none. -/
import Derived.Test.YtabibkpfgmolkaaGreatPl07
set_option maxRecDepth 100000
set_option maxHeartbeats 16000000
set_option linter.unusedVariables false
set_option linter.unusedSimpArgs false
open Go.Lib renaming hid→fQ
open Go.Proofs.Tryz renaming prog→fZ
open Go.Proofs.Tryz
open Go.RowKit
open Go.IntKind renaming wrap_u64→Aj,wrap_u32→Aq,signed→AY,wrap→BQ
open Go.RowKit.Below renaming refl→Ax
open Nat renaming mod_eq_of_lt→Az,pow_le_pow_right→Ak,two_pow_add_eq_or_of_lt→Av,lt_of_le_of_lt→Ay,and_two_pow_sub_one_eq_mod→AQ,mod_lt→AX,mul_le_mul_right→AZ,div_le_self→AV,pow_succ→Ab,mul_comm→Ac,div_div_eq_div_mul→Ad,two_pow_pos→Ae,div_lt_iff_lt_mul→Af,add_mul→Ah,div_eq_of_lt→Bq,pow_mul→Bx,or_comm→Bz,le_refl→Bk,mul_assoc→Bw,pow_add→BW,pow_pos→BY,pow_one→Ba
open List renaming getElem?_eq_getElem→Aw,mem_of_mem_take→AK,replicate→AW,mem_of_mem_drop→Ag,map_cons→By,map_nil→BX,toArray→BZ
open Int renaming eq_ofNat_of_zero_le→AJ,mul_emod_mul_of_pos→Aa,emod_lt_of_pos→Ai,ofNat→Bj,emod_nonneg→Bv,mul_comm→BJ,tmod_neg→BK,tmod_one→BV
open Go renaming World→Bb,Calls→Bd
open Go.RowKit renaming Below→Bc
namespace Go.Proofs.YtabibkpfgmolkaaGreat
variable {a b W n x q:Nat}
theorem sX(A:Option Addr)(n c addr a:Nat)(w:Bb)(hn:n<=140737488355328):
  Bd fZ 117 #[.slice A n c,.int .u64 addr,.int .u64 a] w fun e w'=>e = .returned (.bool (tX n addr a))/\w=w':=by
 by_cases h1:addr<=1099511627776
 ·have d:decide ((addr:Int)<=1099511627776)=true:=(by simp;omega);by_cases h2:a<=1099511627776
  ·have f:decide ((a:Int)<=1099511627776)=true:=(by simp;omega);have b:=fQ (show tX n addr a=decide (addr+a<=n) by simp[tX,h1,h2]);go_in;go_wp2;go_ret;rw[b.out];refine⟨?_,rfl⟩;show Ending.returned (.bool (decide ((addr:Int)+(a:Int)<=(n:Int))))=_
   congr 2
   rw[Bool.eq_iff_iff];simp;omega
  ·have f:decide ((a:Int)<=1099511627776)=false:=(by simp;omega);have b:=fQ (show tX n addr a=false by simp[tX,h1,h2]);clear h1 h2;go_in;go_wp2;go_ret;rw[b.out];exact⟨rfl,rfl⟩
 ·have d:decide ((addr:Int)<=1099511627776)=false:=(by simp;omega);have b:=fQ (show tX n addr a=false by simp[tX,h1]);clear h1;go_in;go_wp2;go_ret;rw[b.out];exact⟨rfl,rfl⟩
theorem eQa{y k:Nat}(hy:y<256)(b:k<=7)(hq:q<256 ^ k):bits .or .u64 (q:Int) (IntKind.u64.wrap ((y:Int)*2 ^ (8*k)))=((q+y*256 ^ k:Nat):Int):=by
 have h1:256 ^ k<=256 ^ 7:=Ak (by omega) b;have h2:y*256 ^ k<=255*256 ^ k:=AZ _ (by omega);have a:(256:Nat) ^ k=2 ^ (8*k):=(by rw[Bx])
 have e:(y:Int)*2 ^ (8*k)=((y*256 ^ k:Nat):Int):=by
  rw[Int.natCast_mul,a,Int.natCast_pow];rfl
 rw[e,aXd (by omega),aVt (by omega) (by omega)];refine congrArg Bj ?_;rw[a]at hq ⊢;rw[<-Nat.shiftLeft_eq,Bz,<-Nat.shiftLeft_add_eq_or_of_lt hq];omega
theorem bKh:∀ (l:List Nat) (b:Nat),leN (l ++ [b])=leN l+b*256 ^ l.length
 | [],b=>by simp[leN]
 | x :: l,b=>by
  simp only[List.cons_append,leN,bKh l b,List.length_cons,Ab];have:b*(256 ^ l.length*256)=256*(b*256 ^ l.length):=(by rw[<-Bw,Ac]);omega
theorem dZq(h:a<18446744073709551616):bits .and .u64 (a:Int) 1=((a % 2:Nat):Int):=by
 rw[show(1:Int)=((1:Nat):Int)from rfl,bits_and_u64_nat a 1 h (by omega)];exact congrArg Bj (Nat.and_one_is_mod a)
theorem cVk(h:a<18446744073709551616):bits .and .u64 (a:Int) 4294967295=((a % 4294967296:Nat):Int):=by
 rw[show(4294967295:Int)=((2 ^ 32 - 1:Nat):Int)from rfl,bits_and_u64_nat a (2 ^ 32 - 1) h (by decide)];exact congrArg Bj (AQ a 32)
theorem dZr{j:Nat}(hj:1<=j)(a:j<=8)(hq:q<256 ^ j):(bits .and .u64 ((q:Int) / 2 ^ (8*j - 1)) 1 == 1)=decide (2 ^ (8*j - 1)<=q):=by
 have e:(q:Int) / 2 ^ (8*j - 1)=((q / 2 ^ (8*j - 1):Nat):Int):=(by simp);have h2:256 ^ j=2*2 ^ (8*j - 1):=(by rw[show(256:Nat)=2 ^ 8 from rfl,<-Bx,<-Nat.pow_succ'];congr 1;omega);have h8:256 ^ j<=256 ^ 8:=Ak (by omega) a;have hp:0<2 ^ (8*j - 1):=Ae _;have hd:q / 2 ^ (8*j - 1)<2:=(by rw[Af hp];omega);rw[e,dZq (by omega),Az hd,Bool.eq_iff_iff];have:=Nat.le_div_iff_mul_le hp (x:=1) (y:=q);simp;omega
theorem dVl{j:Nat}(a:j=1\/j=2\/j=4\/j=8)(hq:q<256 ^ j):sxV j q=((if 2 ^ (8*j - 1)<=q then q+18446744073709551616 - 256 ^ j else q:Nat):Int):=by
 rcases a with rfl | rfl | rfl | rfl <;> simp only[sxV,Aj,wrap64] <;> split <;> simp at * <;> omega
theorem dVm{t:Nat}(a:x<2 ^ t)(ht:t<64):bits .or .u64 (x:Int) (IntKind.u64.wrap (2 ^ t))=((x+2 ^ t:Nat):Int):=by
 have h1:(2:Nat) ^ t<=2 ^ 63:=Ak (by omega) (by omega);rw[show((2:Int) ^ t)=((2 ^ t:Nat):Int)from by simp,aXd (by omega),aVt (by omega) (by omega)];refine congrArg Bj ?_;have:=Av a 1;rw[Nat.mul_one]at this;rw[Bz,<-this];omega
theorem aZo(j:Nat):256 ^ j=2 ^ (8*j):=by rw[show(256:Nat)=2 ^ 8 from rfl,<-Bx]
def eQb(q j:Nat)(a i:Value):Prop:=∃ t:Nat,8*j<=t/\t<=64/\i = .int .i64 t/\a = .int .u64 ((q+2 ^ t - 256 ^ j:Nat):Int)
def dVn(part:List Nat)(a:Nat)(b i:Value):Prop:=∃ k:Nat,k<=a/\i = .int .i64 k/\b = .int .u64 (leN (part.take k):Nat)
theorem dXa(b o n c addr off a:Nat)(op k:Int)(s:Bool)(m:List Nat)(w:Bb)(B:acc op=some (k,(a:Int),false,s))(hn:n<=140737488355328)
  (ha:addr<=4294967295) (ho:off<=4294967295) (K:m.length=n) (L:AllB m) (aB:addr+off+a<=n) (M:∀ j (h:j<m.length),w.cell? ⟨b,o+j,none⟩=some (.int .u8 ((m[j]:Nat):Int))) :
  Bd fZ 119 #[.slice (some ⟨b,o,none⟩) n c,.int .i64 op,.int .u64 addr,.int .u64 off] w fun e w'=>
   e = .returned (.tuple #[.int .u64 (xY k a s (leN ((m.drop (addr+off)).take a))),.int .i64 0])/\Bc w.heap.size w w':=by
 obtain⟨S,N,_,_⟩:=nZ B;have T:1<=a:=(by omega);have O:a<=8:=(by omega);have U:=fQ (show fJ op = .tuple #[.int .i64 k,.int .i64 a,.bool false,.bool true] by simp[fJ,B]);have V:=fQ B;have W:=fQ M;have g:=fQ K;have D:=fQ L;have X:=fQ N;have Y:tX n (addr+off) a=true:=(by simp[tX];omega);clear B M K L N S;have g1:decide (4294967295<(addr:Int))=false:=(by simp;omega);have g2:decide (4294967295<(off:Int))=false:=(by simp;omega);go_in;go_wp2_with fail;refine(fY _ _).mono ?_;rintro e w1 ⟨rfl,rfl⟩;rw[U.out];go_wp2_with fail;refine(sX _ n c (addr+off) a _ hn).mono ?_;rintro e w1 ⟨rfl,rfl⟩;rw[Y];go_wp2_with fail;go_loop [14,15] (fun E i=>dVn ((m.drop (addr+off)).take a) a E i) (fun _ i=>a+1 - (intOf i).toNat)
 case atStart=>exact⟨0,by omega,rfl,rfl⟩
 case round=>
  obtain⟨j,hj,rfl,rfl⟩:=hrel;by_cases F:j<a
  ·have Z:=W.out (addr+off+j) (by rw[g.out];omega);have P:=D.out.get (k:=addr+off+j) (by rw[g.out];omega);have ah:decide ((j:Int)<(a:Int))=true:=(by simpa using F);obtain⟨y,G⟩:=fX (m[addr+off+j]'(by rw[g.out];omega));rw[G]at Z P;have HY:=fQ G;obtain⟨q,hq⟩:=fX (leN (((m.drop (addr+off)).take a).take j));rw[hq];have l:=fQ hq;clear G hq;go_wp2;refine⟨⟨j+1,by omega,by simp,?_⟩,by simp[intOf];omega⟩;have ay:j<((m.drop (addr+off)).take a).length:=(by simp[g.out];omega);have hlen:(((m.drop (addr+off)).take a).take j).length=j:=(by simp[g.out];omega)
   have az:q<256 ^ j:=by
    have:=aYo (((m.drop (addr+off)).take a).take j) (fun x f=>D.out x (Ag (AK (AK f))));rw[hlen]at this;rw[<-l.out];exact this
   rw[eQa P (by omega) az,List.take_succ_eq_append_getElem ay,bKh,hlen,l.out];simp[HY.out]
  ·obtain rfl:j=a:=(by omega);rw[List.take_take,Nat.min_self];have hq:=aYo ((m.drop (addr+off)).take j) (fun x f=>D.out x (Ag (AK f)));rw[show((m.drop (addr+off)).take j).length=j from by simp[g.out];omega]at hq
   revert hq
   generalize l:leN ((m.drop (addr+off)).take j)=q;intro hq;replace l:=fQ l;have H:j=1\/j=2\/j=4\/j=8:=(by have:=X.out;omega);have I:=dZr T O hq;have C:=fQ (dVl H hq);have aC:=fQ H;clear H;go_wp2_with fail;refine(bYg V.out _).mono ?_;rintro e w1 ⟨rfl,rfl⟩
   have fin:∀ (v:Int) (p:Array Value),p.getD 8 undef = .int .u64 v->p.getD 9 undef = .int .i64 0->v=xY k j s q ->
     bodyPost fZ Tryz.f119 (fun e w'=>e = .returned (.tuple #[.int .u64 (xY k j s (leN ((m.drop (addr+off)).take j))),.int .i64 0])/\Bc w.heap.size w w') Exit.ret { tmps:=p,defers:=[] } w:=by
    intro v p e8 e9 hv;refine bodyPost_ret (results_tmp2 (t:=8) (u:=9) rfl _ _ _) rfl ⟨?_,Ax _ _⟩;rw[l.out,<-hv];show Ending.returned (.tuple #[p.getD 8 undef,p.getD 9 undef])=_;rw[e8,e9]
   have aj:q<18446744073709551616:=Nat.lt_of_lt_of_le hq (Ak (n:=256) (by omega) O);have Q:=fQ (cVk aj)
   cases s with
   | true=>
    by_cases r:2 ^ (8*j - 1)<=q
    ·rw[decide_eq_true r]at I;have A:=fQ r;have J:=fQ hq;clear r hq;go_wp2;go_loop [14,16] (fun E i=>eQb q j E i) (fun _ i=>65 - (intOf i).toNat)
     case atStart=>exact⟨8*j,Bk _,by omega,by simp,by rw[aZo];simp⟩
     case round=>
      obtain⟨t,aA,aD,rfl,rfl⟩:=hrel;by_cases F:t<64
      ·have ah:decide ((t:Int)<64)=true:=(by simp;omega);generalize d:q+2 ^ t - 256 ^ j=x;replace d:=fQ d;go_wp2;have hp:2 ^ (8*j)<=2 ^ t:=Ak (by omega) aA;have hq:=J.out;rw[aZo]at hq;refine⟨⟨t+1,by omega,by omega,by simp,?_⟩,by simp[intOf];omega⟩;have f:x<2 ^ t:=(by rw[<-d.out,aZo];omega);rw[dVm f F,<-d.out,aZo,Ab];refine congrArg (fun z:Nat=>Value.int .u64 (z:Int)) ?_;omega
      ·obtain rfl:t=64:=(by omega);generalize d:q+2 ^ 64 - 256 ^ j=x;replace d:=fQ d
       have f:x<18446744073709551616:=by
        have:=J.out;have:=d.out;omega
       have R:=fQ (show x=q+18446744073709551616 - 256 ^ j from d.out.symm);go_wp2
       ·refine fin _ _ rfl rfl ?_;rw[cVk f,xY,if_pos rfl,C.out,if_pos A.out,aKo,if_pos (eq_of_beq ‹(k == 127)=true›),R.out];rfl
       ·refine fin _ _ rfl rfl ?_;rw[xY,if_pos rfl,C.out,if_pos A.out,aKo,if_neg (ne_of_beq_false ‹(k == 127)=false›),R.out]
    ·rw[decide_eq_false r]at I;have A:=fQ r;have J:=fQ hq;clear r hq;go_wp2
     ·refine fin _ _ rfl rfl ?_;rw[Q.out,xY,if_pos rfl,C.out,if_neg A.out,aKo,if_pos (eq_of_beq ‹(k == 127)=true›)];rfl
     ·refine fin _ _ rfl rfl ?_;rw[xY,if_pos rfl,C.out,if_neg A.out,aKo,if_neg (ne_of_beq_false ‹(k == 127)=false›)]
   | false=>
    clear I;go_wp2
    ·refine fin _ _ rfl rfl ?_;rw[Q.out,xY,if_neg (by decide),aKo,if_pos (eq_of_beq ‹(k == 127)=true›)];rfl
    ·refine fin _ _ rfl rfl ?_;rw[xY,if_neg (by decide),aKo,if_neg (ne_of_beq_false ‹(k == 127)=false›)]
theorem aWa(A:Option Addr)(n c addr off:Nat)(op:Int)(m:List Nat)(w:Bb)(hs:Src w A n (bys m))(s:AllB m)(hn:n<=140737488355328):
  Bd fZ 119 #[.slice A n c,.int .i64 op,.int .u64 addr,.int .u64 off] w fun e w'=>e = .returned (.tuple #[.int .u64 (pV m op addr off).1,.int .i64 (pV m op addr off).2])/\Bc w.heap.size w w':=by
 have d:m.length=n:=by have:=hs.1;rwa[aVc]at this
 cases a:acc op with
 | none=>
  have f:=fQ (show pV m op addr off=(0,1) by simp[pV,a]);have g:=fQ (show fJ op = .tuple #[.int .i64 0,.int .i64 0,.bool false,.bool false] by simp[fJ,a]);clear a hs d;go_in;go_wp2_with fail;refine(fY _ _).mono ?_;rintro e w1 ⟨rfl,rfl⟩;rw[g.out];go_wp2;go_ret2;rw[f.out];exact⟨rfl,Ax _ _⟩
 | some r=>
  obtain⟨k,wd,st,t⟩:=r;obtain⟨hk,af,_,_⟩:=nZ a;obtain⟨h,rfl⟩:=AJ (show 0<=wd by omega);have g:=fQ (show fJ op = .tuple #[.int .i64 k,.int .i64 h,.bool st,.bool true] by simp[fJ,a])
  cases st with
  | true=>
   have f:=fQ (show pV m op addr off=(0,1) by simp[pV,a]);clear a hs d;go_in;go_wp2_with fail;refine(fY _ _).mono ?_;rintro e w1 ⟨rfl,rfl⟩;rw[g.out];go_wp2;go_ret2;rw[f.out];exact⟨rfl,Ax _ _⟩
  | false=>
   by_cases i:4294967295<addr\/4294967295<off
   ·have f:=fQ (show pV m op addr off=(0,1) by simp[pV,a,sV,i]);clear a hs d;by_cases h1:4294967295<addr
    ·have l:decide (4294967295<(addr:Int))=true:=(by simp;omega);clear i;go_in;go_wp2_with fail;refine(fY _ _).mono ?_;rintro e w1 ⟨rfl,rfl⟩;rw[g.out];go_wp2;go_ret2;rw[f.out];exact⟨rfl,Ax _ _⟩
    ·have l:decide (4294967295<(addr:Int))=false:=(by simp;omega);have u:decide (4294967295<(off:Int))=true:=(by simp;omega);clear i;go_in;go_wp2_with fail;refine(fY _ _).mono ?_;rintro e w1 ⟨rfl,rfl⟩;rw[g.out];go_wp2;go_ret2;rw[f.out];exact⟨rfl,Ax _ _⟩
   ·by_cases hi:tX n (addr+off) h=true
    ·have hp:(sV m.length h addr off).2=0:=(by simp[sV,i,d,hi]);obtain⟨ag,p,ha,ho⟩:=bXt hp;rw[d,Int.toNat_natCast]at p;obtain⟨b,o,rfl,ah,hc⟩:=hs.2 (by omega);refine(dXa b o n c addr off h op k t m w a hn ha ho d s p (fun j v=>hc j _ (by simp[bys,v]))).mono ?_;rintro e w' ⟨rfl,hb⟩;refine⟨?_,hb⟩;simp[pV,a,hp]
    ·have q:tX n (addr+off) h=false:=(by simpa using hi);have f:=fQ (show pV m op addr off=(0,35) by simp[pV,a,sV,i,d,q]);clear a hs d hi;have l:decide (4294967295<(addr:Int))=false:=(by simp;omega);have u:decide (4294967295<(off:Int))=false:=(by simp;omega);have ha:addr<=4294967295:=(by omega);have ho:off<=4294967295:=(by omega);clear i;go_in;go_wp2_with fail;refine(fY _ _).mono ?_;rintro e w1 ⟨rfl,rfl⟩;rw[g.out];go_wp2_with fail;refine(sX _ n c (addr+off) h _ hn).mono ?_;rintro e w1 ⟨rfl,rfl⟩;rw[q];go_wp2;go_ret2;rw[f.out];exact⟨rfl,Ax _ _⟩
theorem aZc:(fZ.info? 5).map (fun i=>(i.zero,i.size,i.bytes))=some (some (.int .u8 0),1,1):=by kernel_rfl
theorem bWb(A:Option Addr)(n c:Nat)(m:List Nat)(most:Int)(a:Nat)(w:Bb)(hs:Src w A n (bys m))(t:A=none->n=0/\c=0)(hn:n<=140737488355328)
  (ai : -9223372036854775808<=most) (aj:most<=9223372036854775807) (hp:a<18446744073709551616) :
  Bd fZ 120 #[.slice A n c,.int .i64 most,.int .u64 a] w fun e w'=>∃ g h,e = .returned (.tuple #[.slice g (oV m most a).length h,.int .u64 (wW n most a)]) /\
   w'.ownsRow w.heap.size 5 1 (.slice g (oV m most a).length h) (oV m most a).length (bys (oV m most a))/\Bc w.heap.size w w':=by
 have u:m.length=n:=(by have:=hs.1;rwa[aVc]at this);have i:=fQ hs;have HA:=fQ t;have j:=fQ u;clear hs t u;by_cases hg:aQc n most a=true
 ·have HG:=fQ hg;have k:=fQ (show oV m most a=m++AW (256*a) 0 by simp[oV,j.out,hg]);have o:=fQ (show wW n most a=n / 256 by simp[wW,hg]);simp only[aQc,decide_eq_true_eq]at hg;obtain⟨h1,h2⟩:=hg;have y:(n:Int)+256*a<=most:=(by omega);have h4:n+256*a<=4096:=(by omega);have h6:a<=16:=(by omega);clear h2;have h5:(n:Int) % 256=0:=(by omega)
  have fin:∀ (w1:Bb) (v:Value) (f:Array Value),w1.ownsRow w.heap.size 5 1 v (n+256*a) (bys m++AW (256*a) (.int .u8 0))->Bc w.heap.size w w1->f.getD 6 undef=v->f.getD 7 undef = .int .u64 ((n / 256:Nat):Int) ->
    bodyPost fZ Tryz.f120 (fun e w'=>∃ g h,e = .returned (.tuple #[.slice g (oV m most a).length h,.int .u64 (wW n most a)]) /\
     w'.ownsRow w.heap.size 5 1 (.slice g (oV m most a).length h) (oV m most a).length (bys (oV m most a))/\Bc w.heap.size w w') Exit.ret { tmps:=f,defers:=[] } w1:=by
   intro w1 v f b d p q;refine bodyPost_ret (results_tmp2 rfl _ _ _) rfl ?_;obtain⟨g,h,rfl,_⟩:=gZ b;have x:(oV m most a).length=n+256*a:=(by rw[k.out];simp[j.out]);refine⟨g,h,?_,?_,d⟩
   ·rw[x,o.out];show Ending.returned (.tuple #[f.getD 6 undef,f.getD 7 undef])=_;rw[p,q]
   ·rw[x,k.out,dXx,show bys (AW (256*a) 0)=AW (256*a) (.int .u8 0)from by simp[bys]];exact b
  rcases Int.lt_or_le most 4096 with z | z
  ·go_in;go_wp2_with (at_builtin;refine uY _ rfl _ (.tmp 9) 31 rfl 5 _ 1 underlying31 aZc rfl rfl A n c _ rfl i.out (aQf _) (by unfold maxLen;omega) (by omega) ?_);rintro v w1 ho hb;have b:=fQ ho;have d:=fQ hb;clear ho hb;go_wp2_with (at_builtin;refine aVb _ rfl _ (.tmp 34) 31 3 rfl w.heap.size 5 (.int .u8 0) 1 .i64 underlying31 underlying3 aZc rfl rfl _ n (bys m) rfl b.out .i64 (256*a) _ (by omega) rfl (by unfold maxLen;omega) (by omega) d.out.size ?_)
   all_goals
    rintro B w' ho hb;have r:=fQ ho;have s:=fQ hb;clear ho hb b;go_wp2;refine fin _ _ _ r.out (d.out.trans s.out) rfl ?_;show Value.int .u64 _ = .int .u64 _
    first | rfl | (congr 1;omega)
  ·go_in;go_wp2_with (at_builtin;refine uY _ rfl _ (.tmp 9) 31 rfl 5 _ 1 underlying31 aZc rfl rfl A n c _ rfl i.out (aQf _) (by unfold maxLen;omega) (by omega) ?_);rintro v w1 ho hb;have b:=fQ ho;have d:=fQ hb;clear ho hb;go_wp2_with (at_builtin;refine aVb _ rfl _ (.tmp 34) 31 3 rfl w.heap.size 5 (.int .u8 0) 1 .i64 underlying31 underlying3 aZc rfl rfl _ n (bys m) rfl b.out .i64 (256*a) _ (by omega) rfl (by unfold maxLen;omega) (by omega) d.out.size ?_)
   all_goals
    rintro B w' ho hb;have r:=fQ ho;have s:=fQ hb;clear ho hb b;go_wp2;refine fin _ _ _ r.out (d.out.trans s.out) rfl ?_;show Value.int .u64 _ = .int .u64 _
    first | rfl | (congr 1;omega)
 ·have l:aQc n most a=false:=(by simpa using hg);have k:=fQ (show oV m most a=m by simp[oV,j.out,l]);have o:=fQ (show wW n most a=4294967295 by simp[wW,l])
  have C:n % 256≠0\/((n % 256=0/\16<a)\/(n % 256=0/\a<=16/\min most 4096<(n:Int)+256*a)):=by
   simp[aQc]at l;omega
  clear hg l
  have fin:∀ (w1:Bb) (v:Value) (f:Array Value),w1.ownsRow w.heap.size 5 1 v n (bys m)->Bc w.heap.size w w1->f.getD 6 undef=v->f.getD 7 undef = .int .u64 4294967295 ->
    bodyPost fZ Tryz.f120 (fun e w'=>∃ g h,e = .returned (.tuple #[.slice g (oV m most a).length h,.int .u64 (wW n most a)]) /\
     w'.ownsRow w.heap.size 5 1 (.slice g (oV m most a).length h) (oV m most a).length (bys (oV m most a))/\Bc w.heap.size w w') Exit.ret { tmps:=f,defers:=[] } w1:=by
   intro w1 v f b d p q;refine bodyPost_ret (results_tmp2 rfl _ _ _) rfl ?_;obtain⟨g,h,rfl,_⟩:=gZ b;refine⟨g,h,?_,?_,d⟩
   ·rw[k.out,o.out,j.out];show Ending.returned (.tuple #[f.getD 6 undef,f.getD 7 undef])=_;rw[p,q];rfl
   ·rw[k.out,j.out];exact b
  rcases C with h1 | ⟨h1,h2⟩ | ⟨h1,h2,y⟩
  ·go_in;go_wp2_with (at_builtin;refine uY _ rfl _ (.tmp 9) 31 rfl 5 _ 1 underlying31 aZc rfl rfl A n c _ rfl i.out (aQf _) (by unfold maxLen;omega) (by omega) ?_);rintro v w1 ho hb;have b:=fQ ho;have d:=fQ hb;clear ho hb;go_wp2_with fail
   all_goals first | exact fin _ _ _ b.out d.out rfl rfl | (exfalso;omega) | skip
  ·go_in;go_wp2_with (at_builtin;refine uY _ rfl _ (.tmp 9) 31 rfl 5 _ 1 underlying31 aZc rfl rfl A n c _ rfl i.out (aQf _) (by unfold maxLen;omega) (by omega) ?_);rintro v w1 ho hb;have b:=fQ ho;have d:=fQ hb;clear ho hb;go_wp2_with fail
   all_goals first | exact fin _ _ _ b.out d.out rfl rfl | (exfalso;omega) | skip
  ·go_in;go_wp2_with (at_builtin;refine uY _ rfl _ (.tmp 9) 31 rfl 5 _ 1 underlying31 aZc rfl rfl A n c _ rfl i.out (aQf _) (by unfold maxLen;omega) (by omega) ?_);rintro v w1 ho hb;have b:=fQ ho;have d:=fQ hb;clear ho hb;go_wp2_with fail
   all_goals first | exact fin _ _ _ b.out d.out rfl rfl | (exfalso;omega) | skip
def fitsB(k:Int)(N:Nat):Bool:=decide (k=126\/(k=127/\N<4294967296))
theorem yQ(k:Int)(N:Nat)(w:Bb):Bd fZ 63 #[.int .i64 k,.int .u64 N] w fun e w'=>e = .returned (.bool (fitsB k N))/\w=w':=by
 by_cases h1:k=126
 ·have c:(k == 126)=true:=(by simp[h1]);have a:=fQ (show fitsB k N=true by simp[fitsB,h1]);clear h1;go_in;go_wp2;go_ret;rw[a.out];exact⟨rfl,rfl⟩
 ·have c:(k == 126)=false:=(by simp[h1]);by_cases h2:k=127
  ·have d:(k == 127)=true:=(by simp[h2]);by_cases b:N<4294967296
   ·have f:decide ((N:Int)<4294967296)=true:=(by simp;omega);have a:=fQ (show fitsB k N=true by simp[fitsB,h2,b]);clear h1 h2 b;go_in;go_wp2;go_ret;rw[a.out];exact⟨rfl,rfl⟩
   ·have f:decide ((N:Int)<4294967296)=false:=(by simp;omega);have a:=fQ (show fitsB k N=false by simp[fitsB,h2,b]);clear h1 h2 b;go_in;go_wp2;go_ret;rw[a.out];exact⟨rfl,rfl⟩
  ·have d:(k == 127)=false:=(by simp[h2]);have a:=fQ (show fitsB k N=false by simp[fitsB,h1,h2]);clear h1 h2;go_in;go_wp2;go_ret;rw[a.out];exact⟨rfl,rfl⟩
def dVo(w0:Bb)(base g n c b:Nat)(m:List Nat)(a N:Nat)(i:Value)(wr:Bb):Prop:=
 ∃ k:Nat,k<=b/\i = .int .i64 k/\Hid (wr.ownsRow base 5 1 (.slice (some ⟨g,0,none⟩) n c) n (bys (putB m a N k)))/\Hid (Bc base w0 wr)
theorem dXb(N j:Nat):(N:Int) / 2 ^ (8*j) % 256=((N / 256 ^ j % 256:Nat):Int):=by
 rw[aZo];simp
theorem cVl(A:Option Addr)(n c addr off N a:Nat)(op k:Int)(t:Bool)(m:List Nat)(w:Bb)(d:acc op=some (k,(a:Int),true,t))(hs:Src w A n (bys m))(hn:n<=140737488355328)
  (ha:addr<=4294967295) (ho:off<=4294967295) (au:addr+off+a<=n) (u:fitsB k N=true) :
  Bd fZ 118 #[.slice A n c,.int .i64 op,.int .u64 addr,.int .u64 off,.int .u64 N] w fun e w'=>∃ h l,e = .returned (.tuple #[.slice h n l,.int .i64 0])/\w'.ownsRow w.heap.size 5 1 (.slice h n l) n (bys (putB m (addr+off) N a))/\Bc w.heap.size w w':=by
 obtain⟨x,y,_,_⟩:=nZ d;have av:1<=a:=(by omega);have aw:a<=8:=(by omega);have z:=fQ (show fJ op = .tuple #[.int .i64 k,.int .i64 a,.bool true,.bool true] by simp[fJ,d]);have B:tX n (addr+off) a=true:=(by simp[tX];omega);have g1:decide (4294967295<(addr:Int))=false:=(by simp;omega);have g2:decide (4294967295<(off:Int))=false:=(by simp;omega);have C:=fQ hs;clear d hs x y;go_in;go_wp2_with fail;refine(fY _ _).mono ?_;rintro e w1 ⟨rfl,rfl⟩;rw[z.out];go_wp2_with fail;refine(yQ _ _ _).mono ?_;rintro e w1 ⟨rfl,rfl⟩;rw[u];go_wp2_with fail;refine(sX _ n c (addr+off) a _ hn).mono ?_;rintro e w1 ⟨rfl,rfl⟩;rw[B];go_wp2_with (at_builtin;refine uY _ rfl _ (.tmp 53) 31 rfl 5 (.int .u8 0) 1 underlying31 aZc rfl rfl A n c (bys m) rfl C.out (aQf _) (by unfold maxLen;omega) (by omega) ?_);rintro v o f q;obtain⟨g,D,rfl,ax,E,_⟩:=nQ f (by omega);have r:=fQ f;have F:=fQ (Ax w.heap.size o);have G:=fQ q;clear f q;go_wp2_with fail;go_loopw [17] (fun i wr=>dVo o w.heap.size g n D a m (addr+off) N i wr) (fun i _=>a+1 - (intOf i).toNat)
 case atStart=>exact⟨0,by omega,rfl,r,F⟩
 case round=>
  clear r;obtain⟨j,hj,rfl,b,s⟩:=hrel;by_cases H:j<a
  ·have aq:decide ((j:Int)<(a:Int))=true:=(by simpa using H);have ar:wr.frozen? ⟨g,addr+off+j,none⟩=false:=b.out.frozenAt _
   obtain⟨v,hcell⟩:∃ v,wr.cell? ⟨g,addr+off+j,none⟩=some v:=by
    have hl:=b.out.1;rw[b.out.cellAt (addr+off+j) (by omega)];exact⟨_,Aw (by omega)⟩
   go_wp2;refine⟨⟨j+1,by omega,by simp,?_,fQ (s.out.setCell (p:=⟨g,addr+off+j,none⟩) E _)⟩,by simp[intOf];omega⟩;refine fQ ?_;rw[putB,<-dXz,dXb];exact(b.out.stored (addr+off+j) (.int .u8 ((N / 256 ^ j % 256:Nat):Int))).1
  ·obtain rfl:j=a:=(by omega);go_wp2;go_ret2;exact⟨_,_,rfl,b.out,G.out.trans s.out⟩
theorem aKr(A:Option Addr)(n c addr off N:Nat)(op:Int)(m:List Nat)(w:Bb)(hs:Src w A n (bys m))(hn:n<=140737488355328):
  Bd fZ 118 #[.slice A n c,.int .i64 op,.int .u64 addr,.int .u64 off,.int .u64 N] w fun e w'=>∃ l o,e = .returned (.tuple #[.slice l (nW m op addr off N).length o,.int .i64 (mK n op addr off N)]) /\
   w'.ownsRow w.heap.size 5 1 (.slice l (nW m op addr off N).length o) (nW m op addr off N).length (bys (nW m op addr off N))/\Bc w.heap.size w w':=by
 have d:m.length=n:=by have:=hs.1;rwa[aVc]at this
 have bad:∀ E:Int,E≠0->mK n op addr off N=E->∀ (w':Bb) (i:Array Value),i.getD 10 undef = .slice none 0 0->i.getD 11 undef = .int .i64 E->Bc w.heap.size w w' ->
   bodyPost fZ Tryz.f118 (fun e w'=>∃ l o,e = .returned (.tuple #[.slice l (nW m op addr off N).length o,.int .i64 (mK n op addr off N)]) /\
    w'.ownsRow w.heap.size 5 1 (.slice l (nW m op addr off N).length o) (nW m op addr off N).length (bys (nW m op addr off N))/\Bc w.heap.size w w') Exit.ret { tmps:=i,defers:=[] } w':=by
  intro E q y w' i B e2 hb;have p:nW m op addr off N = []:=(by rw[nW,d,y,if_neg q]);refine bodyPost_ret (results_tmp2 (t:=10) (u:=11) rfl _ _ _) rfl ⟨none,0,?_,?_,hb⟩
  ·rw[p,y];show Ending.returned (.tuple #[i.getD 10 undef,i.getD 11 undef])=_;rw[B,e2];rfl
  ·rw[p];exact World.ownsRow_nil _ _ _ _
 cases a:acc op with
 | none=>
  have b:=fQ (show mK n op addr off N=1 by simp[mK,a]);have f:=fQ (show fJ op = .tuple #[.int .i64 0,.int .i64 0,.bool false,.bool false] by simp[fJ,a]);clear a hs d;go_in;go_wp2_with fail;refine(fY _ _).mono ?_;rintro e w1 ⟨rfl,rfl⟩;rw[f.out];go_wp2;exact bad 1 (by decide) b.out _ _ rfl rfl (Ax _ _)
 | some r=>
  obtain⟨k,wd,st,C⟩:=r;obtain⟨s,v,_,_⟩:=nZ a;obtain⟨g,rfl⟩:=AJ (show 0<=wd by omega);have f:=fQ (show fJ op = .tuple #[.int .i64 k,.int .i64 g,.bool st,.bool true] by simp[fJ,a])
  cases st with
  | false=>
   have b:=fQ (show mK n op addr off N=1 by simp[mK,a]);clear a hs d;go_in;go_wp2_with fail;refine(fY _ _).mono ?_;rintro e w1 ⟨rfl,rfl⟩;rw[f.out];go_wp2;exact bad 1 (by decide) b.out _ _ rfl rfl (Ax _ _)
  | true=>
   have x:k=127\/k=126:=(by omega);by_cases h:4294967295<addr\/4294967295<off
   ·have b:=fQ (show mK n op addr off N=1 by simp[mK,a,sV,h]);clear a hs d;by_cases h1:4294967295<addr
    ·have z:decide (4294967295<(addr:Int))=true:=(by simp;omega);clear h x s v;go_in;go_wp2_with fail;refine(fY _ _).mono ?_;rintro e w1 ⟨rfl,rfl⟩;rw[f.out];go_wp2;exact bad 1 (by decide) b.out _ _ rfl rfl (Ax _ _)
    ·have z:decide (4294967295<(addr:Int))=false:=(by simp;omega);have D:decide (4294967295<(off:Int))=true:=(by simp;omega);clear h x s v;go_in;go_wp2_with fail;refine(fY _ _).mono ?_;rintro e w1 ⟨rfl,rfl⟩;rw[f.out];go_wp2;exact bad 1 (by decide) b.out _ _ rfl rfl (Ax _ _)
   ·have z:decide (4294967295<(addr:Int))=false:=(by simp;omega);have D:decide (4294967295<(off:Int))=false:=(by simp;omega);have ha:addr<=4294967295:=(by omega);have ho:off<=4294967295:=(by omega)
    cases hf:fitsB k N with
    | false=>
     have j:k=127/\4294967295<N:=(by simp[fitsB]at hf;omega);have b:=fQ (show mK n op addr off N=1 by simp[mK,a,j]);clear a hs d h x s v j;go_in;go_wp2_with fail;refine(fY _ _).mono ?_;rintro e w1 ⟨rfl,rfl⟩;rw[f.out];go_wp2_with fail;refine(yQ _ _ _).mono ?_;rintro e w1 ⟨rfl,rfl⟩;rw[hf];go_wp2;exact bad 1 (by decide) b.out _ _ rfl rfl (Ax _ _)
    | true=>
     have j:¬(k=127/\4294967295<N):=by simp[fitsB]at hf;omega
     cases hi:tX n (addr+off) g with
     | true=>
      have hp:(sV n g addr off).2=0:=(by simp[sV,h,hi]);obtain⟨_,F,_,_⟩:=bXt hp;have q:mK n op addr off N=0:=(by simp[mK,a,j,hp]);have p:nW m op addr off N=putB m (addr+off) N g:=(by simp[nW,d,q,dVf,a]);have G:(nW m op addr off N).length=n:=(by rw[p,aXn,d]);rw[G,p,q];exact cVl A n c addr off N g op k C m w a hs hn ha ho (by simpa using F) hf
     | false=>
      have b:=fQ (show mK n op addr off N=35 by simp[mK,a,j,sV,h,hi]);have ai:g<=8:=(by omega);clear a hs d h x s v j;go_in;go_wp2_with fail;refine(fY _ _).mono ?_;rintro e w1 ⟨rfl,rfl⟩;rw[f.out];go_wp2_with fail;refine(yQ _ _ _).mono ?_;rintro e w1 ⟨rfl,rfl⟩;rw[hf];go_wp2_with fail;refine(sX _ n c (addr+off) g _ hn).mono ?_;rintro e w1 ⟨rfl,rfl⟩;rw[hi];go_wp2;exact bad 35 (by decide) b.out _ _ rfl rfl (Ax _ _)
theorem mJ(t:Int)(n:Nat)(w:Bb):Bd fZ 63 #[.int .i64 t,.int .u64 n] w fun e w'=>e = .returned (.bool (iK t n))/\w=w':=by
 by_cases h1:t=126
 ·have c:(t == 126)=true:=(by simp[h1]);have a:=fQ (show iK t n=true by simp[iK,h1]);clear h1;go_in;go_wp2;go_ret;rw[a.out];exact⟨rfl,rfl⟩
 ·have c:(t == 126)=false:=(by simp[h1]);by_cases h2:t=127
  ·have d:(t == 127)=true:=(by simp[h2]);by_cases b:n<4294967296
   ·have f:decide ((n:Int)<4294967296)=true:=(by simp;omega);have a:=fQ (show iK t n=true by simp[iK,h2,b]);clear h1 h2;go_in;go_wp2;go_ret;rw[a.out];exact⟨rfl,rfl⟩
   ·have f:decide ((n:Int)<4294967296)=false:=(by simp;omega);have a:=fQ (show iK t n=false by simp[iK,h2,b]);clear h1 h2;go_in;go_wp2;go_ret;rw[a.out];exact⟨rfl,rfl⟩
  ·have d:(t == 127)=false:=(by simp[h2]);have a:=fQ (show iK t n=false by simp[iK,h1,h2]);clear h1 h2;go_in;go_wp2;go_ret;rw[a.out];exact⟨rfl,rfl⟩
theorem zZ(w:Bb):Bd fZ 138 #[.int .i64 127] w fun e w'=>e = .returned (.int .i64 32)/\w=w':=by
 go_in;go_wp2;go_ret;exact⟨rfl,rfl⟩
theorem zJ(w:Bb):Bd fZ 138 #[.int .i64 126] w fun e w'=>e = .returned (.int .i64 64)/\w=w':=by
 go_in;go_wp2;go_ret;exact⟨rfl,rfl⟩
theorem aZe(b:Bool)(w:Bb):Bd fZ 139 #[.bool b] w fun e w'=>e = .returned (.int .u64 (b01 b))/\w=w':=by
 cases b with
 | true=>
  go_in;go_wp2;go_ret;exact⟨rfl,rfl⟩
 | false=>
  go_in;go_wp2;go_ret;exact⟨rfl,rfl⟩
theorem xX(z:Int)(w:Bb):Bd fZ 144 #[.int .u64 z,.int .i64 64] w fun e w'=>e = .returned (.int .u64 z)/\w=w':=by
 go_in;go_wp2;go_ret;exact⟨rfl,rfl⟩
theorem dVu{z:Int}(a:0<=z)(hz:z<18446744073709551616):bits .and .u64 z 4294967295=z % 4294967296:=by
 obtain⟨x,rfl⟩:=AJ a;rw[show(4294967295:Int)=((2 ^ 32 - 1:Nat):Int)from rfl,bits_and_u64_nat x (2 ^ 32 - 1) (by omega) (by decide),AQ];simp
theorem xZ(z:Int)(w:Bb)(a:0<=z)(hz:z<18446744073709551616):Bd fZ 144 #[.int .u64 z,.int .i64 32] w fun e w'=>e = .returned (.int .u64 (z % 4294967296))/\w=w':=by
 have b:=fQ (dVu a hz);go_in;go_wp2;go_ret;rw[<-b.out];exact⟨rfl,rfl⟩
theorem eXe(z:Int):wrap64 (IntKind.u64.wrap (z*4294967296)) / 4294967296=wrap32 z:=by rw[Aj];unfold wrap64 wrap32;omega
theorem eXf(z:Int):wrap64 (IntKind.u64.wrap (z*281474976710656)) / 281474976710656=IntKind.i16.wrap z:=by
 have a:z*281474976710656 % 18446744073709551616=281474976710656*(z % 65536):=by
  rw[BJ z 281474976710656,show(18446744073709551616:Int)=281474976710656*65536 from rfl,Aa _ _ (by decide)]
 rw[Aj,a];have b:0<=z % 65536:=Bv _ (by decide);have h1:z % 65536<65536:=Ai _ (by decide);unfold wrap64;simp only[BQ,show(2:Int) ^ IntKind.i16.bits=65536 from rfl,show(2:Int) ^ IntKind.i8.bits=256 from rfl,show(2:Int) ^ (IntKind.i16.bits - 1)=32768 from rfl,show(2:Int) ^ (IntKind.i8.bits - 1)=128 from rfl];generalize z % 65536=r at b h1 ⊢
 split
 ·rename_i hs;have c:32768<=r:=(by simpa[AY]using hs);omega
 ·rename_i hs;have c:r<32768:=(by simpa[AY]using hs);omega
theorem sg8(z:Int):wrap64 (IntKind.u64.wrap (z*72057594037927936)) / 72057594037927936=IntKind.i8.wrap z:=by
 have a:z*72057594037927936 % 18446744073709551616=72057594037927936*(z % 256):=by
  rw[BJ z 72057594037927936,show(18446744073709551616:Int)=72057594037927936*256 from rfl,Aa _ _ (by decide)]
 rw[Aj,a];have b:0<=z % 256:=Bv _ (by decide);have h1:z % 256<256:=Ai _ (by decide);unfold wrap64;simp only[BQ,show(2:Int) ^ IntKind.i16.bits=65536 from rfl,show(2:Int) ^ IntKind.i8.bits=256 from rfl,show(2:Int) ^ (IntKind.i16.bits - 1)=32768 from rfl,show(2:Int) ^ (IntKind.i8.bits - 1)=128 from rfl];generalize z % 256=r at b h1 ⊢
 split
 ·rename_i hs;have c:128<=r:=(by simpa[AY]using hs);omega
 ·rename_i hs;have c:r<128:=(by simpa[AY]using hs);omega
theorem aQl{k:IntKind}{a b:Int}(h:a=b):Ending.returned (.int k a) = .returned (.int k b):=by rw[h]
theorem aJt(z:Int)(w:Bb)(h0:0<=z)(hz:z<18446744073709551616):Bd fZ 145 #[.int .u64 z,.int .i64 64] w fun e w'=>e = .returned (.int .i64 (wrap64 z))/\w=w':=by
 go_in;go_wp2;go_ret;exact⟨rfl,rfl⟩
theorem aQm(z:Int)(w:Bb)(h0:0<=z)(hz:z<18446744073709551616):Bd fZ 145 #[.int .u64 z,.int .i64 32] w fun e w'=>e = .returned (.int .i64 (wrap32 z))/\w=w':=by
 go_in;go_wp2;go_ret;exact⟨aQl (eXe z),rfl⟩
theorem bKs(z:Int)(w:Bb)(h0:0<=z)(hz:z<18446744073709551616):Bd fZ 145 #[.int .u64 z,.int .i64 16] w fun e w'=>e = .returned (.int .i64 (IntKind.i16.wrap z))/\w=w':=by
 go_in;go_wp2;go_ret;exact⟨aQl (eXf z),rfl⟩
theorem bWx(z:Int)(w:Bb)(h0:0<=z)(hz:z<18446744073709551616):Bd fZ 145 #[.int .u64 z,.int .i64 8] w fun e w'=>e = .returned (.int .i64 (IntKind.i8.wrap z))/\w=w':=by
 go_in;go_wp2;go_ret;exact⟨aQl (sg8 z),rfl⟩
theorem bKt{k g:Nat}{x y:Int}{w:Bb}(hk:k<10)(hb:Blk w g 4 ((xK a b x y).map Value.bool).toArray):w.cell? ⟨g,k,none⟩=some (.bool ((xK a b x y).getD k false)):=by
 rw[hb.cell k];simp only[List.getElem?_toArray,List.getElem?_map];rw[Aw (by simp[xK];omega),List.getD_eq_getElem?_getD,Aw (by simp[xK];omega)];rfl
theorem cWo(k a b:Nat)(w:Bb)(f:k<10)(ha:a<18446744073709551616)(hb:b<18446744073709551616):Bd fZ 141 #[.int .i64 k,.int .u64 a,.int .u64 b,.int .i64 64] w fun e w'=>e = .returned (.int .u64 (b01 ((xK a b (wrap64 a) (wrap64 b)).getD k false)))/\Bc w.heap.size w w':=by
 have hc:=fun(w:Bb)=>bKt (a:=a) (b:=b) (x:=wrap64 a) (y:=wrap64 b) f (Blk.new w 4 _);have g:=fQ hc;have ab:(k:Int)<10:=(by omega);have ad:k<10:=f;clear hc;go_in;go_wp2_with fail;refine(aJt (a:Int) _ (by omega) (by omega)).mono ?_;rintro e w1 ⟨rfl,rfl⟩;go_wp2_with fail;refine(aJt (b:Int) _ (by omega) (by omega)).mono ?_;rintro e w1 ⟨rfl,rfl⟩;obtain⟨r,d⟩:=fX ((xK a b (wrap64 a) (wrap64 b)).getD k false);have c:=g.out w;rw[d]at c;have h:=fQ d;generalize i:wrap64 (a:Int)=x at c ⊢;generalize j:wrap64 (b:Int)=y at c ⊢;simp only[xK,By,BX,BZ]at c;clear i j g d;go_wp2_with fail;refine(aZe r _).mono ?_;rintro e w1 ⟨rfl,rfl⟩;go_wp2;go_ret;exact⟨aQl (by rw[h.out]),(Ax _ _).alloc (Bk _) _⟩
theorem cWp(k a b:Nat)(w:Bb)(f:k<10)(ha:a<18446744073709551616)(hb:b<18446744073709551616):Bd fZ 141 #[.int .i64 k,.int .u64 a,.int .u64 b,.int .i64 32] w fun e w'=>e = .returned (.int .u64 (b01 ((xK a b (wrap32 a) (wrap32 b)).getD k false)))/\Bc w.heap.size w w':=by
 have hc:=fun(w:Bb)=>bKt (a:=a) (b:=b) (x:=wrap32 a) (y:=wrap32 b) f (Blk.new w 4 _);have g:=fQ hc;have ab:(k:Int)<10:=(by omega);have ad:k<10:=f;clear hc;go_in;go_wp2_with fail;refine(aQm (a:Int) _ (by omega) (by omega)).mono ?_;rintro e w1 ⟨rfl,rfl⟩;go_wp2_with fail;refine(aQm (b:Int) _ (by omega) (by omega)).mono ?_;rintro e w1 ⟨rfl,rfl⟩;obtain⟨r,d⟩:=fX ((xK a b (wrap32 a) (wrap32 b)).getD k false);have c:=g.out w;rw[d]at c;have h:=fQ d;generalize i:wrap32 (a:Int)=x at c ⊢;generalize j:wrap32 (b:Int)=y at c ⊢;simp only[xK,By,BX,BZ]at c;clear i j g d;go_wp2_with fail;refine(aZe r _).mono ?_;rintro e w1 ⟨rfl,rfl⟩;go_wp2;go_ret;exact⟨aQl (by rw[h.out]),(Ax _ _).alloc (Bk _) _⟩
theorem zQ:wrap64 9223372036854775808 = -9223372036854775808:=by unfold wrap64;omega
theorem zX:wrap32 2147483648 = -2147483648:=by unfold wrap32;omega
theorem iW(z x:Int)(w:Bb)(a:0<=z)(hz:z<18446744073709551616)(b:wrap64 z=x):Bd fZ 145 #[.int .u64 z,.int .i64 64] w fun e w'=>e = .returned (.int .i64 x)/\w=w':=by
 subst b;exact aJt z w a hz
theorem iY(z x:Int)(w:Bb)(a:0<=z)(hz:z<18446744073709551616)(b:wrap32 z=x):Bd fZ 145 #[.int .u64 z,.int .i64 32] w fun e w'=>e = .returned (.int .i64 x)/\w=w':=by
 subst b;exact aQm z w a hz
theorem lY(z:Int):IntKind.u64.wrap (wrap64 z) % 4294967296=z % 4294967296:=by rw[qJ];omega
theorem lJ(z:Int):IntKind.u64.wrap z % 4294967296=z % 4294967296:=by rw[Aj];omega
theorem mX(z:Int):0<=IntKind.u64.wrap z/\IntKind.u64.wrap z<18446744073709551616:=by rw[Aj];omega
theorem aYu(k a b:Nat)(w:Bb)(l:k=0\/k=1\/k=2\/k=3)(ha:a<18446744073709551616)(hb:b<18446744073709551616):Bd fZ 157 #[.int .i64 k,.int .u64 a,.int .u64 b,.int .i64 64] w fun e w'=>e = .returned (.tuple #[.int .u64 (jQ 18446744073709551616 (-9223372036854775808) k a b (wrap64 a) (wrap64 b)).1,.int .i64 (jQ 18446744073709551616 (-9223372036854775808) k a b (wrap64 a) (wrap64 b)).2])/\w=w':=by
 have m : -9223372036854775808<=wrap64 (a:Int)/\wrap64 (a:Int)<=9223372036854775807:=(by unfold wrap64;omega);have n : -9223372036854775808<=wrap64 (b:Int)/\wrap64 (b:Int)<=9223372036854775807:=(by unfold wrap64;omega);have i:wrap64 (b:Int)=0->b=0:=(by unfold wrap64;omega);obtain⟨x,f⟩:=fX (wrap64 (a:Int));obtain⟨y,g⟩:=fX (wrap64 (b:Int));rw[f]at m;rw[g]at n i;rw[f,g];replace f:=fQ f;replace g:=fQ g;obtain⟨af,ag⟩:=m;obtain⟨ah,ai⟩:=n;have aj:a<18446744073709551616:=(by omega);have ak:b<18446744073709551616:=(by omega);by_cases c:b=0
 ·have o:((b:Int) == 0)=true:=(by simp[c]);have d:=fQ (show jQ 18446744073709551616 (-9223372036854775808) k a b x y=(0,33) by simp[jQ,c]);clear c i l;go_in;go_wp2_with fail;refine(iW (a:Int) x _ (by omega) (by omega) f.out).mono ?_;rintro e w1 ⟨rfl,rfl⟩;go_wp2_with fail;refine(iW (b:Int) y _ (by omega) (by omega) g.out).mono ?_;rintro e w1 ⟨rfl,rfl⟩;go_wp2;go_ret2;rw[d.out];exact⟨rfl,rfl⟩
 have o:((b:Int) == 0)=false:=(by simp;omega);have al:(y == 0)=false:=(by simp;intro e;exact c (i e));have ae:¬y=0:=fun e=>c (i e);have an:0<b:=(by omega);by_cases h:y = -1
 ·have y1:(y == -1)=true:=(by simp[h]);by_cases j:x = -9223372036854775808
  ·have x1:(x == -9223372036854775808)=true:=(by simp[j]);rcases l with rfl | rfl | rfl | rfl
   ·have d:=fQ (show jQ 18446744073709551616 (-9223372036854775808) ((0:Nat):Int) a b x y=(0,34)from by simp[jQ,c,h,j]);clear c i h j;go_in;go_wp2_with fail;refine(iW (a:Int) x _ (by omega) (by omega) f.out).mono ?_;rintro e w1 ⟨rfl,rfl⟩;go_wp2_with fail;refine(iW (b:Int) y _ (by omega) (by omega) g.out).mono ?_;rintro e w1 ⟨rfl,rfl⟩;go_wp2_with fail;refine(iW 9223372036854775808 (-9223372036854775808) _ (by omega) (by omega) zQ).mono ?_;rintro e w1 ⟨rfl,rfl⟩;go_wp2;go_ret2;rw[d.out];exact⟨rfl,rfl⟩
   ·have d:=fQ (show jQ 18446744073709551616 (-9223372036854775808) ((1:Nat):Int) a b x y=((a:Int) / b,0)from by unfold jQ;rw[if_neg c,if_neg (by decide),if_pos (by rfl)]);clear c i h j;go_in;go_wp2_with fail;refine(iW (a:Int) x _ (by omega) (by omega) f.out).mono ?_;rintro e w1 ⟨rfl,rfl⟩;go_wp2_with fail;refine(iW (b:Int) y _ (by omega) (by omega) g.out).mono ?_;rintro e w1 ⟨rfl,rfl⟩;go_wp2_with fail;refine(iW 9223372036854775808 (-9223372036854775808) _ (by omega) (by omega) zQ).mono ?_;rintro e w1 ⟨rfl,rfl⟩;go_wp2;go_ret2;rw[d.out];exact⟨iX (by first | rfl | (rw[Aj];exact zV (by omega))),rfl⟩
   ·have d:=fQ (show jQ 18446744073709551616 (-9223372036854775808) ((2:Nat):Int) a b x y=(0,0)from by unfold jQ;rw[if_neg c,if_neg (by decide),if_neg (by decide),if_pos (by rfl),h,BK,BV];rfl);clear c i h j;go_in;go_wp2_with fail;refine(iW (a:Int) x _ (by omega) (by omega) f.out).mono ?_;rintro e w1 ⟨rfl,rfl⟩;go_wp2_with fail;refine(iW (b:Int) y _ (by omega) (by omega) g.out).mono ?_;rintro e w1 ⟨rfl,rfl⟩;go_wp2_with fail;refine(iW 9223372036854775808 (-9223372036854775808) _ (by omega) (by omega) zQ).mono ?_;rintro e w1 ⟨rfl,rfl⟩;go_wp2;go_ret2;rw[d.out];exact⟨rfl,rfl⟩
   ·have d:=fQ (show jQ 18446744073709551616 (-9223372036854775808) ((3:Nat):Int) a b x y=((a:Int) % b,0)from by unfold jQ;rw[if_neg c,if_neg (by decide),if_neg (by decide),if_neg (by decide)]);clear c i h j;go_in;go_wp2_with fail;refine(iW (a:Int) x _ (by omega) (by omega) f.out).mono ?_;rintro e w1 ⟨rfl,rfl⟩;go_wp2_with fail;refine(iW (b:Int) y _ (by omega) (by omega) g.out).mono ?_;rintro e w1 ⟨rfl,rfl⟩;go_wp2_with fail;refine(iW 9223372036854775808 (-9223372036854775808) _ (by omega) (by omega) zQ).mono ?_;rintro e w1 ⟨rfl,rfl⟩;go_wp2;go_ret2;rw[d.out];exact⟨iX (by first | rfl | (rw[Aj];exact zW (by omega))),rfl⟩
  ·have x1:(x == -9223372036854775808)=false:=(by simp[j]);rcases l with rfl | rfl | rfl | rfl
   ·have d:=fQ (show jQ 18446744073709551616 (-9223372036854775808) ((0:Nat):Int) a b x y=((x.tdiv y) % 18446744073709551616,0)from by unfold jQ;rw[if_neg c,if_pos (by rfl),if_neg (by simp[j])]);clear c i h j;go_in;go_wp2_with fail;refine(iW (a:Int) x _ (by omega) (by omega) f.out).mono ?_;rintro e w1 ⟨rfl,rfl⟩;go_wp2_with fail;refine(iW (b:Int) y _ (by omega) (by omega) g.out).mono ?_;rintro e w1 ⟨rfl,rfl⟩;go_wp2_with fail;refine(iW 9223372036854775808 (-9223372036854775808) _ (by omega) (by omega) zQ).mono ?_;rintro e w1 ⟨rfl,rfl⟩;go_wp2_with fail;refine(xX _ _).mono ?_;rintro e w1 ⟨rfl,rfl⟩;go_wp2;go_ret2;rw[d.out];exact⟨iX (by first | exact qJ _ | exact Aj _ | exact lY _ | exact lJ _),rfl⟩
   ·have d:=fQ (show jQ 18446744073709551616 (-9223372036854775808) ((1:Nat):Int) a b x y=((a:Int) / b,0)from by unfold jQ;rw[if_neg c,if_neg (by decide),if_pos (by rfl)]);clear c i h j;go_in;go_wp2_with fail;refine(iW (a:Int) x _ (by omega) (by omega) f.out).mono ?_;rintro e w1 ⟨rfl,rfl⟩;go_wp2_with fail;refine(iW (b:Int) y _ (by omega) (by omega) g.out).mono ?_;rintro e w1 ⟨rfl,rfl⟩;go_wp2_with fail;refine(iW 9223372036854775808 (-9223372036854775808) _ (by omega) (by omega) zQ).mono ?_;rintro e w1 ⟨rfl,rfl⟩;go_wp2;go_ret2;rw[d.out];exact⟨iX (by first | rfl | (rw[Aj];exact zV (by omega))),rfl⟩
   ·have d:=fQ (show jQ 18446744073709551616 (-9223372036854775808) ((2:Nat):Int) a b x y=((x.tmod y) % 18446744073709551616,0)from by unfold jQ;rw[if_neg c,if_neg (by decide),if_neg (by decide),if_pos (by rfl)]);clear c i h j;go_in;go_wp2_with fail;refine(iW (a:Int) x _ (by omega) (by omega) f.out).mono ?_;rintro e w1 ⟨rfl,rfl⟩;go_wp2_with fail;refine(iW (b:Int) y _ (by omega) (by omega) g.out).mono ?_;rintro e w1 ⟨rfl,rfl⟩;go_wp2_with fail;refine(iW 9223372036854775808 (-9223372036854775808) _ (by omega) (by omega) zQ).mono ?_;rintro e w1 ⟨rfl,rfl⟩;go_wp2_with fail;refine(xX _ _).mono ?_;rintro e w1 ⟨rfl,rfl⟩;go_wp2;go_ret2;rw[d.out];exact⟨iX (by first | exact qJ _ | exact Aj _ | exact lY _ | exact lJ _),rfl⟩
   ·have d:=fQ (show jQ 18446744073709551616 (-9223372036854775808) ((3:Nat):Int) a b x y=((a:Int) % b,0)from by unfold jQ;rw[if_neg c,if_neg (by decide),if_neg (by decide),if_neg (by decide)]);clear c i h j;go_in;go_wp2_with fail;refine(iW (a:Int) x _ (by omega) (by omega) f.out).mono ?_;rintro e w1 ⟨rfl,rfl⟩;go_wp2_with fail;refine(iW (b:Int) y _ (by omega) (by omega) g.out).mono ?_;rintro e w1 ⟨rfl,rfl⟩;go_wp2_with fail;refine(iW 9223372036854775808 (-9223372036854775808) _ (by omega) (by omega) zQ).mono ?_;rintro e w1 ⟨rfl,rfl⟩;go_wp2;go_ret2;rw[d.out];exact⟨iX (by first | rfl | (rw[Aj];exact zW (by omega))),rfl⟩
 ·have y1:(y == -1)=false:=(by simp[h]);rcases l with rfl | rfl | rfl | rfl
  ·have d:=fQ (show jQ 18446744073709551616 (-9223372036854775808) ((0:Nat):Int) a b x y=((x.tdiv y) % 18446744073709551616,0)from by unfold jQ;rw[if_neg c,if_pos (by rfl),if_neg (by simp[h])]);clear c i h;go_in;go_wp2_with fail;refine(iW (a:Int) x _ (by omega) (by omega) f.out).mono ?_;rintro e w1 ⟨rfl,rfl⟩;go_wp2_with fail;refine(iW (b:Int) y _ (by omega) (by omega) g.out).mono ?_;rintro e w1 ⟨rfl,rfl⟩;go_wp2_with fail;refine(xX _ _).mono ?_;rintro e w1 ⟨rfl,rfl⟩;go_wp2;go_ret2;rw[d.out];exact⟨iX (by first | exact qJ _ | exact Aj _ | exact lY _ | exact lJ _),rfl⟩
  ·have d:=fQ (show jQ 18446744073709551616 (-9223372036854775808) ((1:Nat):Int) a b x y=((a:Int) / b,0)from by unfold jQ;rw[if_neg c,if_neg (by decide),if_pos (by rfl)]);clear c i h;go_in;go_wp2_with fail;refine(iW (a:Int) x _ (by omega) (by omega) f.out).mono ?_;rintro e w1 ⟨rfl,rfl⟩;go_wp2_with fail;refine(iW (b:Int) y _ (by omega) (by omega) g.out).mono ?_;rintro e w1 ⟨rfl,rfl⟩;go_wp2;go_ret2;rw[d.out];exact⟨iX (by first | rfl | (rw[Aj];exact zV (by omega))),rfl⟩
  ·have d:=fQ (show jQ 18446744073709551616 (-9223372036854775808) ((2:Nat):Int) a b x y=((x.tmod y) % 18446744073709551616,0)from by unfold jQ;rw[if_neg c,if_neg (by decide),if_neg (by decide),if_pos (by rfl)]);clear c i h;go_in;go_wp2_with fail;refine(iW (a:Int) x _ (by omega) (by omega) f.out).mono ?_;rintro e w1 ⟨rfl,rfl⟩;go_wp2_with fail;refine(iW (b:Int) y _ (by omega) (by omega) g.out).mono ?_;rintro e w1 ⟨rfl,rfl⟩;go_wp2_with fail;refine(xX _ _).mono ?_;rintro e w1 ⟨rfl,rfl⟩;go_wp2;go_ret2;rw[d.out];exact⟨iX (by first | exact qJ _ | exact Aj _ | exact lY _ | exact lJ _),rfl⟩
  ·have d:=fQ (show jQ 18446744073709551616 (-9223372036854775808) ((3:Nat):Int) a b x y=((a:Int) % b,0)from by unfold jQ;rw[if_neg c,if_neg (by decide),if_neg (by decide),if_neg (by decide)]);clear c i h;go_in;go_wp2_with fail;refine(iW (a:Int) x _ (by omega) (by omega) f.out).mono ?_;rintro e w1 ⟨rfl,rfl⟩;go_wp2_with fail;refine(iW (b:Int) y _ (by omega) (by omega) g.out).mono ?_;rintro e w1 ⟨rfl,rfl⟩;go_wp2;go_ret2;rw[d.out];exact⟨iX (by first | rfl | (rw[Aj];exact zW (by omega))),rfl⟩
theorem aYv(k a b:Nat)(w:Bb)(l:k=0\/k=1\/k=2\/k=3)(ha:a<4294967296)(hb:b<4294967296):Bd fZ 157 #[.int .i64 k,.int .u64 a,.int .u64 b,.int .i64 32] w fun e w'=>e = .returned (.tuple #[.int .u64 (jQ 4294967296 (-2147483648) k a b (wrap32 a) (wrap32 b)).1,.int .i64 (jQ 4294967296 (-2147483648) k a b (wrap32 a) (wrap32 b)).2])/\w=w':=by
 have m : -2147483648<=wrap32 (a:Int)/\wrap32 (a:Int)<=2147483647:=(by unfold wrap32;omega);have n : -2147483648<=wrap32 (b:Int)/\wrap32 (b:Int)<=2147483647:=(by unfold wrap32;omega);have i:wrap32 (b:Int)=0->b=0:=(by unfold wrap32;omega);obtain⟨x,f⟩:=fX (wrap32 (a:Int));obtain⟨y,g⟩:=fX (wrap32 (b:Int));rw[f]at m;rw[g]at n i;rw[f,g];replace f:=fQ f;replace g:=fQ g;obtain⟨af,ag⟩:=m;obtain⟨ah,ai⟩:=n;have aj:a<18446744073709551616:=(by omega);have ak:b<18446744073709551616:=(by omega);by_cases c:b=0
 ·have o:((b:Int) == 0)=true:=(by simp[c]);have d:=fQ (show jQ 4294967296 (-2147483648) k a b x y=(0,33) by simp[jQ,c]);clear c i l;go_in;go_wp2_with fail;refine(iY (a:Int) x _ (by omega) (by omega) f.out).mono ?_;rintro e w1 ⟨rfl,rfl⟩;go_wp2_with fail;refine(iY (b:Int) y _ (by omega) (by omega) g.out).mono ?_;rintro e w1 ⟨rfl,rfl⟩;go_wp2;go_ret2;rw[d.out];exact⟨rfl,rfl⟩
 have o:((b:Int) == 0)=false:=(by simp;omega);have al:(y == 0)=false:=(by simp;intro e;exact c (i e));have ae:¬y=0:=fun e=>c (i e);have an:0<b:=(by omega);by_cases h:y = -1
 ·have y1:(y == -1)=true:=(by simp[h]);by_cases j:x = -2147483648
  ·have x1:(x == -2147483648)=true:=(by simp[j]);rcases l with rfl | rfl | rfl | rfl
   ·have d:=fQ (show jQ 4294967296 (-2147483648) ((0:Nat):Int) a b x y=(0,34)from by simp[jQ,c,h,j]);clear c i h j;go_in;go_wp2_with fail;refine(iY (a:Int) x _ (by omega) (by omega) f.out).mono ?_;rintro e w1 ⟨rfl,rfl⟩;go_wp2_with fail;refine(iY (b:Int) y _ (by omega) (by omega) g.out).mono ?_;rintro e w1 ⟨rfl,rfl⟩;go_wp2_with fail;refine(iY 2147483648 (-2147483648) _ (by omega) (by omega) zX).mono ?_;rintro e w1 ⟨rfl,rfl⟩;go_wp2;go_ret2;rw[d.out];exact⟨rfl,rfl⟩
   ·have d:=fQ (show jQ 4294967296 (-2147483648) ((1:Nat):Int) a b x y=((a:Int) / b,0)from by unfold jQ;rw[if_neg c,if_neg (by decide),if_pos (by rfl)]);clear c i h j;go_in;go_wp2_with fail;refine(iY (a:Int) x _ (by omega) (by omega) f.out).mono ?_;rintro e w1 ⟨rfl,rfl⟩;go_wp2_with fail;refine(iY (b:Int) y _ (by omega) (by omega) g.out).mono ?_;rintro e w1 ⟨rfl,rfl⟩;go_wp2_with fail;refine(iY 2147483648 (-2147483648) _ (by omega) (by omega) zX).mono ?_;rintro e w1 ⟨rfl,rfl⟩;go_wp2;go_ret2;rw[d.out];exact⟨iX (by first | rfl | (rw[Aj];exact zV (by omega))),rfl⟩
   ·have d:=fQ (show jQ 4294967296 (-2147483648) ((2:Nat):Int) a b x y=(0,0)from by unfold jQ;rw[if_neg c,if_neg (by decide),if_neg (by decide),if_pos (by rfl),h,BK,BV];rfl);clear c i h j;go_in;go_wp2_with fail;refine(iY (a:Int) x _ (by omega) (by omega) f.out).mono ?_;rintro e w1 ⟨rfl,rfl⟩;go_wp2_with fail;refine(iY (b:Int) y _ (by omega) (by omega) g.out).mono ?_;rintro e w1 ⟨rfl,rfl⟩;go_wp2_with fail;refine(iY 2147483648 (-2147483648) _ (by omega) (by omega) zX).mono ?_;rintro e w1 ⟨rfl,rfl⟩;go_wp2;go_ret2;rw[d.out];exact⟨rfl,rfl⟩
   ·have d:=fQ (show jQ 4294967296 (-2147483648) ((3:Nat):Int) a b x y=((a:Int) % b,0)from by unfold jQ;rw[if_neg c,if_neg (by decide),if_neg (by decide),if_neg (by decide)]);clear c i h j;go_in;go_wp2_with fail;refine(iY (a:Int) x _ (by omega) (by omega) f.out).mono ?_;rintro e w1 ⟨rfl,rfl⟩;go_wp2_with fail;refine(iY (b:Int) y _ (by omega) (by omega) g.out).mono ?_;rintro e w1 ⟨rfl,rfl⟩;go_wp2_with fail;refine(iY 2147483648 (-2147483648) _ (by omega) (by omega) zX).mono ?_;rintro e w1 ⟨rfl,rfl⟩;go_wp2;go_ret2;rw[d.out];exact⟨iX (by first | rfl | (rw[Aj];exact zW (by omega))),rfl⟩
  ·have x1:(x == -2147483648)=false:=(by simp[j]);rcases l with rfl | rfl | rfl | rfl
   ·have d:=fQ (show jQ 4294967296 (-2147483648) ((0:Nat):Int) a b x y=((x.tdiv y) % 4294967296,0)from by unfold jQ;rw[if_neg c,if_pos (by rfl),if_neg (by simp[j])]);clear c i h j;go_in;go_wp2_with fail;refine(iY (a:Int) x _ (by omega) (by omega) f.out).mono ?_;rintro e w1 ⟨rfl,rfl⟩;go_wp2_with fail;refine(iY (b:Int) y _ (by omega) (by omega) g.out).mono ?_;rintro e w1 ⟨rfl,rfl⟩;go_wp2_with fail;refine(iY 2147483648 (-2147483648) _ (by omega) (by omega) zX).mono ?_;rintro e w1 ⟨rfl,rfl⟩;go_wp2_with fail;refine(xZ _ _ (mX _).1 (mX _).2).mono ?_;rintro e w1 ⟨rfl,rfl⟩;go_wp2;go_ret2;rw[d.out];exact⟨iX (by first | exact qJ _ | exact Aj _ | exact lY _ | exact lJ _),rfl⟩
   ·have d:=fQ (show jQ 4294967296 (-2147483648) ((1:Nat):Int) a b x y=((a:Int) / b,0)from by unfold jQ;rw[if_neg c,if_neg (by decide),if_pos (by rfl)]);clear c i h j;go_in;go_wp2_with fail;refine(iY (a:Int) x _ (by omega) (by omega) f.out).mono ?_;rintro e w1 ⟨rfl,rfl⟩;go_wp2_with fail;refine(iY (b:Int) y _ (by omega) (by omega) g.out).mono ?_;rintro e w1 ⟨rfl,rfl⟩;go_wp2_with fail;refine(iY 2147483648 (-2147483648) _ (by omega) (by omega) zX).mono ?_;rintro e w1 ⟨rfl,rfl⟩;go_wp2;go_ret2;rw[d.out];exact⟨iX (by first | rfl | (rw[Aj];exact zV (by omega))),rfl⟩
   ·have d:=fQ (show jQ 4294967296 (-2147483648) ((2:Nat):Int) a b x y=((x.tmod y) % 4294967296,0)from by unfold jQ;rw[if_neg c,if_neg (by decide),if_neg (by decide),if_pos (by rfl)]);clear c i h j;go_in;go_wp2_with fail;refine(iY (a:Int) x _ (by omega) (by omega) f.out).mono ?_;rintro e w1 ⟨rfl,rfl⟩;go_wp2_with fail;refine(iY (b:Int) y _ (by omega) (by omega) g.out).mono ?_;rintro e w1 ⟨rfl,rfl⟩;go_wp2_with fail;refine(iY 2147483648 (-2147483648) _ (by omega) (by omega) zX).mono ?_;rintro e w1 ⟨rfl,rfl⟩;go_wp2_with fail;refine(xZ _ _ (mX _).1 (mX _).2).mono ?_;rintro e w1 ⟨rfl,rfl⟩;go_wp2;go_ret2;rw[d.out];exact⟨iX (by first | exact qJ _ | exact Aj _ | exact lY _ | exact lJ _),rfl⟩
   ·have d:=fQ (show jQ 4294967296 (-2147483648) ((3:Nat):Int) a b x y=((a:Int) % b,0)from by unfold jQ;rw[if_neg c,if_neg (by decide),if_neg (by decide),if_neg (by decide)]);clear c i h j;go_in;go_wp2_with fail;refine(iY (a:Int) x _ (by omega) (by omega) f.out).mono ?_;rintro e w1 ⟨rfl,rfl⟩;go_wp2_with fail;refine(iY (b:Int) y _ (by omega) (by omega) g.out).mono ?_;rintro e w1 ⟨rfl,rfl⟩;go_wp2_with fail;refine(iY 2147483648 (-2147483648) _ (by omega) (by omega) zX).mono ?_;rintro e w1 ⟨rfl,rfl⟩;go_wp2;go_ret2;rw[d.out];exact⟨iX (by first | rfl | (rw[Aj];exact zW (by omega))),rfl⟩
 ·have y1:(y == -1)=false:=(by simp[h]);rcases l with rfl | rfl | rfl | rfl
  ·have d:=fQ (show jQ 4294967296 (-2147483648) ((0:Nat):Int) a b x y=((x.tdiv y) % 4294967296,0)from by unfold jQ;rw[if_neg c,if_pos (by rfl),if_neg (by simp[h])]);clear c i h;go_in;go_wp2_with fail;refine(iY (a:Int) x _ (by omega) (by omega) f.out).mono ?_;rintro e w1 ⟨rfl,rfl⟩;go_wp2_with fail;refine(iY (b:Int) y _ (by omega) (by omega) g.out).mono ?_;rintro e w1 ⟨rfl,rfl⟩;go_wp2_with fail;refine(xZ _ _ (mX _).1 (mX _).2).mono ?_;rintro e w1 ⟨rfl,rfl⟩;go_wp2;go_ret2;rw[d.out];exact⟨iX (by first | exact qJ _ | exact Aj _ | exact lY _ | exact lJ _),rfl⟩
  ·have d:=fQ (show jQ 4294967296 (-2147483648) ((1:Nat):Int) a b x y=((a:Int) / b,0)from by unfold jQ;rw[if_neg c,if_neg (by decide),if_pos (by rfl)]);clear c i h;go_in;go_wp2_with fail;refine(iY (a:Int) x _ (by omega) (by omega) f.out).mono ?_;rintro e w1 ⟨rfl,rfl⟩;go_wp2_with fail;refine(iY (b:Int) y _ (by omega) (by omega) g.out).mono ?_;rintro e w1 ⟨rfl,rfl⟩;go_wp2;go_ret2;rw[d.out];exact⟨iX (by first | rfl | (rw[Aj];exact zV (by omega))),rfl⟩
  ·have d:=fQ (show jQ 4294967296 (-2147483648) ((2:Nat):Int) a b x y=((x.tmod y) % 4294967296,0)from by unfold jQ;rw[if_neg c,if_neg (by decide),if_neg (by decide),if_pos (by rfl)]);clear c i h;go_in;go_wp2_with fail;refine(iY (a:Int) x _ (by omega) (by omega) f.out).mono ?_;rintro e w1 ⟨rfl,rfl⟩;go_wp2_with fail;refine(iY (b:Int) y _ (by omega) (by omega) g.out).mono ?_;rintro e w1 ⟨rfl,rfl⟩;go_wp2_with fail;refine(xZ _ _ (mX _).1 (mX _).2).mono ?_;rintro e w1 ⟨rfl,rfl⟩;go_wp2;go_ret2;rw[d.out];exact⟨iX (by first | exact qJ _ | exact Aj _ | exact lY _ | exact lJ _),rfl⟩
  ·have d:=fQ (show jQ 4294967296 (-2147483648) ((3:Nat):Int) a b x y=((a:Int) % b,0)from by unfold jQ;rw[if_neg c,if_neg (by decide),if_neg (by decide),if_neg (by decide)]);clear c i h;go_in;go_wp2_with fail;refine(iY (a:Int) x _ (by omega) (by omega) f.out).mono ?_;rintro e w1 ⟨rfl,rfl⟩;go_wp2_with fail;refine(iY (b:Int) y _ (by omega) (by omega) g.out).mono ?_;rintro e w1 ⟨rfl,rfl⟩;go_wp2;go_ret2;rw[d.out];exact⟨iX (by first | rfl | (rw[Aj];exact zW (by omega))),rfl⟩
section
open Go.Lib
def rot(W a n:Nat):Nat:=a % 2 ^ (W - n)*2 ^ n+a / 2 ^ (W - n)
theorem aVa(hn:n<=W):2 ^ W=2 ^ (W - n)*2 ^ n:=by rw[<-BW];congr 1;omega
theorem bVa(hn:n<=W)(ha:a<2 ^ W):a / 2 ^ (W - n)<2 ^ n:=by
 rw[Af (Ae _),Ac,<-aVa hn];exact ha
theorem bQc(hn:n<=W)(ha:a<2 ^ W):(a*2 ^ n % 2 ^ W) ||| (a / 2 ^ (W - n))=rot W a n:=by
 have h1:a*2 ^ n % 2 ^ W=a % 2 ^ (W - n)*2 ^ n:=(by rw[aVa hn];exact Nat.mul_mod_mul_right ..);rw[h1,rot,Ac (a % 2 ^ (W - n)),Av (bVa hn ha)]
theorem cWw(hn:n<=W)(ha:a<2 ^ W):(a / 2 ^ n) ||| (a*2 ^ (W - n) % 2 ^ W)=rot W a (W - n):=by
 have:=bQc (W:=W) (a:=a) (n:=W - n) (by omega) ha;rw[show W - (W - n)=n from by omega]at this;rw[Bz];exact this
theorem cWx(hn:n<=W)(ha:a<2 ^ W):rot W a n<2 ^ W:=by
 have h1:=bVa hn ha;have h2:a % 2 ^ (W - n)<2 ^ (W - n):=AX _ (Ae _);have b:(a % 2 ^ (W - n)+1)*2 ^ n<=2 ^ (W - n)*2 ^ n:=AZ _ h2;rw[Ah,Nat.one_mul,<-aVa hn]at b;unfold rot;omega
theorem bVb(ha:a<2 ^ W):rot W a 0=a:=by simp[rot,Az ha,Bq ha]
end
theorem bKu(hn:n+1<=W)(ha:a<2 ^ W):rot W (rot W a n) 1=rot W a (n+1):=by
 have d:2 ^ (W - n)=2 ^ (W - (n+1))*2:=(by rw[<-Ab];congr 1;omega);have e2:2 ^ (W - 1)=2 ^ (W - (n+1))*2 ^ n:=(by rw[<-BW];congr 1;omega);have b:=bVa (n:=n) (by omega) ha;have c:0<2 ^ (W - (n+1)):=BY (by decide);have e:0<2 ^ n:=BY (by decide);unfold rot;rw[e2,d,show 2 ^ (n+1)=2 ^ n*2 from Ab ..];rw[d]at b;generalize 2 ^ (W - (n+1))=P at c b ⊢;generalize 2 ^ n=Q at e b ⊢;rw[show a % (P*2)=a % P+P*(a / P % 2)from Nat.mod_mul,show a / (P*2)=a / P / 2 from(Ad ..).symm];rw[<-Ad]at b;have f:a % P<P:=AX _ c;generalize a % P=h at f ⊢;generalize a / P=t at b ⊢;have hb:t % 2<2:=AX _ (by decide)
 have g:h*Q+t / 2<P*Q:=by
  have:(h+1)*Q<=P*Q:=AZ _ f;rw[Ah]at this;omega
 have i:(h+P*(t % 2))*Q+t / 2=(P*Q)*(t % 2)+(h*Q+t / 2):=by
  rw[Ah,Nat.mul_right_comm P (t % 2) Q];omega
 rw[i,Nat.mul_add_mod,Az g,Nat.mul_add_div (Nat.mul_pos c e),Bq g];rw[Ba,<-Bw,Ah];omega
theorem dJh(c:Nat)(hc:c<2):x*2 ||| c=x*2+c:=by
 have:=Av (i:=1) (b:=c) (by omega) x;rw[Ba]at this;rw[Ac x 2,this]
theorem dVv(hx:x<18446744073709551616):bits .or .u64 (IntKind.u64.wrap ((x:Int)*2)) ((x:Int) / 9223372036854775808)=((rot 64 x 1:Nat):Int):=by
 rw[Aj,show((x:Int)*2) % 18446744073709551616=((x*2 % 2 ^ 64:Nat):Int) by omega,show(x:Int) / 9223372036854775808=((x / 2 ^ (64 - 1):Nat):Int) by omega];rw[bits_or_u64_nat _ _ (by omega) (by omega),<-bQc (W:=64) (by decide) (by omega)]
theorem dVw(hx:x<4294967296):bits .or .u64 ((x:Int)*2) ((x:Int) / 2147483648) % 4294967296=((rot 32 x 1:Nat):Int):=by
 rw[show((x:Int)*2)=((x*2:Nat):Int) by omega,show(x:Int) / 2147483648=((x / 2147483648:Nat):Int) by omega];rw[bits_or_u64_nat _ _ (by omega) (by omega),dJh _ (by omega)];unfold rot;omega
def dXw(W a n:Nat)(b i:Value):Prop:=∃ k:Nat,k<=n/\i = .int .i64 k/\b = .int .u64 ((rot W a k:Nat):Int)
theorem bKv(a n:Nat)(w:Bb)(hn:n<=64)(ha:a<18446744073709551616):Bd fZ 156 #[.int .u64 a,.int .i64 n,.int .i64 64] w fun e w'=>e = .returned (.int .u64 ((rot 64 a n:Nat):Int))/\w=w':=by
 have b:=fQ (show a<2 ^ 64 from ha);go_in;go_wp2_with fail;go_loop [0,7] (fun f i=>dXw 64 a n f i) (fun _ i=>n+1 - (intOf i).toNat)
 case atStart=>exact⟨0,by omega,rfl,by rw[bVb b.out]⟩
 case round=>
  obtain⟨k,hk,rfl,rfl⟩:=hrel;by_cases g:k<n
  ·have h:decide ((k:Int)<(n:Int))=true:=(by simpa using g);have c:=cWx (W:=64) (n:=k) (by omega) b.out;have d:=fQ (bKu (n:=k) (W:=64) (by omega) b.out);generalize rot 64 a k=x at c d ⊢;go_wp2_with fail;refine(xX _ _).mono ?_;rintro e w1 ⟨rfl,rfl⟩;go_wp2;refine⟨⟨k+1,by omega,by simp,?_⟩,by simp[intOf];omega⟩;rw[<-d.out,<-dVv c]
  ·obtain rfl:k=n:=(by omega);have h:decide ((k:Int)<(k:Int))=false:=(by simp);go_wp2;go_ret;exact⟨rfl,rfl⟩
theorem bKw(a n:Nat)(w:Bb)(hn:n<=32)(ha:a<4294967296):Bd fZ 156 #[.int .u64 a,.int .i64 n,.int .i64 32] w fun e w'=>e = .returned (.int .u64 ((rot 32 a n:Nat):Int))/\w=w':=by
 have b:=fQ (show a<2 ^ 32 from ha);go_in;go_wp2_with fail;go_loop [0,7] (fun f i=>dXw 32 a n f i) (fun _ i=>n+1 - (intOf i).toNat)
 case atStart=>exact⟨0,by omega,rfl,by rw[bVb b.out]⟩
 case round=>
  obtain⟨k,hk,rfl,rfl⟩:=hrel;by_cases g:k<n
  ·have h:decide ((k:Int)<(n:Int))=true:=(by simpa using g);have c:=cWx (W:=32) (n:=k) (by omega) b.out;have d:=fQ (bKu (n:=k) (W:=32) (by omega) b.out);generalize rot 32 a k=x at c d ⊢;go_wp2_with fail;refine(xZ _ _ ?_ ?_).mono ?_
   ·exact(aXr _ _ _).1
   ·exact(aXr _ _ _).2
   rintro e w1 ⟨rfl,rfl⟩;go_wp2;refine⟨⟨k+1,by omega,by simp,?_⟩,by simp[intOf];omega⟩;rw[<-d.out,<-dVw c]
  ·obtain rfl:k=n:=(by omega);have h:decide ((k:Int)<(k:Int))=false:=(by simp);go_wp2;go_ret;exact⟨rfl,rfl⟩
end Go.Proofs.YtabibkpfgmolkaaGreat
namespace Go.Proofs.YtabibkpfgmolkaaGreat
variable {a b W n x q:Nat}
theorem dYh(ha:a<18446744073709551616)(hb:b<18446744073709551616):bits .or .u64 (a:Int) (b:Int)=((a ||| b:Nat):Int):=bits_or_u64_nat a b ha hb
theorem eQi{b:Nat}(n:Nat)(hn:n<=64)(ha:a<18446744073709551616):bits .or .u64 (IntKind.u64.wrap ((a:Int)*2 ^ n)) ((a:Int) / 2 ^ (64 - n))=((rot 64 a n:Nat):Int):=by
 have c:IntKind.u64.wrap ((a:Int)*2 ^ n)=((a*2 ^ n % 2 ^ 64:Nat):Int):=(by rw[Aj];simp);have e2:(a:Int) / 2 ^ (64 - n)=((a / 2 ^ (64 - n):Nat):Int):=(by simp);rw[c,e2,dYh (AX _ (by decide)) (Ay (AV _ _) ha),bQc hn ha]
theorem eQj{b:Nat}(n:Nat)(hn:n<=64)(ha:a<18446744073709551616):bits .or .u64 ((a:Int) / 2 ^ n) (IntKind.u64.wrap ((a:Int)*2 ^ (64 - n)))=((rot 64 a (64 - n):Nat):Int):=by
 have c:IntKind.u64.wrap ((a:Int)*2 ^ (64 - n))=((a*2 ^ (64 - n) % 2 ^ 64:Nat):Int):=(by rw[Aj];simp);have e2:(a:Int) / 2 ^ n=((a / 2 ^ n:Nat):Int):=(by simp);rw[c,e2,dYh (Ay (AV _ _) ha) (AX _ (by decide)),cWw hn ha]
theorem dVx(ha:a<4294967296)(hb:b<4294967296):bits .and .u32 (a:Int) (b:Int)=bits .and .u64 (a:Int) (b:Int):=by
 rw[bits_and_u32_nat a b ha hb,bits_and_u64_nat a b (by omega) (by omega)]
theorem cQt(ha:a<4294967296)(hb:b<4294967296):bits .or .u32 (a:Int) (b:Int)=((a ||| b:Nat):Int):=by
 have hx:a ||| b<2 ^ 32:=Nat.or_lt_two_pow (by omega) (by omega)
 have h1:(BitVec.ofInt 32 (a:Int)).toNat=a:=by
  rw[BitVec.ofInt_natCast,BitVec.toNat_ofNat];exact Az (by omega)
 have h2:(BitVec.ofInt 32 (b:Int)).toNat=b:=by
  rw[BitVec.ofInt_natCast,BitVec.toNat_ofNat];exact Az (by omega)
 show IntKind.u32.wrap ((BitVec.ofInt 32 (a:Int) ||| BitVec.ofInt 32 (b:Int)).toNat:Int)=_;rw[BitVec.toNat_or,h1,h2,Aq];omega
theorem dVy(ha:a<4294967296)(hb:b<4294967296):bits .xor .u32 (a:Int) (b:Int)=((a ^^^ b:Nat):Int):=by
 have hx:a ^^^ b<2 ^ 32:=Nat.xor_lt_two_pow (by omega) (by omega)
 have h1:(BitVec.ofInt 32 (a:Int)).toNat=a:=by
  rw[BitVec.ofInt_natCast,BitVec.toNat_ofNat];exact Az (by omega)
 have h2:(BitVec.ofInt 32 (b:Int)).toNat=b:=by
  rw[BitVec.ofInt_natCast,BitVec.toNat_ofNat];exact Az (by omega)
 show IntKind.u32.wrap ((BitVec.ofInt 32 (a:Int) ^^^ BitVec.ofInt 32 (b:Int)).toNat:Int)=_;rw[BitVec.toNat_xor,h1,h2,Aq];omega
theorem dVz(n:Nat)(hn:n<=32)(ha:a<4294967296):bits .or .u32 (IntKind.u32.wrap ((a:Int)*2 ^ n)) ((a:Int) / 2 ^ (32 - n))=((rot 32 a n:Nat):Int):=by
 have b:IntKind.u32.wrap ((a:Int)*2 ^ n)=((a*2 ^ n % 2 ^ 32:Nat):Int):=(by rw[Aq];simp);have e2:(a:Int) / 2 ^ (32 - n)=((a / 2 ^ (32 - n):Nat):Int):=(by simp);rw[b,e2,cQt (AX _ (by decide)) (Ay (AV _ _) ha),bQc hn ha]
theorem dWa(n:Nat)(hn:n<=32)(ha:a<4294967296):bits .or .u32 ((a:Int) / 2 ^ n) (IntKind.u32.wrap ((a:Int)*2 ^ (32 - n)))=((rot 32 a (32 - n):Nat):Int):=by
 have b:IntKind.u32.wrap ((a:Int)*2 ^ (32 - n))=((a*2 ^ (32 - n) % 2 ^ 32:Nat):Int):=(by rw[Aq];simp);have e2:(a:Int) / 2 ^ n=((a / 2 ^ n:Nat):Int):=(by simp);rw[b,e2,cQt (Ay (AV _ _) ha) (AX _ (by decide)),cWw hn ha]
theorem cWq(k:IntKind)(W a b n:Nat)(x:Int):(oW k W a b n x).getD 11 0=k.wrap (x / 2 ^ n):=by simp[oW]
def iJ(W d:Int)(k:Int)(a b:Nat)(w:Bb)(e:Ending)(w':Bb):Prop:=e = .returned (.tuple #[.int .u64 (hY 3 d k a b).1,.int .i64 (hY 3 d k a b).2])/\w=w'
theorem dWb{a b:Nat}(ha:a<18446744073709551616)(hb:b<18446744073709551616):hY 3 126 0 a b=(IntKind.u64.wrap (a+b),0):=by
 have e:hY 3 126 0 a b=((oW .u64 64 a b (b % 64) (wrap64 a)).getD 0 0,0):=(by simp[hY]);rw[e];rfl
theorem dWc(w:Bb)(ha:a<18446744073709551616)(hb:b<18446744073709551616):Bd fZ 143 #[.int .i64 0,.int .u64 a,.int .u64 b,.int .i64 64] w (iJ 64 126 0 a b w):=by
 have c:=fQ (@dWb a b ha hb);unfold iJ;rw[c.out];obtain⟨n,hn⟩:=fX (b % 64);have aa:n<64:=(by omega);have ab:(b:Int) % 64=(n:Int):=(by omega);have HN:=fQ hn;clear hn c;go_in;go_wp2_with fail;refine(xX _ _).mono ?_;rintro e w1 ⟨rfl,rfl⟩;go_wp2;go_ret2;exact⟨iX (by first | rfl | exact lJ _ | exact lY _ | exact(Aj _)),rfl⟩
theorem dWd{a b:Nat}(ha:a<18446744073709551616)(hb:b<18446744073709551616):hY 3 126 1 a b=(IntKind.u64.wrap (a - b),0):=by
 have e:hY 3 126 1 a b=((oW .u64 64 a b (b % 64) (wrap64 a)).getD 1 0,0):=(by simp[hY]);rw[e];rfl
theorem dWe(w:Bb)(ha:a<18446744073709551616)(hb:b<18446744073709551616):Bd fZ 143 #[.int .i64 1,.int .u64 a,.int .u64 b,.int .i64 64] w (iJ 64 126 1 a b w):=by
 have c:=fQ (@dWd a b ha hb);unfold iJ;rw[c.out];obtain⟨n,hn⟩:=fX (b % 64);have aa:n<64:=(by omega);have ab:(b:Int) % 64=(n:Int):=(by omega);have HN:=fQ hn;clear hn c;go_in;go_wp2_with fail;refine(xX _ _).mono ?_;rintro e w1 ⟨rfl,rfl⟩;go_wp2;go_ret2;exact⟨iX (by first | rfl | exact lJ _ | exact lY _ | exact(Aj _)),rfl⟩
theorem dWf{a b:Nat}(ha:a<18446744073709551616)(hb:b<18446744073709551616):hY 3 126 2 a b=(IntKind.u64.wrap (a*b),0):=by
 have e:hY 3 126 2 a b=((oW .u64 64 a b (b % 64) (wrap64 a)).getD 2 0,0):=(by simp[hY]);rw[e];rfl
theorem dWg(w:Bb)(ha:a<18446744073709551616)(hb:b<18446744073709551616):Bd fZ 143 #[.int .i64 2,.int .u64 a,.int .u64 b,.int .i64 64] w (iJ 64 126 2 a b w):=by
 have c:=fQ (@dWf a b ha hb);unfold iJ;rw[c.out];obtain⟨n,hn⟩:=fX (b % 64);have aa:n<64:=(by omega);have ab:(b:Int) % 64=(n:Int):=(by omega);have HN:=fQ hn;clear hn c;go_in;go_wp2_with fail;refine(xX _ _).mono ?_;rintro e w1 ⟨rfl,rfl⟩;go_wp2;go_ret2;exact⟨iX (by first | rfl | exact lJ _ | exact lY _ | exact(Aj _)),rfl⟩
theorem dWh(w:Bb)(ha:a<18446744073709551616)(hb:b<18446744073709551616):Bd fZ 143 #[.int .i64 3,.int .u64 a,.int .u64 b,.int .i64 64] w (iJ 64 126 3 a b w):=by
 have c:=fQ (show hY 3 126 3 a b=jQ 18446744073709551616 (-9223372036854775808) ((0:Nat):Int) a b (wrap64 a) (wrap64 b) by simp[hY]);unfold iJ;rw[c.out];obtain⟨n,hn⟩:=fX (b % 64);have aa:n<64:=(by omega);have ab:(b:Int) % 64=(n:Int):=(by omega);have HN:=fQ hn;clear hn c;go_in;go_wp2_with fail;refine(aYu 0 a b _ (by omega) ha hb).mono ?_;rintro e w1 ⟨rfl,rfl⟩;go_wp2;go_ret2;exact⟨rfl,rfl⟩
theorem dWi(w:Bb)(ha:a<18446744073709551616)(hb:b<18446744073709551616):Bd fZ 143 #[.int .i64 4,.int .u64 a,.int .u64 b,.int .i64 64] w (iJ 64 126 4 a b w):=by
 have c:=fQ (show hY 3 126 4 a b=jQ 18446744073709551616 (-9223372036854775808) ((1:Nat):Int) a b (wrap64 a) (wrap64 b) by simp[hY]);unfold iJ;rw[c.out];obtain⟨n,hn⟩:=fX (b % 64);have aa:n<64:=(by omega);have ab:(b:Int) % 64=(n:Int):=(by omega);have HN:=fQ hn;clear hn c;go_in;go_wp2_with fail;refine(aYu 1 a b _ (by omega) ha hb).mono ?_;rintro e w1 ⟨rfl,rfl⟩;go_wp2;go_ret2;exact⟨rfl,rfl⟩
theorem dWj(w:Bb)(ha:a<18446744073709551616)(hb:b<18446744073709551616):Bd fZ 143 #[.int .i64 5,.int .u64 a,.int .u64 b,.int .i64 64] w (iJ 64 126 5 a b w):=by
 have c:=fQ (show hY 3 126 5 a b=jQ 18446744073709551616 (-9223372036854775808) ((2:Nat):Int) a b (wrap64 a) (wrap64 b) by simp[hY]);unfold iJ;rw[c.out];obtain⟨n,hn⟩:=fX (b % 64);have aa:n<64:=(by omega);have ab:(b:Int) % 64=(n:Int):=(by omega);have HN:=fQ hn;clear hn c;go_in;go_wp2_with fail;refine(aYu 2 a b _ (by omega) ha hb).mono ?_;rintro e w1 ⟨rfl,rfl⟩;go_wp2;go_ret2;exact⟨rfl,rfl⟩
theorem dWk(w:Bb)(ha:a<18446744073709551616)(hb:b<18446744073709551616):Bd fZ 143 #[.int .i64 6,.int .u64 a,.int .u64 b,.int .i64 64] w (iJ 64 126 6 a b w):=by
 have c:=fQ (show hY 3 126 6 a b=jQ 18446744073709551616 (-9223372036854775808) ((3:Nat):Int) a b (wrap64 a) (wrap64 b) by simp[hY]);unfold iJ;rw[c.out];obtain⟨n,hn⟩:=fX (b % 64);have aa:n<64:=(by omega);have ab:(b:Int) % 64=(n:Int):=(by omega);have HN:=fQ hn;clear hn c;go_in;go_wp2_with fail;refine(aYu 3 a b _ (by omega) ha hb).mono ?_;rintro e w1 ⟨rfl,rfl⟩;go_wp2;go_ret2;exact⟨rfl,rfl⟩
theorem dWl{a b:Nat}(ha:a<18446744073709551616)(hb:b<18446744073709551616):hY 3 126 7 a b=(bits .and .u64 a b,0):=by
 have e:hY 3 126 7 a b=((oW .u64 64 a b (b % 64) (wrap64 a)).getD 7 0,0):=(by simp[hY]);rw[e];rfl
theorem dWm(w:Bb)(ha:a<18446744073709551616)(hb:b<18446744073709551616):Bd fZ 143 #[.int .i64 7,.int .u64 a,.int .u64 b,.int .i64 64] w (iJ 64 126 7 a b w):=by
 have c:=fQ (@dWl a b ha hb);unfold iJ;rw[c.out];obtain⟨n,hn⟩:=fX (b % 64);have aa:n<64:=(by omega);have ab:(b:Int) % 64=(n:Int):=(by omega);have HN:=fQ hn;clear hn c;go_in;go_wp2;go_ret2;exact⟨iX (by first | rfl | exact lJ _ | exact lY _ | exact(Aj _)),rfl⟩
theorem dWn{a b:Nat}(ha:a<18446744073709551616)(hb:b<18446744073709551616):hY 3 126 8 a b=(bits .or .u64 a b,0):=by
 have e:hY 3 126 8 a b=((oW .u64 64 a b (b % 64) (wrap64 a)).getD 8 0,0):=(by simp[hY]);rw[e];rfl
theorem dWo(w:Bb)(ha:a<18446744073709551616)(hb:b<18446744073709551616):Bd fZ 143 #[.int .i64 8,.int .u64 a,.int .u64 b,.int .i64 64] w (iJ 64 126 8 a b w):=by
 have c:=fQ (@dWn a b ha hb);unfold iJ;rw[c.out];obtain⟨n,hn⟩:=fX (b % 64);have aa:n<64:=(by omega);have ab:(b:Int) % 64=(n:Int):=(by omega);have HN:=fQ hn;clear hn c;go_in;go_wp2;go_ret2;exact⟨iX (by first | rfl | exact lJ _ | exact lY _ | exact(Aj _)),rfl⟩
theorem dWp{a b:Nat}(ha:a<18446744073709551616)(hb:b<18446744073709551616):hY 3 126 9 a b=(bits .xor .u64 a b,0):=by
 have e:hY 3 126 9 a b=((oW .u64 64 a b (b % 64) (wrap64 a)).getD 9 0,0):=(by simp[hY]);rw[e];rfl
theorem dWq(w:Bb)(ha:a<18446744073709551616)(hb:b<18446744073709551616):Bd fZ 143 #[.int .i64 9,.int .u64 a,.int .u64 b,.int .i64 64] w (iJ 64 126 9 a b w):=by
 have c:=fQ (@dWp a b ha hb);unfold iJ;rw[c.out];obtain⟨n,hn⟩:=fX (b % 64);have aa:n<64:=(by omega);have ab:(b:Int) % 64=(n:Int):=(by omega);have HN:=fQ hn;clear hn c;go_in;go_wp2;go_ret2;exact⟨iX (by first | rfl | exact lJ _ | exact lY _ | exact(Aj _)),rfl⟩
theorem dJi{a b:Nat}(ha:a<18446744073709551616)(hb:b<18446744073709551616):hY 3 126 10 a b=(IntKind.u64.wrap (a*2 ^ (b % 64)),0):=by
 have e:hY 3 126 10 a b=((oW .u64 64 a b (b % 64) (wrap64 a)).getD 10 0,0):=(by simp[hY]);rw[e];rfl
theorem dJj(w:Bb)(ha:a<18446744073709551616)(hb:b<18446744073709551616):Bd fZ 143 #[.int .i64 10,.int .u64 a,.int .u64 b,.int .i64 64] w (iJ 64 126 10 a b w):=by
 have c:=fQ (@dJi a b ha hb);unfold iJ;rw[c.out];obtain⟨n,hn⟩:=fX (b % 64);have aa:n<64:=(by omega);have ab:(b:Int) % 64=(n:Int):=(by omega);have HN:=fQ hn;rw[hn];clear hn c;go_in;go_wp2_with fail;refine(xX _ _).mono ?_;rintro e w1 ⟨rfl,rfl⟩;go_wp2;go_ret2;exact⟨iX (by first | rfl | exact lJ _ | exact lY _ | exact(Aj _)),rfl⟩
theorem dJk{a b:Nat}(ha:a<18446744073709551616)(hb:b<18446744073709551616):hY 3 126 11 a b=(IntKind.u64.wrap (wrap64 a / 2 ^ (b % 64)),0):=by
 have e:hY 3 126 11 a b=((oW .u64 64 a b (b % 64) (wrap64 a)).getD 11 0,0):=by
  simp only[hY];rw[if_pos trivial,if_neg (by decide),if_neg (by decide)];rfl
 rw[e,cWq]
theorem dJl(w:Bb)(ha:a<18446744073709551616)(hb:b<18446744073709551616):Bd fZ 143 #[.int .i64 11,.int .u64 a,.int .u64 b,.int .i64 64] w (iJ 64 126 11 a b w):=by
 have c:=fQ (@dJk a b ha hb);unfold iJ;rw[c.out];obtain⟨n,hn⟩:=fX (b % 64);have aa:n<64:=(by omega);have ab:(b:Int) % 64=(n:Int):=(by omega);have HN:=fQ hn;rw[hn];clear hn c;go_in;go_wp2_with fail;refine(aJt (a:Int) _ (by omega) (by omega)).mono ?_;rintro e w1 ⟨rfl,rfl⟩;go_wp2_with fail;refine(xX _ _).mono ?_;rintro e w1 ⟨rfl,rfl⟩;go_wp2;go_ret2;exact⟨iX (by first | rfl | exact lJ _ | exact lY _ | exact(Aj _)),rfl⟩
theorem dJm{a b:Nat}(ha:a<18446744073709551616)(hb:b<18446744073709551616):hY 3 126 12 a b=((a:Int) / 2 ^ (b % 64),0):=by
 have e:hY 3 126 12 a b=((oW .u64 64 a b (b % 64) (wrap64 a)).getD 12 0,0):=(by simp[hY]);rw[e];rfl
theorem dJn(w:Bb)(ha:a<18446744073709551616)(hb:b<18446744073709551616):Bd fZ 143 #[.int .i64 12,.int .u64 a,.int .u64 b,.int .i64 64] w (iJ 64 126 12 a b w):=by
 have c:=fQ (@dJm a b ha hb);unfold iJ;rw[c.out];obtain⟨n,hn⟩:=fX (b % 64);have aa:n<64:=(by omega);have ab:(b:Int) % 64=(n:Int):=(by omega);have HN:=fQ hn;rw[hn];clear hn c;go_in;go_wp2;go_ret2;exact⟨iX (by first | rfl | exact lJ _ | exact lY _ | exact(Aj _)),rfl⟩
theorem dJo{a b:Nat}(ha:a<18446744073709551616)(hb:b<18446744073709551616):hY 3 126 13 a b=(((rot 64 a (b % 64):Nat):Int),0):=by
 have e:hY 3 126 13 a b=((oW .u64 64 a b (b % 64) (wrap64 a)).getD 13 0,0):=(by simp[hY]);rw[e]
 exact congrArg (·,0) (eQi (b:=b) (b % 64) (by omega) ha)
theorem dJp(w:Bb)(ha:a<18446744073709551616)(hb:b<18446744073709551616):Bd fZ 143 #[.int .i64 13,.int .u64 a,.int .u64 b,.int .i64 64] w (iJ 64 126 13 a b w):=by
 have c:=fQ (@dJo a b ha hb);unfold iJ;rw[c.out];obtain⟨n,hn⟩:=fX (b % 64);have aa:n<64:=(by omega);have ab:(b:Int) % 64=(n:Int):=(by omega);have HN:=fQ hn;rw[hn];clear hn c;go_in;go_wp2_with fail;refine(bKv a n _ (by omega) ha).mono ?_;rintro e w1 ⟨rfl,rfl⟩;go_wp2;go_ret2;exact⟨iX (by first | rfl | exact lJ _ | exact lY _ | exact(Aj _)),rfl⟩
theorem dJq{a b:Nat}(ha:a<18446744073709551616)(hb:b<18446744073709551616):hY 3 126 14 a b=(((rot 64 a (64 - b % 64):Nat):Int),0):=by
 have e:hY 3 126 14 a b=((oW .u64 64 a b (b % 64) (wrap64 a)).getD 14 0,0):=(by simp[hY]);rw[e]
 exact congrArg (·,0) (eQj (b:=b) (b % 64) (by omega) ha)
theorem dJr(w:Bb)(ha:a<18446744073709551616)(hb:b<18446744073709551616):Bd fZ 143 #[.int .i64 14,.int .u64 a,.int .u64 b,.int .i64 64] w (iJ 64 126 14 a b w):=by
 have c:=fQ (@dJq a b ha hb);unfold iJ;rw[c.out];obtain⟨n,hn⟩:=fX (b % 64);have aa:n<64:=(by omega);have ab:(b:Int) % 64=(n:Int):=(by omega);have HN:=fQ hn;rw[hn];clear hn c;go_in;have hs:(64:Int) - (n:Int)=((64 - n:Nat):Int):=(by omega);go_wp2_with fail;refine(bKv a (64 - n) _ (by omega) ha).mono ?_;rintro e w1 ⟨rfl,rfl⟩;go_wp2;go_ret2;exact⟨iX (by first | rfl | exact lJ _ | exact lY _ | exact(Aj _)),rfl⟩
theorem dJs(k a b:Nat)(w:Bb)(hk:k<15)(ha:a<18446744073709551616)(hb:b<18446744073709551616):Bd fZ 143 #[.int .i64 k,.int .u64 a,.int .u64 b,.int .i64 64] w (iJ 64 126 k a b w):=by
 have hc:k=0\/k=1\/k=2\/k=3\/k=4\/k=5\/k=6\/k=7\/k=8\/k=9\/k=10\/k=11\/k=12\/k=13\/k=14:=(by omega);rcases hc with rfl | rfl | rfl | rfl | rfl | rfl | rfl | rfl | rfl | rfl | rfl | rfl | rfl | rfl | rfl
 ·exact dWc w ha hb
 ·exact dWe w ha hb
 ·exact dWg w ha hb
 ·exact dWh w ha hb
 ·exact dWi w ha hb
 ·exact dWj w ha hb
 ·exact dWk w ha hb
 ·exact dWm w ha hb
 ·exact dWo w ha hb
 ·exact dWq w ha hb
 ·exact dJj w ha hb
 ·exact dJl w ha hb
 ·exact dJn w ha hb
 ·exact dJp w ha hb
 ·exact dJr w ha hb
theorem dWr{a b:Nat}(ha:a<4294967296)(hb:b<4294967296):hY 3 127 0 a b=(((a:Int)+b) % 4294967296,0):=by
 have e:hY 3 127 0 a b=((oW .u32 32 a b (b % 32) (wrap32 a)).getD 0 0,0):=(by simp[hY]);rw[e]
 exact congrArg (·,0) (Aq _)
theorem dWs(w:Bb)(ha:a<4294967296)(hb:b<4294967296):Bd fZ 143 #[.int .i64 0,.int .u64 a,.int .u64 b,.int .i64 32] w (iJ 32 127 0 a b w):=by
 have c:=fQ (@dWr a b ha hb);unfold iJ;rw[c.out];obtain⟨n,hn⟩:=fX (b % 32);have aa:n<32:=(by omega);have ab:(b:Int) % 32=(n:Int):=(by omega);have HN:=fQ hn;clear hn c;go_in;go_wp2_with fail;refine(xZ _ _ (by first | omega | exact(mX _).1) (by first | omega | exact(mX _).2)).mono ?_;rintro e w1 ⟨rfl,rfl⟩;go_wp2;go_ret2;exact⟨iX (by first | rfl | exact lJ _ | exact lY _ | exact(Aj _)),rfl⟩
theorem dWt{a b:Nat}(ha:a<4294967296)(hb:b<4294967296):hY 3 127 1 a b=(((a:Int) - b) % 4294967296,0):=by
 have e:hY 3 127 1 a b=((oW .u32 32 a b (b % 32) (wrap32 a)).getD 1 0,0):=(by simp[hY]);rw[e]
 exact congrArg (·,0) (Aq _)
theorem dWu(w:Bb)(ha:a<4294967296)(hb:b<4294967296):Bd fZ 143 #[.int .i64 1,.int .u64 a,.int .u64 b,.int .i64 32] w (iJ 32 127 1 a b w):=by
 have c:=fQ (@dWt a b ha hb);unfold iJ;rw[c.out];obtain⟨n,hn⟩:=fX (b % 32);have aa:n<32:=(by omega);have ab:(b:Int) % 32=(n:Int):=(by omega);have HN:=fQ hn;clear hn c;go_in;go_wp2_with fail;refine(xZ _ _ (by first | omega | exact(mX _).1) (by first | omega | exact(mX _).2)).mono ?_;rintro e w1 ⟨rfl,rfl⟩;go_wp2;go_ret2;exact⟨iX (by first | rfl | exact lJ _ | exact lY _ | exact(Aj _)),rfl⟩
theorem dWv{a b:Nat}(ha:a<4294967296)(hb:b<4294967296):hY 3 127 2 a b=(((a:Int)*b) % 4294967296,0):=by
 have e:hY 3 127 2 a b=((oW .u32 32 a b (b % 32) (wrap32 a)).getD 2 0,0):=(by simp[hY]);rw[e]
 exact congrArg (·,0) (Aq _)
theorem dWw(w:Bb)(ha:a<4294967296)(hb:b<4294967296):Bd fZ 143 #[.int .i64 2,.int .u64 a,.int .u64 b,.int .i64 32] w (iJ 32 127 2 a b w):=by
 have c:=fQ (@dWv a b ha hb);unfold iJ;rw[c.out];obtain⟨n,hn⟩:=fX (b % 32);have aa:n<32:=(by omega);have ab:(b:Int) % 32=(n:Int):=(by omega);have HN:=fQ hn;clear hn c;go_in;go_wp2_with fail;refine(xZ _ _ (by first | omega | exact(mX _).1) (by first | omega | exact(mX _).2)).mono ?_;rintro e w1 ⟨rfl,rfl⟩;go_wp2;go_ret2;exact⟨iX (by first | rfl | exact lJ _ | exact lY _ | exact(Aj _)),rfl⟩
theorem dWx(w:Bb)(ha:a<4294967296)(hb:b<4294967296):Bd fZ 143 #[.int .i64 3,.int .u64 a,.int .u64 b,.int .i64 32] w (iJ 32 127 3 a b w):=by
 have c:=fQ (show hY 3 127 3 a b=jQ 4294967296 (-2147483648) ((0:Nat):Int) a b (wrap32 a) (wrap32 b) by simp[hY]);unfold iJ;rw[c.out];obtain⟨n,hn⟩:=fX (b % 32);have aa:n<32:=(by omega);have ab:(b:Int) % 32=(n:Int):=(by omega);have HN:=fQ hn;clear hn c;go_in;go_wp2_with fail;refine(aYv 0 a b _ (by omega) ha hb).mono ?_;rintro e w1 ⟨rfl,rfl⟩;go_wp2;go_ret2;exact⟨rfl,rfl⟩
theorem dWy(w:Bb)(ha:a<4294967296)(hb:b<4294967296):Bd fZ 143 #[.int .i64 4,.int .u64 a,.int .u64 b,.int .i64 32] w (iJ 32 127 4 a b w):=by
 have c:=fQ (show hY 3 127 4 a b=jQ 4294967296 (-2147483648) ((1:Nat):Int) a b (wrap32 a) (wrap32 b) by simp[hY]);unfold iJ;rw[c.out];obtain⟨n,hn⟩:=fX (b % 32);have aa:n<32:=(by omega);have ab:(b:Int) % 32=(n:Int):=(by omega);have HN:=fQ hn;clear hn c;go_in;go_wp2_with fail;refine(aYv 1 a b _ (by omega) ha hb).mono ?_;rintro e w1 ⟨rfl,rfl⟩;go_wp2;go_ret2;exact⟨rfl,rfl⟩
theorem dWz(w:Bb)(ha:a<4294967296)(hb:b<4294967296):Bd fZ 143 #[.int .i64 5,.int .u64 a,.int .u64 b,.int .i64 32] w (iJ 32 127 5 a b w):=by
 have c:=fQ (show hY 3 127 5 a b=jQ 4294967296 (-2147483648) ((2:Nat):Int) a b (wrap32 a) (wrap32 b) by simp[hY]);unfold iJ;rw[c.out];obtain⟨n,hn⟩:=fX (b % 32);have aa:n<32:=(by omega);have ab:(b:Int) % 32=(n:Int):=(by omega);have HN:=fQ hn;clear hn c;go_in;go_wp2_with fail;refine(aYv 2 a b _ (by omega) ha hb).mono ?_;rintro e w1 ⟨rfl,rfl⟩;go_wp2;go_ret2;exact⟨rfl,rfl⟩
theorem dYa(w:Bb)(ha:a<4294967296)(hb:b<4294967296):Bd fZ 143 #[.int .i64 6,.int .u64 a,.int .u64 b,.int .i64 32] w (iJ 32 127 6 a b w):=by
 have c:=fQ (show hY 3 127 6 a b=jQ 4294967296 (-2147483648) ((3:Nat):Int) a b (wrap32 a) (wrap32 b) by simp[hY]);unfold iJ;rw[c.out];obtain⟨n,hn⟩:=fX (b % 32);have aa:n<32:=(by omega);have ab:(b:Int) % 32=(n:Int):=(by omega);have HN:=fQ hn;clear hn c;go_in;go_wp2_with fail;refine(aYv 3 a b _ (by omega) ha hb).mono ?_;rintro e w1 ⟨rfl,rfl⟩;go_wp2;go_ret2;exact⟨rfl,rfl⟩
theorem dYb{a b:Nat}(ha:a<4294967296)(hb:b<4294967296):hY 3 127 7 a b=(bits .and .u64 a b,0):=by
 have e:hY 3 127 7 a b=((oW .u32 32 a b (b % 32) (wrap32 a)).getD 7 0,0):=(by simp[hY]);rw[e]
 exact congrArg (·,0) (dVx ha hb)
theorem dYc(w:Bb)(ha:a<4294967296)(hb:b<4294967296):Bd fZ 143 #[.int .i64 7,.int .u64 a,.int .u64 b,.int .i64 32] w (iJ 32 127 7 a b w):=by
 have c:=fQ (@dYb a b ha hb);unfold iJ;rw[c.out];obtain⟨n,hn⟩:=fX (b % 32);have aa:n<32:=(by omega);have ab:(b:Int) % 32=(n:Int):=(by omega);have HN:=fQ hn;clear hn c;go_in;go_wp2;go_ret2;exact⟨iX (by first | rfl | exact lJ _ | exact lY _ | exact(Aj _)),rfl⟩
theorem dYd{a b:Nat}(ha:a<4294967296)(hb:b<4294967296):hY 3 127 8 a b=(bits .or .u64 a b,0):=by
 have e:hY 3 127 8 a b=((oW .u32 32 a b (b % 32) (wrap32 a)).getD 8 0,0):=(by simp[hY]);rw[e]
 exact congrArg (·,0) ((cQt ha hb).trans (bits_or_u64_nat a b (by omega) (by omega)).symm)
theorem dYe(w:Bb)(ha:a<4294967296)(hb:b<4294967296):Bd fZ 143 #[.int .i64 8,.int .u64 a,.int .u64 b,.int .i64 32] w (iJ 32 127 8 a b w):=by
 have c:=fQ (@dYd a b ha hb);unfold iJ;rw[c.out];obtain⟨n,hn⟩:=fX (b % 32);have aa:n<32:=(by omega);have ab:(b:Int) % 32=(n:Int):=(by omega);have HN:=fQ hn;clear hn c;go_in;go_wp2;go_ret2;exact⟨iX (by first | rfl | exact lJ _ | exact lY _ | exact(Aj _)),rfl⟩
theorem dYf{a b:Nat}(ha:a<4294967296)(hb:b<4294967296):hY 3 127 9 a b=(bits .xor .u64 a b,0):=by
 have e:hY 3 127 9 a b=((oW .u32 32 a b (b % 32) (wrap32 a)).getD 9 0,0):=(by simp[hY]);rw[e]
 exact congrArg (·,0) ((dVy ha hb).trans (bits_xor_u64_nat a b (by omega) (by omega)).symm)
theorem dYg(w:Bb)(ha:a<4294967296)(hb:b<4294967296):Bd fZ 143 #[.int .i64 9,.int .u64 a,.int .u64 b,.int .i64 32] w (iJ 32 127 9 a b w):=by
 have c:=fQ (@dYf a b ha hb);unfold iJ;rw[c.out];obtain⟨n,hn⟩:=fX (b % 32);have aa:n<32:=(by omega);have ab:(b:Int) % 32=(n:Int):=(by omega);have HN:=fQ hn;clear hn c;go_in;go_wp2;go_ret2;exact⟨iX (by first | rfl | exact lJ _ | exact lY _ | exact(Aj _)),rfl⟩
theorem dJt{a b:Nat}(ha:a<4294967296)(hb:b<4294967296):hY 3 127 10 a b=(((a:Int)*2 ^ (b % 32)) % 4294967296,0):=by
 have e:hY 3 127 10 a b=((oW .u32 32 a b (b % 32) (wrap32 a)).getD 10 0,0):=(by simp[hY]);rw[e]
 exact congrArg (·,0) (Aq _)
theorem dJu(w:Bb)(ha:a<4294967296)(hb:b<4294967296):Bd fZ 143 #[.int .i64 10,.int .u64 a,.int .u64 b,.int .i64 32] w (iJ 32 127 10 a b w):=by
 have c:=fQ (@dJt a b ha hb);unfold iJ;rw[c.out];obtain⟨n,hn⟩:=fX (b % 32);have aa:n<32:=(by omega);have ab:(b:Int) % 32=(n:Int):=(by omega);have HN:=fQ hn;rw[hn];clear hn c;go_in;go_wp2_with fail;refine(xZ _ _ (by first | omega | exact(mX _).1) (by first | omega | exact(mX _).2)).mono ?_;rintro e w1 ⟨rfl,rfl⟩;go_wp2;go_ret2;exact⟨iX (by first | rfl | exact lJ _ | exact lY _ | exact(Aj _)),rfl⟩
theorem dJv{a b:Nat}(ha:a<4294967296)(hb:b<4294967296):hY 3 127 11 a b=((wrap32 a / 2 ^ (b % 32)) % 4294967296,0):=by
 have e:hY 3 127 11 a b=((oW .u32 32 a b (b % 32) (wrap32 a)).getD 11 0,0):=by
  simp only[hY];rw[if_neg (by decide),if_neg (by decide),if_neg (by decide)];rfl
 rw[e,cWq];rw[Aq]
theorem dJw(w:Bb)(ha:a<4294967296)(hb:b<4294967296):Bd fZ 143 #[.int .i64 11,.int .u64 a,.int .u64 b,.int .i64 32] w (iJ 32 127 11 a b w):=by
 have c:=fQ (@dJv a b ha hb);unfold iJ;rw[c.out];obtain⟨n,hn⟩:=fX (b % 32);have aa:n<32:=(by omega);have ab:(b:Int) % 32=(n:Int):=(by omega);have HN:=fQ hn;rw[hn];clear hn c;go_in;go_wp2_with fail;refine(aQm (a:Int) _ (by omega) (by omega)).mono ?_;rintro e w1 ⟨rfl,rfl⟩;go_wp2_with fail;refine(xZ _ _ (by first | omega | exact(mX _).1) (by first | omega | exact(mX _).2)).mono ?_;rintro e w1 ⟨rfl,rfl⟩;go_wp2;go_ret2;exact⟨iX (by first | rfl | exact lJ _ | exact lY _ | exact(Aj _)),rfl⟩
theorem dJx{a b:Nat}(ha:a<4294967296)(hb:b<4294967296):hY 3 127 12 a b=((a:Int) / 2 ^ (b % 32),0):=by
 have e:hY 3 127 12 a b=((oW .u32 32 a b (b % 32) (wrap32 a)).getD 12 0,0):=(by simp[hY]);rw[e];rfl
theorem dJy(w:Bb)(ha:a<4294967296)(hb:b<4294967296):Bd fZ 143 #[.int .i64 12,.int .u64 a,.int .u64 b,.int .i64 32] w (iJ 32 127 12 a b w):=by
 have c:=fQ (@dJx a b ha hb);unfold iJ;rw[c.out];obtain⟨n,hn⟩:=fX (b % 32);have aa:n<32:=(by omega);have ab:(b:Int) % 32=(n:Int):=(by omega);have HN:=fQ hn;rw[hn];clear hn c;go_in;go_wp2;go_ret2;exact⟨iX (by first | rfl | exact lJ _ | exact lY _ | exact(Aj _)),rfl⟩
theorem dJz{a b:Nat}(ha:a<4294967296)(hb:b<4294967296):hY 3 127 13 a b=(((rot 32 a (b % 32):Nat):Int),0):=by
 have e:hY 3 127 13 a b=((oW .u32 32 a b (b % 32) (wrap32 a)).getD 13 0,0):=(by simp[hY]);rw[e]
 exact congrArg (·,0) (dVz (b % 32) (by omega) ha)
theorem dKa(w:Bb)(ha:a<4294967296)(hb:b<4294967296):Bd fZ 143 #[.int .i64 13,.int .u64 a,.int .u64 b,.int .i64 32] w (iJ 32 127 13 a b w):=by
 have c:=fQ (@dJz a b ha hb);unfold iJ;rw[c.out];obtain⟨n,hn⟩:=fX (b % 32);have aa:n<32:=(by omega);have ab:(b:Int) % 32=(n:Int):=(by omega);have HN:=fQ hn;rw[hn];clear hn c;go_in;go_wp2_with fail;refine(bKw a n _ (by omega) ha).mono ?_;rintro e w1 ⟨rfl,rfl⟩;go_wp2;go_ret2;exact⟨iX (by first | rfl | exact lJ _ | exact lY _ | exact(Aj _)),rfl⟩
theorem dKb{a b:Nat}(ha:a<4294967296)(hb:b<4294967296):hY 3 127 14 a b=(((rot 32 a (32 - b % 32):Nat):Int),0):=by
 have e:hY 3 127 14 a b=((oW .u32 32 a b (b % 32) (wrap32 a)).getD 14 0,0):=(by simp[hY]);rw[e]
 exact congrArg (·,0) (dWa (b % 32) (by omega) ha)
theorem dKc(w:Bb)(ha:a<4294967296)(hb:b<4294967296):Bd fZ 143 #[.int .i64 14,.int .u64 a,.int .u64 b,.int .i64 32] w (iJ 32 127 14 a b w):=by
 have c:=fQ (@dKb a b ha hb);unfold iJ;rw[c.out];obtain⟨n,hn⟩:=fX (b % 32);have aa:n<32:=(by omega);have ab:(b:Int) % 32=(n:Int):=(by omega);have HN:=fQ hn;rw[hn];clear hn c;go_in;have hs:(32:Int) - (n:Int)=((32 - n:Nat):Int):=(by omega);go_wp2_with fail;refine(bKw a (32 - n) _ (by omega) ha).mono ?_;rintro e w1 ⟨rfl,rfl⟩;go_wp2;go_ret2;exact⟨iX (by first | rfl | exact lJ _ | exact lY _ | exact(Aj _)),rfl⟩
theorem dKd(k a b:Nat)(w:Bb)(hk:k<15)(ha:a<4294967296)(hb:b<4294967296):Bd fZ 143 #[.int .i64 k,.int .u64 a,.int .u64 b,.int .i64 32] w (iJ 32 127 k a b w):=by
 have hc:k=0\/k=1\/k=2\/k=3\/k=4\/k=5\/k=6\/k=7\/k=8\/k=9\/k=10\/k=11\/k=12\/k=13\/k=14:=(by omega);rcases hc with rfl | rfl | rfl | rfl | rfl | rfl | rfl | rfl | rfl | rfl | rfl | rfl | rfl | rfl | rfl
 ·exact dWs w ha hb
 ·exact dWu w ha hb
 ·exact dWw w ha hb
 ·exact dWx w ha hb
 ·exact dWy w ha hb
 ·exact dWz w ha hb
 ·exact dYa w ha hb
 ·exact dYc w ha hb
 ·exact dYe w ha hb
 ·exact dYg w ha hb
 ·exact dJu w ha hb
 ·exact dJw w ha hb
 ·exact dJy w ha hb
 ·exact dKa w ha hb
 ·exact dKc w ha hb
end Go.Proofs.YtabibkpfgmolkaaGreat

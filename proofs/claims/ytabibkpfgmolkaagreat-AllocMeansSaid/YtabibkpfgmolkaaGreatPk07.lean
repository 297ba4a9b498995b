/- Lemmas for the claim, part 7. Conditions: none. -/
import Derived.Test.YtabibkpfgmolkaaGreatPk06
set_option maxRecDepth 100000
set_option maxHeartbeats 16000000
set_option linter.unusedVariables false
set_option linter.unusedSimpArgs false
open Go.Lib renaming hid→fQ
open Go.Proofs.Tryz renaming prog→fZ
open Go.Proofs.Tryz
open Go.RowKit
open Go.IntKind renaming wrap_u64→Aj,wrap_u32→Aq,signed→AK,wrap→Ah
open Nat renaming mod_eq_of_lt→Ax,lt_of_le_of_lt→Az,mod_lt→Av,pow_succ→Aw,div_le_self→AJ,pow_pos→AQ,two_pow_add_eq_or_of_lt→AX,div_div_eq_div_mul→AV,mul_le_mul_right→AW,add_mul→AY,mul_comm→Ad,div_eq_of_lt→Ae,le_refl→Af,two_pow_pos→Ag,pow_add→Ai,mod_mul→Bj,pow_one→Bq,mod_one→Bx,mul_one→Bz
open Go.RowKit.Below renaming refl→Ak
open List renaming getElem?_eq_getElem→Ay,replicate→AZ,map_cons→Aa,map_nil→Ab,toArray→Ac
open Go renaming World→Bk,Calls→Bw
open Go.RowKit renaming Below→Bv
namespace Go.Proofs.YtabibkpfgmolkaaGreat
variable {a b W n x k:Nat}
theorem aKb:(fZ.info? 5).map (fun i=>(i.zero,i.size,i.bytes))=some (some (.int .u8 0),1,1):=by kernel_rfl
theorem cXv(A:Option Addr)(n c:Nat)(m:List Nat)(most:Int)(a:Nat)(w:Bk)(hs:Src w A n (bys m))(x:A=none->n=0/\c=0)(hn:n<=140737488355328)
  (ai : -9223372036854775808<=most) (aj:most<=9223372036854775807) (hp:a<18446744073709551616) :
  Bw fZ 120 #[.slice A n c,.int .i64 most,.int .u64 a] w fun e w'=>∃ i j,e = .returned (.tuple #[.slice i (pZ m most a).length j,.int .u64 (aQb n most a)]) /\
   w'.ownsRow w.heap.size 5 1 (.slice i (pZ m most a).length j) (pZ m most a).length (bys (pZ m most a))/\Bv w.heap.size w w':=by
 have y:m.length=n:=(by have:=hs.1;rwa[aYl]at this);have k:=fQ hs;have HA:=fQ x;have l:=fQ y;clear hs x y;by_cases hg:aXi n most a=true
 ·have HG:=fQ hg;have o:=fQ (show pZ m most a=m++AZ (256*a) 0 by simp[pZ,l.out,hg]);have q:=fQ (show aQb n most a=n / 256 by simp[aQb,hg]);simp only[aXi,decide_eq_true_eq]at hg;obtain⟨h1,h2⟩:=hg;have B:(n:Int)+256*a<=most:=(by omega);have h4:n+256*a<=4096:=(by omega);have h6:a<=16:=(by omega);clear h2;have h5:(n:Int) % 256=0:=(by omega)
  have fin:∀ (w1:Bk) (v:Value) (h:Array Value),w1.ownsRow w.heap.size 5 1 v (n+256*a) (bys m++AZ (256*a) (.int .u8 0))->Bv w.heap.size w w1->h.getD 6 undef=v->h.getD 7 undef = .int .u64 ((n / 256:Nat):Int) ->
    bodyPost fZ Tryz.f120 (fun e w'=>∃ i j,e = .returned (.tuple #[.slice i (pZ m most a).length j,.int .u64 (aQb n most a)]) /\
     w'.ownsRow w.heap.size 5 1 (.slice i (pZ m most a).length j) (pZ m most a).length (bys (pZ m most a))/\Bv w.heap.size w w') Exit.ret { tmps:=h,defers:=[] } w1:=by
   intro w1 v h f g r s;refine bodyPost_ret (results_tmp2 rfl _ _ _) rfl ?_;obtain⟨i,j,rfl,_⟩:=fW f;have z:(pZ m most a).length=n+256*a:=(by rw[o.out];simp[l.out]);refine⟨i,j,?_,?_,g⟩
   ·rw[z,q.out];show Ending.returned (.tuple #[h.getD 6 undef,h.getD 7 undef])=_;rw[r,s]
   ·rw[z,o.out,eQj,show bys (AZ (256*a) 0)=AZ (256*a) (.int .u8 0)from by simp[bys]];exact f
  rcases Int.lt_or_le most 4096 with C | C
  ·go_in;go_wp2_with (at_builtin;refine yQ _ rfl _ (.tmp 9) 31 rfl 5 _ 1 underlying31 aKb rfl rfl A n c _ rfl k.out (aXo _) (by unfold maxLen;omega) (by omega) ?_);rintro v w1 b d;have f:=fQ b;have g:=fQ d;clear b d;go_wp2_with (at_builtin;refine aJr _ rfl _ (.tmp 34) 31 3 rfl w.heap.size 5 (.int .u8 0) 1 .i64 underlying31 underlying3 aKb rfl rfl _ n (bys m) rfl f.out .i64 (256*a) _ (by omega) rfl (by unfold maxLen;omega) (by omega) g.out.size ?_)
   all_goals
    rintro D w' b d;have t:=fQ b;have u:=fQ d;clear b d f;go_wp2;refine fin _ _ _ t.out (g.out.trans u.out) rfl ?_;show Value.int .u64 _ = .int .u64 _
    first | rfl | (congr 1;omega)
  ·go_in;go_wp2_with (at_builtin;refine yQ _ rfl _ (.tmp 9) 31 rfl 5 _ 1 underlying31 aKb rfl rfl A n c _ rfl k.out (aXo _) (by unfold maxLen;omega) (by omega) ?_);rintro v w1 b d;have f:=fQ b;have g:=fQ d;clear b d;go_wp2_with (at_builtin;refine aJr _ rfl _ (.tmp 34) 31 3 rfl w.heap.size 5 (.int .u8 0) 1 .i64 underlying31 underlying3 aKb rfl rfl _ n (bys m) rfl f.out .i64 (256*a) _ (by omega) rfl (by unfold maxLen;omega) (by omega) g.out.size ?_)
   all_goals
    rintro D w' b d;have t:=fQ b;have u:=fQ d;clear b d f;go_wp2;refine fin _ _ _ t.out (g.out.trans u.out) rfl ?_;show Value.int .u64 _ = .int .u64 _
    first | rfl | (congr 1;omega)
 ·have p:aXi n most a=false:=(by simpa using hg);have o:=fQ (show pZ m most a=m by simp[pZ,l.out,p]);have q:=fQ (show aQb n most a=4294967295 by simp[aQb,p])
  have E:n % 256≠0\/((n % 256=0/\16<a)\/(n % 256=0/\a<=16/\min most 4096<(n:Int)+256*a)):=by
   simp[aXi]at p;omega
  clear hg p
  have fin:∀ (w1:Bk) (v:Value) (h:Array Value),w1.ownsRow w.heap.size 5 1 v n (bys m)->Bv w.heap.size w w1->h.getD 6 undef=v->h.getD 7 undef = .int .u64 4294967295 ->
    bodyPost fZ Tryz.f120 (fun e w'=>∃ i j,e = .returned (.tuple #[.slice i (pZ m most a).length j,.int .u64 (aQb n most a)]) /\
     w'.ownsRow w.heap.size 5 1 (.slice i (pZ m most a).length j) (pZ m most a).length (bys (pZ m most a))/\Bv w.heap.size w w') Exit.ret { tmps:=h,defers:=[] } w1:=by
   intro w1 v h f g r s;refine bodyPost_ret (results_tmp2 rfl _ _ _) rfl ?_;obtain⟨i,j,rfl,_⟩:=fW f;refine⟨i,j,?_,?_,g⟩
   ·rw[o.out,q.out,l.out];show Ending.returned (.tuple #[h.getD 6 undef,h.getD 7 undef])=_;rw[r,s];rfl
   ·rw[o.out,l.out];exact f
  rcases E with h1 | ⟨h1,h2⟩ | ⟨h1,h2,B⟩
  ·go_in;go_wp2_with (at_builtin;refine yQ _ rfl _ (.tmp 9) 31 rfl 5 _ 1 underlying31 aKb rfl rfl A n c _ rfl k.out (aXo _) (by unfold maxLen;omega) (by omega) ?_);rintro v w1 b d;have f:=fQ b;have g:=fQ d;clear b d;go_wp2_with fail
   all_goals first | exact fin _ _ _ f.out g.out rfl rfl | (exfalso;omega) | skip
  ·go_in;go_wp2_with (at_builtin;refine yQ _ rfl _ (.tmp 9) 31 rfl 5 _ 1 underlying31 aKb rfl rfl A n c _ rfl k.out (aXo _) (by unfold maxLen;omega) (by omega) ?_);rintro v w1 b d;have f:=fQ b;have g:=fQ d;clear b d;go_wp2_with fail
   all_goals first | exact fin _ _ _ f.out g.out rfl rfl | (exfalso;omega) | skip
  ·go_in;go_wp2_with (at_builtin;refine yQ _ rfl _ (.tmp 9) 31 rfl 5 _ 1 underlying31 aKb rfl rfl A n c _ rfl k.out (aXo _) (by unfold maxLen;omega) (by omega) ?_);rintro v w1 b d;have f:=fQ b;have g:=fQ d;clear b d;go_wp2_with fail
   all_goals first | exact fin _ _ _ f.out g.out rfl rfl | (exfalso;omega) | skip
def fitsB(k:Int)(N:Nat):Bool:=decide (k=126\/(k=127/\N<4294967296))
theorem aQq(k:Int)(N:Nat)(w:Bk):Bw fZ 63 #[.int .i64 k,.int .u64 N] w fun e w'=>e = .returned (.bool (fitsB k N))/\w=w':=by
 by_cases h1:k=126
 ·have c:(k == 126)=true:=(by simp[h1]);have a:=fQ (show fitsB k N=true by simp[fitsB,h1]);clear h1;go_in;go_wp2;go_ret;rw[a.out];exact⟨rfl,rfl⟩
 ·have c:(k == 126)=false:=(by simp[h1]);by_cases h2:k=127
  ·have d:(k == 127)=true:=(by simp[h2]);by_cases b:N<4294967296
   ·have f:decide ((N:Int)<4294967296)=true:=(by simp;omega);have a:=fQ (show fitsB k N=true by simp[fitsB,h2,b]);clear h1 h2 b;go_in;go_wp2;go_ret;rw[a.out];exact⟨rfl,rfl⟩
   ·have f:decide ((N:Int)<4294967296)=false:=(by simp;omega);have a:=fQ (show fitsB k N=false by simp[fitsB,h2,b]);clear h1 h2 b;go_in;go_wp2;go_ret;rw[a.out];exact⟨rfl,rfl⟩
  ·have d:(k == 127)=false:=(by simp[h2]);have a:=fQ (show fitsB k N=false by simp[fitsB,h1,h2]);clear h1 h2;go_in;go_wp2;go_ret;rw[a.out];exact⟨rfl,rfl⟩
def eKp(w0:Bk)(base g n c b:Nat)(m:List Nat)(a N:Nat)(i:Value)(wr:Bk):Prop:=
 ∃ k:Nat,k<=b/\i = .int .i64 k/\Hid (wr.ownsRow base 5 1 (.slice (some ⟨g,0,none⟩) n c) n (bys (putB m a N k)))/\Hid (Bv base w0 wr)
theorem dYa(N j:Nat):(N:Int) / 2 ^ (8*j) % 256=((N / 256 ^ j % 256:Nat):Int):=by
 rw[aKu];simp
theorem dZs(A:Option Addr)(n c addr off N a:Nat)(op k:Int)(t:Bool)(m:List Nat)(w:Bk)(d:acc op=some (k,(a:Int),true,t))(hs:Src w A n (bys m))(hn:n<=140737488355328)
  (ha:addr<=4294967295) (ho:off<=4294967295) (au:addr+off+a<=n) (u:fitsB k N=true) :
  Bw fZ 118 #[.slice A n c,.int .i64 op,.int .u64 addr,.int .u64 off,.int .u64 N] w fun e w'=>∃ h l,e = .returned (.tuple #[.slice h n l,.int .i64 0])/\w'.ownsRow w.heap.size 5 1 (.slice h n l) n (bys (putB m (addr+off) N a))/\Bv w.heap.size w w':=by
 obtain⟨x,y,_,_⟩:=nW d;have av:1<=a:=(by omega);have aw:a<=8:=(by omega);have z:=fQ (show fJ op = .tuple #[.int .i64 k,.int .i64 a,.bool true,.bool true] by simp[fJ,d]);have B:wJ n (addr+off) a=true:=(by simp[wJ];omega);have g1:decide (4294967295<(addr:Int))=false:=(by simp;omega);have g2:decide (4294967295<(off:Int))=false:=(by simp;omega);have C:=fQ hs;clear d hs x y;go_in;go_wp2_with fail;refine(gZ _ _).mono ?_;rintro e w1 ⟨rfl,rfl⟩;rw[z.out];go_wp2_with fail;refine(aQq _ _ _).mono ?_;rintro e w1 ⟨rfl,rfl⟩;rw[u];go_wp2_with fail;refine(vQ _ n c (addr+off) a _ hn).mono ?_;rintro e w1 ⟨rfl,rfl⟩;rw[B];go_wp2_with (at_builtin;refine yQ _ rfl _ (.tmp 53) 31 rfl 5 (.int .u8 0) 1 underlying31 aKb rfl rfl A n c (bys m) rfl C.out (aXo _) (by unfold maxLen;omega) (by omega) ?_);rintro v o f q;obtain⟨g,D,rfl,ax,E,_⟩:=mW f (by omega);have r:=fQ f;have F:=fQ (Ak w.heap.size o);have G:=fQ q;clear f q;go_wp2_with fail;go_loopw [17] (fun i wr=>eKp o w.heap.size g n D a m (addr+off) N i wr) (fun i _=>a+1 - (intOf i).toNat)
 case atStart=>exact⟨0,by omega,rfl,r,F⟩
 case round=>
  clear r;obtain⟨j,hj,rfl,b,s⟩:=hrel;by_cases H:j<a
  ·have aq:decide ((j:Int)<(a:Int))=true:=(by simpa using H);have ar:wr.frozen? ⟨g,addr+off+j,none⟩=false:=b.out.frozenAt _
   obtain⟨v,hcell⟩:∃ v,wr.cell? ⟨g,addr+off+j,none⟩=some v:=by
    have hl:=b.out.1;rw[b.out.cellAt (addr+off+j) (by omega)];exact⟨_,Ay (by omega)⟩
   go_wp2;refine⟨⟨j+1,by omega,by simp,?_,fQ (s.out.setCell (p:=⟨g,addr+off+j,none⟩) E _)⟩,by simp[intOf];omega⟩;refine fQ ?_;rw[putB,<-eQl,dYa];exact(b.out.stored (addr+off+j) (.int .u8 ((N / 256 ^ j % 256:Nat):Int))).1
  ·obtain rfl:j=a:=(by omega);go_wp2;go_ret2;exact⟨_,_,rfl,b.out,G.out.trans s.out⟩
theorem aYa(A:Option Addr)(n c addr off N:Nat)(op:Int)(m:List Nat)(w:Bk)(hs:Src w A n (bys m))(hn:n<=140737488355328):
  Bw fZ 118 #[.slice A n c,.int .i64 op,.int .u64 addr,.int .u64 off,.int .u64 N] w fun e w'=>∃ l o,e = .returned (.tuple #[.slice l (oX m op addr off N).length o,.int .i64 (nQ n op addr off N)]) /\
   w'.ownsRow w.heap.size 5 1 (.slice l (oX m op addr off N).length o) (oX m op addr off N).length (bys (oX m op addr off N))/\Bv w.heap.size w w':=by
 have d:m.length=n:=by have:=hs.1;rwa[aYl]at this
 have bad:∀ E:Int,E≠0->nQ n op addr off N=E->∀ (w':Bk) (i:Array Value),i.getD 10 undef = .slice none 0 0->i.getD 11 undef = .int .i64 E->Bv w.heap.size w w' ->
   bodyPost fZ Tryz.f118 (fun e w'=>∃ l o,e = .returned (.tuple #[.slice l (oX m op addr off N).length o,.int .i64 (nQ n op addr off N)]) /\
    w'.ownsRow w.heap.size 5 1 (.slice l (oX m op addr off N).length o) (oX m op addr off N).length (bys (oX m op addr off N))/\Bv w.heap.size w w') Exit.ret { tmps:=i,defers:=[] } w':=by
  intro E q y w' i B e2 C;have p:oX m op addr off N = []:=(by rw[oX,d,y,if_neg q]);refine bodyPost_ret (results_tmp2 (t:=10) (u:=11) rfl _ _ _) rfl ⟨none,0,?_,?_,C⟩
  ·rw[p,y];show Ending.returned (.tuple #[i.getD 10 undef,i.getD 11 undef])=_;rw[B,e2];rfl
  ·rw[p];exact World.ownsRow_nil _ _ _ _
 cases a:acc op with
 | none=>
  have b:=fQ (show nQ n op addr off N=1 by simp[nQ,a]);have f:=fQ (show fJ op = .tuple #[.int .i64 0,.int .i64 0,.bool false,.bool false] by simp[fJ,a]);clear a hs d;go_in;go_wp2_with fail;refine(gZ _ _).mono ?_;rintro e w1 ⟨rfl,rfl⟩;rw[f.out];go_wp2;exact bad 1 (by decide) b.out _ _ rfl rfl (Ak _ _)
 | some r=>
  obtain⟨k,wd,st,D⟩:=r;obtain⟨s,v,_,_⟩:=nW a;obtain⟨g,rfl⟩:=Int.eq_ofNat_of_zero_le (show 0<=wd by omega);have f:=fQ (show fJ op = .tuple #[.int .i64 k,.int .i64 g,.bool st,.bool true] by simp[fJ,a])
  cases st with
  | false=>
   have b:=fQ (show nQ n op addr off N=1 by simp[nQ,a]);clear a hs d;go_in;go_wp2_with fail;refine(gZ _ _).mono ?_;rintro e w1 ⟨rfl,rfl⟩;rw[f.out];go_wp2;exact bad 1 (by decide) b.out _ _ rfl rfl (Ak _ _)
  | true=>
   have x:k=127\/k=126:=(by omega);by_cases h:4294967295<addr\/4294967295<off
   ·have b:=fQ (show nQ n op addr off N=1 by simp[nQ,a,vK,h]);clear a hs d;by_cases h1:4294967295<addr
    ·have z:decide (4294967295<(addr:Int))=true:=(by simp;omega);clear h x s v;go_in;go_wp2_with fail;refine(gZ _ _).mono ?_;rintro e w1 ⟨rfl,rfl⟩;rw[f.out];go_wp2;exact bad 1 (by decide) b.out _ _ rfl rfl (Ak _ _)
    ·have z:decide (4294967295<(addr:Int))=false:=(by simp;omega);have F:decide (4294967295<(off:Int))=true:=(by simp;omega);clear h x s v;go_in;go_wp2_with fail;refine(gZ _ _).mono ?_;rintro e w1 ⟨rfl,rfl⟩;rw[f.out];go_wp2;exact bad 1 (by decide) b.out _ _ rfl rfl (Ak _ _)
   ·have z:decide (4294967295<(addr:Int))=false:=(by simp;omega);have F:decide (4294967295<(off:Int))=false:=(by simp;omega);have ha:addr<=4294967295:=(by omega);have G:off<=4294967295:=(by omega)
    cases hf:fitsB k N with
    | false=>
     have j:k=127/\4294967295<N:=(by simp[fitsB]at hf;omega);have b:=fQ (show nQ n op addr off N=1 by simp[nQ,a,j]);clear a hs d h x s v j;go_in;go_wp2_with fail;refine(gZ _ _).mono ?_;rintro e w1 ⟨rfl,rfl⟩;rw[f.out];go_wp2_with fail;refine(aQq _ _ _).mono ?_;rintro e w1 ⟨rfl,rfl⟩;rw[hf];go_wp2;exact bad 1 (by decide) b.out _ _ rfl rfl (Ak _ _)
    | true=>
     have j:¬(k=127/\4294967295<N):=by simp[fitsB]at hf;omega
     cases hi:wJ n (addr+off) g with
     | true=>
      have hp:(vK n g addr off).2=0:=(by simp[vK,h,hi]);obtain⟨_,H,_,_⟩:=bKt hp;have q:nQ n op addr off N=0:=(by simp[nQ,a,j,hp]);have p:oX m op addr off N=putB m (addr+off) N g:=(by simp[oX,d,q,eKg,a]);have I:(oX m op addr off N).length=n:=(by rw[p,aJj,d]);rw[I,p,q];exact dZs A n c addr off N g op k D m w a hs hn ha G (by simpa using H) hf
     | false=>
      have b:=fQ (show nQ n op addr off N=35 by simp[nQ,a,j,vK,h,hi]);have ai:g<=8:=(by omega);clear a hs d h x s v j;go_in;go_wp2_with fail;refine(gZ _ _).mono ?_;rintro e w1 ⟨rfl,rfl⟩;rw[f.out];go_wp2_with fail;refine(aQq _ _ _).mono ?_;rintro e w1 ⟨rfl,rfl⟩;rw[hf];go_wp2_with fail;refine(vQ _ n c (addr+off) g _ hn).mono ?_;rintro e w1 ⟨rfl,rfl⟩;rw[hi];go_wp2;exact bad 35 (by decide) b.out _ _ rfl rfl (Ak _ _)
theorem mY(t:Int)(n:Nat)(w:Bk):Bw fZ 63 #[.int .i64 t,.int .u64 n] w fun e w'=>e = .returned (.bool (iV t n))/\w=w':=by
 by_cases h1:t=126
 ·have c:(t == 126)=true:=(by simp[h1]);have a:=fQ (show iV t n=true by simp[iV,h1]);clear h1;go_in;go_wp2;go_ret;rw[a.out];exact⟨rfl,rfl⟩
 ·have c:(t == 126)=false:=(by simp[h1]);by_cases h2:t=127
  ·have d:(t == 127)=true:=(by simp[h2]);by_cases b:n<4294967296
   ·have f:decide ((n:Int)<4294967296)=true:=(by simp;omega);have a:=fQ (show iV t n=true by simp[iV,h2,b]);clear h1 h2;go_in;go_wp2;go_ret;rw[a.out];exact⟨rfl,rfl⟩
   ·have f:decide ((n:Int)<4294967296)=false:=(by simp;omega);have a:=fQ (show iV t n=false by simp[iV,h2,b]);clear h1 h2;go_in;go_wp2;go_ret;rw[a.out];exact⟨rfl,rfl⟩
  ·have d:(t == 127)=false:=(by simp[h2]);have a:=fQ (show iV t n=false by simp[iV,h1,h2]);clear h1 h2;go_in;go_wp2;go_ret;rw[a.out];exact⟨rfl,rfl⟩
theorem aQx(w:Bk):Bw fZ 138 #[.int .i64 127] w fun e w'=>e = .returned (.int .i64 32)/\w=w':=by
 go_in;go_wp2;go_ret;exact⟨rfl,rfl⟩
theorem aQy(w:Bk):Bw fZ 138 #[.int .i64 126] w fun e w'=>e = .returned (.int .i64 64)/\w=w':=by
 go_in;go_wp2;go_ret;exact⟨rfl,rfl⟩
theorem aKc(b:Bool)(w:Bk):Bw fZ 139 #[.bool b] w fun e w'=>e = .returned (.int .u64 (b01 b))/\w=w':=by
 cases b with
 | true=>
  go_in;go_wp2;go_ret;exact⟨rfl,rfl⟩
 | false=>
  go_in;go_wp2;go_ret;exact⟨rfl,rfl⟩
theorem aQe(z:Int)(w:Bk):Bw fZ 144 #[.int .u64 z,.int .i64 64] w fun e w'=>e = .returned (.int .u64 z)/\w=w':=by
 go_in;go_wp2;go_ret;exact⟨rfl,rfl⟩
theorem eKv{z:Int}(a:0<=z)(hz:z<18446744073709551616):bits .and .u64 z 4294967295=z % 4294967296:=by
 obtain⟨x,rfl⟩:=Int.eq_ofNat_of_zero_le a;rw[show(4294967295:Int)=((2 ^ 32 - 1:Nat):Int)from rfl,bits_and_u64_nat x (2 ^ 32 - 1) (by omega) (by decide),Nat.and_two_pow_sub_one_eq_mod];simp
theorem aQf(z:Int)(w:Bk)(a:0<=z)(hz:z<18446744073709551616):Bw fZ 144 #[.int .u64 z,.int .i64 32] w fun e w'=>e = .returned (.int .u64 (z % 4294967296))/\w=w':=by
 have b:=fQ (eKv a hz);go_in;go_wp2;go_ret;rw[<-b.out];exact⟨rfl,rfl⟩
theorem eYz(z:Int):wrap64 (IntKind.u64.wrap (z*4294967296)) / 4294967296=wrap32 z:=by rw[Aj];unfold wrap64 wrap32;omega
theorem fQa(z:Int):wrap64 (IntKind.u64.wrap (z*281474976710656)) / 281474976710656=IntKind.i16.wrap z:=by
 have a:z*281474976710656 % 18446744073709551616=281474976710656*(z % 65536):=by
  rw[Int.mul_comm z 281474976710656,show(18446744073709551616:Int)=281474976710656*65536 from rfl,Int.mul_emod_mul_of_pos _ _ (by decide)]
 rw[Aj,a];have b:0<=z % 65536:=Int.emod_nonneg _ (by decide);have h1:z % 65536<65536:=Int.emod_lt_of_pos _ (by decide);unfold wrap64;simp only[Ah,show(2:Int) ^ IntKind.i16.bits=65536 from rfl,show(2:Int) ^ IntKind.i8.bits=256 from rfl,show(2:Int) ^ (IntKind.i16.bits - 1)=32768 from rfl,show(2:Int) ^ (IntKind.i8.bits - 1)=128 from rfl];generalize z % 65536=r at b h1 ⊢
 split
 ·rename_i hs;have hr:32768<=r:=(by simpa[AK]using hs);omega
 ·rename_i hs;have hr:r<32768:=(by simpa[AK]using hs);omega
theorem sg8(z:Int):wrap64 (IntKind.u64.wrap (z*72057594037927936)) / 72057594037927936=IntKind.i8.wrap z:=by
 have a:z*72057594037927936 % 18446744073709551616=72057594037927936*(z % 256):=by
  rw[Int.mul_comm z 72057594037927936,show(18446744073709551616:Int)=72057594037927936*256 from rfl,Int.mul_emod_mul_of_pos _ _ (by decide)]
 rw[Aj,a];have b:0<=z % 256:=Int.emod_nonneg _ (by decide);have h1:z % 256<256:=Int.emod_lt_of_pos _ (by decide);unfold wrap64;simp only[Ah,show(2:Int) ^ IntKind.i16.bits=65536 from rfl,show(2:Int) ^ IntKind.i8.bits=256 from rfl,show(2:Int) ^ (IntKind.i16.bits - 1)=32768 from rfl,show(2:Int) ^ (IntKind.i8.bits - 1)=128 from rfl];generalize z % 256=r at b h1 ⊢
 split
 ·rename_i hs;have hr:128<=r:=(by simpa[AK]using hs);omega
 ·rename_i hs;have hr:r<128:=(by simpa[AK]using hs);omega
theorem aXt{k:IntKind}{a b:Int}(h:a=b):Ending.returned (.int k a) = .returned (.int k b):=by rw[h]
theorem aWb(z:Int)(w:Bk)(h0:0<=z)(hz:z<18446744073709551616):Bw fZ 145 #[.int .u64 z,.int .i64 64] w fun e w'=>e = .returned (.int .i64 (wrap64 z))/\w=w':=by
 go_in;go_wp2;go_ret;exact⟨rfl,rfl⟩
theorem aXu(z:Int)(w:Bk)(h0:0<=z)(hz:z<18446744073709551616):Bw fZ 145 #[.int .u64 z,.int .i64 32] w fun e w'=>e = .returned (.int .i64 (wrap32 z))/\w=w':=by
 go_in;go_wp2;go_ret;exact⟨aXt (eYz z),rfl⟩
theorem cQj(z:Int)(w:Bk)(h0:0<=z)(hz:z<18446744073709551616):Bw fZ 145 #[.int .u64 z,.int .i64 16] w fun e w'=>e = .returned (.int .i64 (IntKind.i16.wrap z))/\w=w':=by
 go_in;go_wp2;go_ret;exact⟨aXt (fQa z),rfl⟩
theorem cZx(z:Int)(w:Bk)(h0:0<=z)(hz:z<18446744073709551616):Bw fZ 145 #[.int .u64 z,.int .i64 8] w fun e w'=>e = .returned (.int .i64 (IntKind.i8.wrap z))/\w=w':=by
 go_in;go_wp2;go_ret;exact⟨aXt (sg8 z),rfl⟩
theorem cQk{g:Nat}{x y:Int}{w:Bk}(hk:k<10)(c:Blk w g 4 ((aQj a b x y).map Value.bool).toArray):w.cell? ⟨g,k,none⟩=some (.bool ((aQj a b x y).getD k false)):=by
 rw[c.cell k];simp only[List.getElem?_toArray,List.getElem?_map];rw[Ay (by simp[aQj];omega),List.getD_eq_getElem?_getD,Ay (by simp[aQj];omega)];rfl
theorem dJv(k a b:Nat)(w:Bk)(d:k<10)(ha:a<18446744073709551616)(hb:b<18446744073709551616):Bw fZ 141 #[.int .i64 k,.int .u64 a,.int .u64 b,.int .i64 64] w fun e w'=>e = .returned (.int .u64 (b01 ((aQj a b (wrap64 a) (wrap64 b)).getD k false)))/\Bv w.heap.size w w':=by
 have hc:=fun(w:Bk)=>cQk (a:=a) (b:=b) (x:=wrap64 a) (y:=wrap64 b) d (Blk.new w 4 _);have f:=fQ hc;have ab:(k:Int)<10:=(by omega);have ad:k<10:=d;clear hc;go_in;go_wp2_with fail;refine(aWb (a:Int) _ (by omega) (by omega)).mono ?_;rintro e w1 ⟨rfl,rfl⟩;go_wp2_with fail;refine(aWb (b:Int) _ (by omega) (by omega)).mono ?_;rintro e w1 ⟨rfl,rfl⟩;obtain⟨r,hr⟩:=fX ((aQj a b (wrap64 a) (wrap64 b)).getD k false);have c:=f.out w;rw[hr]at c;have g:=fQ hr;generalize h:wrap64 (a:Int)=x at c ⊢;generalize i:wrap64 (b:Int)=y at c ⊢;simp only[aQj,Aa,Ab,Ac]at c;clear h i f hr;go_wp2_with fail;refine(aKc r _).mono ?_;rintro e w1 ⟨rfl,rfl⟩;go_wp2;go_ret;exact⟨aXt (by rw[g.out]),(Ak _ _).alloc (Af _) _⟩
theorem dJw(k a b:Nat)(w:Bk)(d:k<10)(ha:a<18446744073709551616)(hb:b<18446744073709551616):Bw fZ 141 #[.int .i64 k,.int .u64 a,.int .u64 b,.int .i64 32] w fun e w'=>e = .returned (.int .u64 (b01 ((aQj a b (wrap32 a) (wrap32 b)).getD k false)))/\Bv w.heap.size w w':=by
 have hc:=fun(w:Bk)=>cQk (a:=a) (b:=b) (x:=wrap32 a) (y:=wrap32 b) d (Blk.new w 4 _);have f:=fQ hc;have ab:(k:Int)<10:=(by omega);have ad:k<10:=d;clear hc;go_in;go_wp2_with fail;refine(aXu (a:Int) _ (by omega) (by omega)).mono ?_;rintro e w1 ⟨rfl,rfl⟩;go_wp2_with fail;refine(aXu (b:Int) _ (by omega) (by omega)).mono ?_;rintro e w1 ⟨rfl,rfl⟩;obtain⟨r,hr⟩:=fX ((aQj a b (wrap32 a) (wrap32 b)).getD k false);have c:=f.out w;rw[hr]at c;have g:=fQ hr;generalize h:wrap32 (a:Int)=x at c ⊢;generalize i:wrap32 (b:Int)=y at c ⊢;simp only[aQj,Aa,Ab,Ac]at c;clear h i f hr;go_wp2_with fail;refine(aKc r _).mono ?_;rintro e w1 ⟨rfl,rfl⟩;go_wp2;go_ret;exact⟨aXt (by rw[g.out]),(Ak _ _).alloc (Af _) _⟩
theorem aQv:wrap64 9223372036854775808 = -9223372036854775808:=by unfold wrap64;omega
theorem aQw:wrap32 2147483648 = -2147483648:=by unfold wrap32;omega
theorem iY(z x:Int)(w:Bk)(a:0<=z)(hz:z<18446744073709551616)(b:wrap64 z=x):Bw fZ 145 #[.int .u64 z,.int .i64 64] w fun e w'=>e = .returned (.int .i64 x)/\w=w':=by
 subst b;exact aWb z w a hz
theorem jQ(z x:Int)(w:Bk)(a:0<=z)(hz:z<18446744073709551616)(b:wrap32 z=x):Bw fZ 145 #[.int .u64 z,.int .i64 32] w fun e w'=>e = .returned (.int .i64 x)/\w=w':=by
 subst b;exact aXu z w a hz
theorem mQ(z:Int):IntKind.u64.wrap (wrap64 z) % 4294967296=z % 4294967296:=by rw[rV];omega
theorem lJ(z:Int):IntKind.u64.wrap z % 4294967296=z % 4294967296:=by rw[Aj];omega
theorem mZ(z:Int):0<=IntKind.u64.wrap z/\IntKind.u64.wrap z<18446744073709551616:=by rw[Aj];omega
theorem bZq(k a b:Nat)(w:Bk)(l:k=0\/k=1\/k=2\/k=3)(ha:a<18446744073709551616)(hb:b<18446744073709551616):Bw fZ 157 #[.int .i64 k,.int .u64 a,.int .u64 b,.int .i64 64] w fun e w'=>e = .returned (.tuple #[.int .u64 (jZ 18446744073709551616 (-9223372036854775808) k a b (wrap64 a) (wrap64 b)).1,.int .i64 (jZ 18446744073709551616 (-9223372036854775808) k a b (wrap64 a) (wrap64 b)).2])/\w=w':=by
 have m : -9223372036854775808<=wrap64 (a:Int)/\wrap64 (a:Int)<=9223372036854775807:=(by unfold wrap64;omega);have n : -9223372036854775808<=wrap64 (b:Int)/\wrap64 (b:Int)<=9223372036854775807:=(by unfold wrap64;omega);have i:wrap64 (b:Int)=0->b=0:=(by unfold wrap64;omega);obtain⟨x,f⟩:=fX (wrap64 (a:Int));obtain⟨y,g⟩:=fX (wrap64 (b:Int));rw[f]at m;rw[g]at n i;rw[f,g];replace f:=fQ f;replace g:=fQ g;obtain⟨af,ag⟩:=m;obtain⟨hy1,ah⟩:=n;have ai:a<18446744073709551616:=(by omega);have aj:b<18446744073709551616:=(by omega);by_cases c:b=0
 ·have o:((b:Int) == 0)=true:=(by simp[c]);have d:=fQ (show jZ 18446744073709551616 (-9223372036854775808) k a b x y=(0,33) by simp[jZ,c]);clear c i l;go_in;go_wp2_with fail;refine(iY (a:Int) x _ (by omega) (by omega) f.out).mono ?_;rintro e w1 ⟨rfl,rfl⟩;go_wp2_with fail;refine(iY (b:Int) y _ (by omega) (by omega) g.out).mono ?_;rintro e w1 ⟨rfl,rfl⟩;go_wp2;go_ret2;rw[d.out];exact⟨rfl,rfl⟩
 have o:((b:Int) == 0)=false:=(by simp;omega);have ak:(y == 0)=false:=(by simp;intro e;exact c (i e));have ae:¬y=0:=fun e=>c (i e);have al:0<b:=(by omega);by_cases h:y = -1
 ·have y1:(y == -1)=true:=(by simp[h]);by_cases j:x = -9223372036854775808
  ·have x1:(x == -9223372036854775808)=true:=(by simp[j]);rcases l with rfl | rfl | rfl | rfl
   ·have d:=fQ (show jZ 18446744073709551616 (-9223372036854775808) ((0:Nat):Int) a b x y=(0,34)from by simp[jZ,c,h,j]);clear c i h j;go_in;go_wp2_with fail;refine(iY (a:Int) x _ (by omega) (by omega) f.out).mono ?_;rintro e w1 ⟨rfl,rfl⟩;go_wp2_with fail;refine(iY (b:Int) y _ (by omega) (by omega) g.out).mono ?_;rintro e w1 ⟨rfl,rfl⟩;go_wp2_with fail;refine(iY 9223372036854775808 (-9223372036854775808) _ (by omega) (by omega) aQv).mono ?_;rintro e w1 ⟨rfl,rfl⟩;go_wp2;go_ret2;rw[d.out];exact⟨rfl,rfl⟩
   ·have d:=fQ (show jZ 18446744073709551616 (-9223372036854775808) ((1:Nat):Int) a b x y=((a:Int) / b,0)from by unfold jZ;rw[if_neg c,if_neg (by decide),if_pos (by rfl)]);clear c i h j;go_in;go_wp2_with fail;refine(iY (a:Int) x _ (by omega) (by omega) f.out).mono ?_;rintro e w1 ⟨rfl,rfl⟩;go_wp2_with fail;refine(iY (b:Int) y _ (by omega) (by omega) g.out).mono ?_;rintro e w1 ⟨rfl,rfl⟩;go_wp2_with fail;refine(iY 9223372036854775808 (-9223372036854775808) _ (by omega) (by omega) aQv).mono ?_;rintro e w1 ⟨rfl,rfl⟩;go_wp2;go_ret2;rw[d.out];exact⟨iQ (by first | rfl | (rw[Aj];exact aQz (by omega))),rfl⟩
   ·have d:=fQ (show jZ 18446744073709551616 (-9223372036854775808) ((2:Nat):Int) a b x y=(0,0)from by unfold jZ;rw[if_neg c,if_neg (by decide),if_neg (by decide),if_pos (by rfl),h,Int.tmod_neg,Int.tmod_one];rfl);clear c i h j;go_in;go_wp2_with fail;refine(iY (a:Int) x _ (by omega) (by omega) f.out).mono ?_;rintro e w1 ⟨rfl,rfl⟩;go_wp2_with fail;refine(iY (b:Int) y _ (by omega) (by omega) g.out).mono ?_;rintro e w1 ⟨rfl,rfl⟩;go_wp2_with fail;refine(iY 9223372036854775808 (-9223372036854775808) _ (by omega) (by omega) aQv).mono ?_;rintro e w1 ⟨rfl,rfl⟩;go_wp2;go_ret2;rw[d.out];exact⟨rfl,rfl⟩
   ·have d:=fQ (show jZ 18446744073709551616 (-9223372036854775808) ((3:Nat):Int) a b x y=((a:Int) % b,0)from by unfold jZ;rw[if_neg c,if_neg (by decide),if_neg (by decide),if_neg (by decide)]);clear c i h j;go_in;go_wp2_with fail;refine(iY (a:Int) x _ (by omega) (by omega) f.out).mono ?_;rintro e w1 ⟨rfl,rfl⟩;go_wp2_with fail;refine(iY (b:Int) y _ (by omega) (by omega) g.out).mono ?_;rintro e w1 ⟨rfl,rfl⟩;go_wp2_with fail;refine(iY 9223372036854775808 (-9223372036854775808) _ (by omega) (by omega) aQv).mono ?_;rintro e w1 ⟨rfl,rfl⟩;go_wp2;go_ret2;rw[d.out];exact⟨iQ (by first | rfl | (rw[Aj];exact aXa (by omega))),rfl⟩
  ·have x1:(x == -9223372036854775808)=false:=(by simp[j]);rcases l with rfl | rfl | rfl | rfl
   ·have d:=fQ (show jZ 18446744073709551616 (-9223372036854775808) ((0:Nat):Int) a b x y=((x.tdiv y) % 18446744073709551616,0)from by unfold jZ;rw[if_neg c,if_pos (by rfl),if_neg (by simp[j])]);clear c i h j;go_in;go_wp2_with fail;refine(iY (a:Int) x _ (by omega) (by omega) f.out).mono ?_;rintro e w1 ⟨rfl,rfl⟩;go_wp2_with fail;refine(iY (b:Int) y _ (by omega) (by omega) g.out).mono ?_;rintro e w1 ⟨rfl,rfl⟩;go_wp2_with fail;refine(iY 9223372036854775808 (-9223372036854775808) _ (by omega) (by omega) aQv).mono ?_;rintro e w1 ⟨rfl,rfl⟩;go_wp2_with fail;refine(aQe _ _).mono ?_;rintro e w1 ⟨rfl,rfl⟩;go_wp2;go_ret2;rw[d.out];exact⟨iQ (by first | exact rV _ | exact Aj _ | exact mQ _ | exact lJ _),rfl⟩
   ·have d:=fQ (show jZ 18446744073709551616 (-9223372036854775808) ((1:Nat):Int) a b x y=((a:Int) / b,0)from by unfold jZ;rw[if_neg c,if_neg (by decide),if_pos (by rfl)]);clear c i h j;go_in;go_wp2_with fail;refine(iY (a:Int) x _ (by omega) (by omega) f.out).mono ?_;rintro e w1 ⟨rfl,rfl⟩;go_wp2_with fail;refine(iY (b:Int) y _ (by omega) (by omega) g.out).mono ?_;rintro e w1 ⟨rfl,rfl⟩;go_wp2_with fail;refine(iY 9223372036854775808 (-9223372036854775808) _ (by omega) (by omega) aQv).mono ?_;rintro e w1 ⟨rfl,rfl⟩;go_wp2;go_ret2;rw[d.out];exact⟨iQ (by first | rfl | (rw[Aj];exact aQz (by omega))),rfl⟩
   ·have d:=fQ (show jZ 18446744073709551616 (-9223372036854775808) ((2:Nat):Int) a b x y=((x.tmod y) % 18446744073709551616,0)from by unfold jZ;rw[if_neg c,if_neg (by decide),if_neg (by decide),if_pos (by rfl)]);clear c i h j;go_in;go_wp2_with fail;refine(iY (a:Int) x _ (by omega) (by omega) f.out).mono ?_;rintro e w1 ⟨rfl,rfl⟩;go_wp2_with fail;refine(iY (b:Int) y _ (by omega) (by omega) g.out).mono ?_;rintro e w1 ⟨rfl,rfl⟩;go_wp2_with fail;refine(iY 9223372036854775808 (-9223372036854775808) _ (by omega) (by omega) aQv).mono ?_;rintro e w1 ⟨rfl,rfl⟩;go_wp2_with fail;refine(aQe _ _).mono ?_;rintro e w1 ⟨rfl,rfl⟩;go_wp2;go_ret2;rw[d.out];exact⟨iQ (by first | exact rV _ | exact Aj _ | exact mQ _ | exact lJ _),rfl⟩
   ·have d:=fQ (show jZ 18446744073709551616 (-9223372036854775808) ((3:Nat):Int) a b x y=((a:Int) % b,0)from by unfold jZ;rw[if_neg c,if_neg (by decide),if_neg (by decide),if_neg (by decide)]);clear c i h j;go_in;go_wp2_with fail;refine(iY (a:Int) x _ (by omega) (by omega) f.out).mono ?_;rintro e w1 ⟨rfl,rfl⟩;go_wp2_with fail;refine(iY (b:Int) y _ (by omega) (by omega) g.out).mono ?_;rintro e w1 ⟨rfl,rfl⟩;go_wp2_with fail;refine(iY 9223372036854775808 (-9223372036854775808) _ (by omega) (by omega) aQv).mono ?_;rintro e w1 ⟨rfl,rfl⟩;go_wp2;go_ret2;rw[d.out];exact⟨iQ (by first | rfl | (rw[Aj];exact aXa (by omega))),rfl⟩
 ·have y1:(y == -1)=false:=(by simp[h]);rcases l with rfl | rfl | rfl | rfl
  ·have d:=fQ (show jZ 18446744073709551616 (-9223372036854775808) ((0:Nat):Int) a b x y=((x.tdiv y) % 18446744073709551616,0)from by unfold jZ;rw[if_neg c,if_pos (by rfl),if_neg (by simp[h])]);clear c i h;go_in;go_wp2_with fail;refine(iY (a:Int) x _ (by omega) (by omega) f.out).mono ?_;rintro e w1 ⟨rfl,rfl⟩;go_wp2_with fail;refine(iY (b:Int) y _ (by omega) (by omega) g.out).mono ?_;rintro e w1 ⟨rfl,rfl⟩;go_wp2_with fail;refine(aQe _ _).mono ?_;rintro e w1 ⟨rfl,rfl⟩;go_wp2;go_ret2;rw[d.out];exact⟨iQ (by first | exact rV _ | exact Aj _ | exact mQ _ | exact lJ _),rfl⟩
  ·have d:=fQ (show jZ 18446744073709551616 (-9223372036854775808) ((1:Nat):Int) a b x y=((a:Int) / b,0)from by unfold jZ;rw[if_neg c,if_neg (by decide),if_pos (by rfl)]);clear c i h;go_in;go_wp2_with fail;refine(iY (a:Int) x _ (by omega) (by omega) f.out).mono ?_;rintro e w1 ⟨rfl,rfl⟩;go_wp2_with fail;refine(iY (b:Int) y _ (by omega) (by omega) g.out).mono ?_;rintro e w1 ⟨rfl,rfl⟩;go_wp2;go_ret2;rw[d.out];exact⟨iQ (by first | rfl | (rw[Aj];exact aQz (by omega))),rfl⟩
  ·have d:=fQ (show jZ 18446744073709551616 (-9223372036854775808) ((2:Nat):Int) a b x y=((x.tmod y) % 18446744073709551616,0)from by unfold jZ;rw[if_neg c,if_neg (by decide),if_neg (by decide),if_pos (by rfl)]);clear c i h;go_in;go_wp2_with fail;refine(iY (a:Int) x _ (by omega) (by omega) f.out).mono ?_;rintro e w1 ⟨rfl,rfl⟩;go_wp2_with fail;refine(iY (b:Int) y _ (by omega) (by omega) g.out).mono ?_;rintro e w1 ⟨rfl,rfl⟩;go_wp2_with fail;refine(aQe _ _).mono ?_;rintro e w1 ⟨rfl,rfl⟩;go_wp2;go_ret2;rw[d.out];exact⟨iQ (by first | exact rV _ | exact Aj _ | exact mQ _ | exact lJ _),rfl⟩
  ·have d:=fQ (show jZ 18446744073709551616 (-9223372036854775808) ((3:Nat):Int) a b x y=((a:Int) % b,0)from by unfold jZ;rw[if_neg c,if_neg (by decide),if_neg (by decide),if_neg (by decide)]);clear c i h;go_in;go_wp2_with fail;refine(iY (a:Int) x _ (by omega) (by omega) f.out).mono ?_;rintro e w1 ⟨rfl,rfl⟩;go_wp2_with fail;refine(iY (b:Int) y _ (by omega) (by omega) g.out).mono ?_;rintro e w1 ⟨rfl,rfl⟩;go_wp2;go_ret2;rw[d.out];exact⟨iQ (by first | rfl | (rw[Aj];exact aXa (by omega))),rfl⟩
theorem bZr(k a b:Nat)(w:Bk)(l:k=0\/k=1\/k=2\/k=3)(ha:a<4294967296)(hb:b<4294967296):Bw fZ 157 #[.int .i64 k,.int .u64 a,.int .u64 b,.int .i64 32] w fun e w'=>e = .returned (.tuple #[.int .u64 (jZ 4294967296 (-2147483648) k a b (wrap32 a) (wrap32 b)).1,.int .i64 (jZ 4294967296 (-2147483648) k a b (wrap32 a) (wrap32 b)).2])/\w=w':=by
 have m : -2147483648<=wrap32 (a:Int)/\wrap32 (a:Int)<=2147483647:=(by unfold wrap32;omega);have n : -2147483648<=wrap32 (b:Int)/\wrap32 (b:Int)<=2147483647:=(by unfold wrap32;omega);have i:wrap32 (b:Int)=0->b=0:=(by unfold wrap32;omega);obtain⟨x,f⟩:=fX (wrap32 (a:Int));obtain⟨y,g⟩:=fX (wrap32 (b:Int));rw[f]at m;rw[g]at n i;rw[f,g];replace f:=fQ f;replace g:=fQ g;obtain⟨af,ag⟩:=m;obtain⟨hy1,ah⟩:=n;have ai:a<18446744073709551616:=(by omega);have aj:b<18446744073709551616:=(by omega);by_cases c:b=0
 ·have o:((b:Int) == 0)=true:=(by simp[c]);have d:=fQ (show jZ 4294967296 (-2147483648) k a b x y=(0,33) by simp[jZ,c]);clear c i l;go_in;go_wp2_with fail;refine(jQ (a:Int) x _ (by omega) (by omega) f.out).mono ?_;rintro e w1 ⟨rfl,rfl⟩;go_wp2_with fail;refine(jQ (b:Int) y _ (by omega) (by omega) g.out).mono ?_;rintro e w1 ⟨rfl,rfl⟩;go_wp2;go_ret2;rw[d.out];exact⟨rfl,rfl⟩
 have o:((b:Int) == 0)=false:=(by simp;omega);have ak:(y == 0)=false:=(by simp;intro e;exact c (i e));have ae:¬y=0:=fun e=>c (i e);have al:0<b:=(by omega);by_cases h:y = -1
 ·have y1:(y == -1)=true:=(by simp[h]);by_cases j:x = -2147483648
  ·have x1:(x == -2147483648)=true:=(by simp[j]);rcases l with rfl | rfl | rfl | rfl
   ·have d:=fQ (show jZ 4294967296 (-2147483648) ((0:Nat):Int) a b x y=(0,34)from by simp[jZ,c,h,j]);clear c i h j;go_in;go_wp2_with fail;refine(jQ (a:Int) x _ (by omega) (by omega) f.out).mono ?_;rintro e w1 ⟨rfl,rfl⟩;go_wp2_with fail;refine(jQ (b:Int) y _ (by omega) (by omega) g.out).mono ?_;rintro e w1 ⟨rfl,rfl⟩;go_wp2_with fail;refine(jQ 2147483648 (-2147483648) _ (by omega) (by omega) aQw).mono ?_;rintro e w1 ⟨rfl,rfl⟩;go_wp2;go_ret2;rw[d.out];exact⟨rfl,rfl⟩
   ·have d:=fQ (show jZ 4294967296 (-2147483648) ((1:Nat):Int) a b x y=((a:Int) / b,0)from by unfold jZ;rw[if_neg c,if_neg (by decide),if_pos (by rfl)]);clear c i h j;go_in;go_wp2_with fail;refine(jQ (a:Int) x _ (by omega) (by omega) f.out).mono ?_;rintro e w1 ⟨rfl,rfl⟩;go_wp2_with fail;refine(jQ (b:Int) y _ (by omega) (by omega) g.out).mono ?_;rintro e w1 ⟨rfl,rfl⟩;go_wp2_with fail;refine(jQ 2147483648 (-2147483648) _ (by omega) (by omega) aQw).mono ?_;rintro e w1 ⟨rfl,rfl⟩;go_wp2;go_ret2;rw[d.out];exact⟨iQ (by first | rfl | (rw[Aj];exact aQz (by omega))),rfl⟩
   ·have d:=fQ (show jZ 4294967296 (-2147483648) ((2:Nat):Int) a b x y=(0,0)from by unfold jZ;rw[if_neg c,if_neg (by decide),if_neg (by decide),if_pos (by rfl),h,Int.tmod_neg,Int.tmod_one];rfl);clear c i h j;go_in;go_wp2_with fail;refine(jQ (a:Int) x _ (by omega) (by omega) f.out).mono ?_;rintro e w1 ⟨rfl,rfl⟩;go_wp2_with fail;refine(jQ (b:Int) y _ (by omega) (by omega) g.out).mono ?_;rintro e w1 ⟨rfl,rfl⟩;go_wp2_with fail;refine(jQ 2147483648 (-2147483648) _ (by omega) (by omega) aQw).mono ?_;rintro e w1 ⟨rfl,rfl⟩;go_wp2;go_ret2;rw[d.out];exact⟨rfl,rfl⟩
   ·have d:=fQ (show jZ 4294967296 (-2147483648) ((3:Nat):Int) a b x y=((a:Int) % b,0)from by unfold jZ;rw[if_neg c,if_neg (by decide),if_neg (by decide),if_neg (by decide)]);clear c i h j;go_in;go_wp2_with fail;refine(jQ (a:Int) x _ (by omega) (by omega) f.out).mono ?_;rintro e w1 ⟨rfl,rfl⟩;go_wp2_with fail;refine(jQ (b:Int) y _ (by omega) (by omega) g.out).mono ?_;rintro e w1 ⟨rfl,rfl⟩;go_wp2_with fail;refine(jQ 2147483648 (-2147483648) _ (by omega) (by omega) aQw).mono ?_;rintro e w1 ⟨rfl,rfl⟩;go_wp2;go_ret2;rw[d.out];exact⟨iQ (by first | rfl | (rw[Aj];exact aXa (by omega))),rfl⟩
  ·have x1:(x == -2147483648)=false:=(by simp[j]);rcases l with rfl | rfl | rfl | rfl
   ·have d:=fQ (show jZ 4294967296 (-2147483648) ((0:Nat):Int) a b x y=((x.tdiv y) % 4294967296,0)from by unfold jZ;rw[if_neg c,if_pos (by rfl),if_neg (by simp[j])]);clear c i h j;go_in;go_wp2_with fail;refine(jQ (a:Int) x _ (by omega) (by omega) f.out).mono ?_;rintro e w1 ⟨rfl,rfl⟩;go_wp2_with fail;refine(jQ (b:Int) y _ (by omega) (by omega) g.out).mono ?_;rintro e w1 ⟨rfl,rfl⟩;go_wp2_with fail;refine(jQ 2147483648 (-2147483648) _ (by omega) (by omega) aQw).mono ?_;rintro e w1 ⟨rfl,rfl⟩;go_wp2_with fail;refine(aQf _ _ (mZ _).1 (mZ _).2).mono ?_;rintro e w1 ⟨rfl,rfl⟩;go_wp2;go_ret2;rw[d.out];exact⟨iQ (by first | exact rV _ | exact Aj _ | exact mQ _ | exact lJ _),rfl⟩
   ·have d:=fQ (show jZ 4294967296 (-2147483648) ((1:Nat):Int) a b x y=((a:Int) / b,0)from by unfold jZ;rw[if_neg c,if_neg (by decide),if_pos (by rfl)]);clear c i h j;go_in;go_wp2_with fail;refine(jQ (a:Int) x _ (by omega) (by omega) f.out).mono ?_;rintro e w1 ⟨rfl,rfl⟩;go_wp2_with fail;refine(jQ (b:Int) y _ (by omega) (by omega) g.out).mono ?_;rintro e w1 ⟨rfl,rfl⟩;go_wp2_with fail;refine(jQ 2147483648 (-2147483648) _ (by omega) (by omega) aQw).mono ?_;rintro e w1 ⟨rfl,rfl⟩;go_wp2;go_ret2;rw[d.out];exact⟨iQ (by first | rfl | (rw[Aj];exact aQz (by omega))),rfl⟩
   ·have d:=fQ (show jZ 4294967296 (-2147483648) ((2:Nat):Int) a b x y=((x.tmod y) % 4294967296,0)from by unfold jZ;rw[if_neg c,if_neg (by decide),if_neg (by decide),if_pos (by rfl)]);clear c i h j;go_in;go_wp2_with fail;refine(jQ (a:Int) x _ (by omega) (by omega) f.out).mono ?_;rintro e w1 ⟨rfl,rfl⟩;go_wp2_with fail;refine(jQ (b:Int) y _ (by omega) (by omega) g.out).mono ?_;rintro e w1 ⟨rfl,rfl⟩;go_wp2_with fail;refine(jQ 2147483648 (-2147483648) _ (by omega) (by omega) aQw).mono ?_;rintro e w1 ⟨rfl,rfl⟩;go_wp2_with fail;refine(aQf _ _ (mZ _).1 (mZ _).2).mono ?_;rintro e w1 ⟨rfl,rfl⟩;go_wp2;go_ret2;rw[d.out];exact⟨iQ (by first | exact rV _ | exact Aj _ | exact mQ _ | exact lJ _),rfl⟩
   ·have d:=fQ (show jZ 4294967296 (-2147483648) ((3:Nat):Int) a b x y=((a:Int) % b,0)from by unfold jZ;rw[if_neg c,if_neg (by decide),if_neg (by decide),if_neg (by decide)]);clear c i h j;go_in;go_wp2_with fail;refine(jQ (a:Int) x _ (by omega) (by omega) f.out).mono ?_;rintro e w1 ⟨rfl,rfl⟩;go_wp2_with fail;refine(jQ (b:Int) y _ (by omega) (by omega) g.out).mono ?_;rintro e w1 ⟨rfl,rfl⟩;go_wp2_with fail;refine(jQ 2147483648 (-2147483648) _ (by omega) (by omega) aQw).mono ?_;rintro e w1 ⟨rfl,rfl⟩;go_wp2;go_ret2;rw[d.out];exact⟨iQ (by first | rfl | (rw[Aj];exact aXa (by omega))),rfl⟩
 ·have y1:(y == -1)=false:=(by simp[h]);rcases l with rfl | rfl | rfl | rfl
  ·have d:=fQ (show jZ 4294967296 (-2147483648) ((0:Nat):Int) a b x y=((x.tdiv y) % 4294967296,0)from by unfold jZ;rw[if_neg c,if_pos (by rfl),if_neg (by simp[h])]);clear c i h;go_in;go_wp2_with fail;refine(jQ (a:Int) x _ (by omega) (by omega) f.out).mono ?_;rintro e w1 ⟨rfl,rfl⟩;go_wp2_with fail;refine(jQ (b:Int) y _ (by omega) (by omega) g.out).mono ?_;rintro e w1 ⟨rfl,rfl⟩;go_wp2_with fail;refine(aQf _ _ (mZ _).1 (mZ _).2).mono ?_;rintro e w1 ⟨rfl,rfl⟩;go_wp2;go_ret2;rw[d.out];exact⟨iQ (by first | exact rV _ | exact Aj _ | exact mQ _ | exact lJ _),rfl⟩
  ·have d:=fQ (show jZ 4294967296 (-2147483648) ((1:Nat):Int) a b x y=((a:Int) / b,0)from by unfold jZ;rw[if_neg c,if_neg (by decide),if_pos (by rfl)]);clear c i h;go_in;go_wp2_with fail;refine(jQ (a:Int) x _ (by omega) (by omega) f.out).mono ?_;rintro e w1 ⟨rfl,rfl⟩;go_wp2_with fail;refine(jQ (b:Int) y _ (by omega) (by omega) g.out).mono ?_;rintro e w1 ⟨rfl,rfl⟩;go_wp2;go_ret2;rw[d.out];exact⟨iQ (by first | rfl | (rw[Aj];exact aQz (by omega))),rfl⟩
  ·have d:=fQ (show jZ 4294967296 (-2147483648) ((2:Nat):Int) a b x y=((x.tmod y) % 4294967296,0)from by unfold jZ;rw[if_neg c,if_neg (by decide),if_neg (by decide),if_pos (by rfl)]);clear c i h;go_in;go_wp2_with fail;refine(jQ (a:Int) x _ (by omega) (by omega) f.out).mono ?_;rintro e w1 ⟨rfl,rfl⟩;go_wp2_with fail;refine(jQ (b:Int) y _ (by omega) (by omega) g.out).mono ?_;rintro e w1 ⟨rfl,rfl⟩;go_wp2_with fail;refine(aQf _ _ (mZ _).1 (mZ _).2).mono ?_;rintro e w1 ⟨rfl,rfl⟩;go_wp2;go_ret2;rw[d.out];exact⟨iQ (by first | exact rV _ | exact Aj _ | exact mQ _ | exact lJ _),rfl⟩
  ·have d:=fQ (show jZ 4294967296 (-2147483648) ((3:Nat):Int) a b x y=((a:Int) % b,0)from by unfold jZ;rw[if_neg c,if_neg (by decide),if_neg (by decide),if_neg (by decide)]);clear c i h;go_in;go_wp2_with fail;refine(jQ (a:Int) x _ (by omega) (by omega) f.out).mono ?_;rintro e w1 ⟨rfl,rfl⟩;go_wp2_with fail;refine(jQ (b:Int) y _ (by omega) (by omega) g.out).mono ?_;rintro e w1 ⟨rfl,rfl⟩;go_wp2;go_ret2;rw[d.out];exact⟨iQ (by first | rfl | (rw[Aj];exact aXa (by omega))),rfl⟩
section
open Go.Lib
def rot(W a n:Nat):Nat:=a % 2 ^ (W - n)*2 ^ n+a / 2 ^ (W - n)
theorem aYj(hn:n<=W):2 ^ W=2 ^ (W - n)*2 ^ n:=by rw[<-Ai];congr 1;omega
theorem cQr(hn:n<=W)(ha:a<2 ^ W):a / 2 ^ (W - n)<2 ^ n:=by
 rw[Nat.div_lt_iff_lt_mul (Ag _),Ad,<-aYj hn];exact ha
theorem bZy(hn:n<=W)(ha:a<2 ^ W):(a*2 ^ n % 2 ^ W) ||| (a / 2 ^ (W - n))=rot W a n:=by
 have h1:a*2 ^ n % 2 ^ W=a % 2 ^ (W - n)*2 ^ n:=(by rw[aYj hn];exact Nat.mul_mod_mul_right ..);rw[h1,rot,Ad (a % 2 ^ (W - n)),AX (cQr hn ha)]
theorem dKe(hn:n<=W)(ha:a<2 ^ W):(a / 2 ^ n) ||| (a*2 ^ (W - n) % 2 ^ W)=rot W a (W - n):=by
 have:=bZy (W:=W) (a:=a) (n:=W - n) (by omega) ha;rw[show W - (W - n)=n from by omega]at this;rw[Nat.or_comm];exact this
theorem dKf(hn:n<=W)(ha:a<2 ^ W):rot W a n<2 ^ W:=by
 have h1:=cQr hn ha;have h2:a % 2 ^ (W - n)<2 ^ (W - n):=Av _ (Ag _);have b:(a % 2 ^ (W - n)+1)*2 ^ n<=2 ^ (W - n)*2 ^ n:=AW _ h2;rw[AY,Nat.one_mul,<-aYj hn]at b;unfold rot;omega
theorem cQs(ha:a<2 ^ W):rot W a 0=a:=by simp[rot,Ax ha,Ae ha]
end
theorem cQl(hn:n+1<=W)(ha:a<2 ^ W):rot W (rot W a n) 1=rot W a (n+1):=by
 have d:2 ^ (W - n)=2 ^ (W - (n+1))*2:=(by rw[<-Aw];congr 1;omega);have e2:2 ^ (W - 1)=2 ^ (W - (n+1))*2 ^ n:=(by rw[<-Ai];congr 1;omega);have b:=cQr (n:=n) (by omega) ha;have c:0<2 ^ (W - (n+1)):=AQ (by decide);have e:0<2 ^ n:=AQ (by decide);unfold rot;rw[e2,d,show 2 ^ (n+1)=2 ^ n*2 from Aw ..];rw[d]at b;generalize 2 ^ (W - (n+1))=P at c b ⊢;generalize 2 ^ n=Q at e b ⊢;rw[show a % (P*2)=a % P+P*(a / P % 2)from Bj,show a / (P*2)=a / P / 2 from(AV ..).symm];rw[<-AV]at b;have f:a % P<P:=Av _ c;generalize a % P=h at f ⊢;generalize a / P=t at b ⊢;have hb:t % 2<2:=Av _ (by decide)
 have g:h*Q+t / 2<P*Q:=by
  have:(h+1)*Q<=P*Q:=AW _ f;rw[AY]at this;omega
 have i:(h+P*(t % 2))*Q+t / 2=(P*Q)*(t % 2)+(h*Q+t / 2):=by
  rw[AY,Nat.mul_right_comm P (t % 2) Q];omega
 rw[i,Nat.mul_add_mod,Ax g,Nat.mul_add_div (Nat.mul_pos c e),Ae g];rw[Bq,<-Nat.mul_assoc,AY];omega
theorem eZb(c:Nat)(hc:c<2):x*2 ||| c=x*2+c:=by
 have:=AX (i:=1) (b:=c) (by omega) x;rw[Bq]at this;rw[Ad x 2,this]
theorem eKw(hx:x<18446744073709551616):bits .or .u64 (IntKind.u64.wrap ((x:Int)*2)) ((x:Int) / 9223372036854775808)=((rot 64 x 1:Nat):Int):=by
 rw[Aj,show((x:Int)*2) % 18446744073709551616=((x*2 % 2 ^ 64:Nat):Int) by omega,show(x:Int) / 9223372036854775808=((x / 2 ^ (64 - 1):Nat):Int) by omega];rw[bits_or_u64_nat _ _ (by omega) (by omega),<-bZy (W:=64) (by decide) (by omega)]
theorem eKx(hx:x<4294967296):bits .or .u64 ((x:Int)*2) ((x:Int) / 2147483648) % 4294967296=((rot 32 x 1:Nat):Int):=by
 rw[show((x:Int)*2)=((x*2:Nat):Int) by omega,show(x:Int) / 2147483648=((x / 2147483648:Nat):Int) by omega];rw[bits_or_u64_nat _ _ (by omega) (by omega),eZb _ (by omega)];unfold rot;omega
def dYv(W a n:Nat)(b i:Value):Prop:=∃ k:Nat,k<=n/\i = .int .i64 k/\b = .int .u64 ((rot W a k:Nat):Int)
theorem cQm(a n:Nat)(w:Bk)(hn:n<=64)(ha:a<18446744073709551616):Bw fZ 156 #[.int .u64 a,.int .i64 n,.int .i64 64] w fun e w'=>e = .returned (.int .u64 ((rot 64 a n:Nat):Int))/\w=w':=by
 have b:=fQ (show a<2 ^ 64 from ha);go_in;go_wp2_with fail;go_loop [0,7] (fun d i=>dYv 64 a n d i) (fun _ i=>n+1 - (intOf i).toNat)
 case atStart=>exact⟨0,by omega,rfl,by rw[cQs b.out]⟩
 case round=>
  obtain⟨k,hk,rfl,rfl⟩:=hrel;by_cases f:k<n
  ·have g:decide ((k:Int)<(n:Int))=true:=(by simpa using f);have hr:=dKf (W:=64) (n:=k) (by omega) b.out;have c:=fQ (cQl (n:=k) (W:=64) (by omega) b.out);generalize rot 64 a k=x at hr c ⊢;go_wp2_with fail;refine(aQe _ _).mono ?_;rintro e w1 ⟨rfl,rfl⟩;go_wp2;refine⟨⟨k+1,by omega,by simp,?_⟩,by simp[intOf];omega⟩;rw[<-c.out,<-eKw hr]
  ·obtain rfl:k=n:=(by omega);have g:decide ((k:Int)<(k:Int))=false:=(by simp);go_wp2;go_ret;exact⟨rfl,rfl⟩
theorem cQn(a n:Nat)(w:Bk)(hn:n<=32)(ha:a<4294967296):Bw fZ 156 #[.int .u64 a,.int .i64 n,.int .i64 32] w fun e w'=>e = .returned (.int .u64 ((rot 32 a n:Nat):Int))/\w=w':=by
 have b:=fQ (show a<2 ^ 32 from ha);go_in;go_wp2_with fail;go_loop [0,7] (fun d i=>dYv 32 a n d i) (fun _ i=>n+1 - (intOf i).toNat)
 case atStart=>exact⟨0,by omega,rfl,by rw[cQs b.out]⟩
 case round=>
  obtain⟨k,hk,rfl,rfl⟩:=hrel;by_cases f:k<n
  ·have g:decide ((k:Int)<(n:Int))=true:=(by simpa using f);have hr:=dKf (W:=32) (n:=k) (by omega) b.out;have c:=fQ (cQl (n:=k) (W:=32) (by omega) b.out);generalize rot 32 a k=x at hr c ⊢;go_wp2_with fail;refine(aQf _ _ ?_ ?_).mono ?_
   ·exact(aJp _ _ _).1
   ·exact(aJp _ _ _).2
   rintro e w1 ⟨rfl,rfl⟩;go_wp2;refine⟨⟨k+1,by omega,by simp,?_⟩,by simp[intOf];omega⟩;rw[<-c.out,<-eKx hr]
  ·obtain rfl:k=n:=(by omega);have g:decide ((k:Int)<(k:Int))=false:=(by simp);go_wp2;go_ret;exact⟨rfl,rfl⟩
end Go.Proofs.YtabibkpfgmolkaaGreat
namespace Go.Proofs.YtabibkpfgmolkaaGreat
variable {a b W n x k:Nat}
theorem eWi(ha:a<18446744073709551616)(c:b<18446744073709551616):bits .or .u64 (a:Int) (b:Int)=((a ||| b:Nat):Int):=bits_or_u64_nat a b ha c
theorem eYh{b:Nat}(n:Nat)(hn:n<=64)(ha:a<18446744073709551616):bits .or .u64 (IntKind.u64.wrap ((a:Int)*2 ^ n)) ((a:Int) / 2 ^ (64 - n))=((rot 64 a n:Nat):Int):=by
 have c:IntKind.u64.wrap ((a:Int)*2 ^ n)=((a*2 ^ n % 2 ^ 64:Nat):Int):=(by rw[Aj];simp);have e2:(a:Int) / 2 ^ (64 - n)=((a / 2 ^ (64 - n):Nat):Int):=(by simp);rw[c,e2,eWi (Av _ (by decide)) (Az (AJ _ _) ha),bZy hn ha]
theorem eYi{b:Nat}(n:Nat)(hn:n<=64)(ha:a<18446744073709551616):bits .or .u64 ((a:Int) / 2 ^ n) (IntKind.u64.wrap ((a:Int)*2 ^ (64 - n)))=((rot 64 a (64 - n):Nat):Int):=by
 have c:IntKind.u64.wrap ((a:Int)*2 ^ (64 - n))=((a*2 ^ (64 - n) % 2 ^ 64:Nat):Int):=(by rw[Aj];simp);have e2:(a:Int) / 2 ^ n=((a / 2 ^ n:Nat):Int):=(by simp);rw[c,e2,eWi (Az (AJ _ _) ha) (Av _ (by decide)),dKe hn ha]
theorem eKy(ha:a<4294967296)(c:b<4294967296):bits .and .u32 (a:Int) (b:Int)=bits .and .u64 (a:Int) (b:Int):=by
 rw[bits_and_u32_nat a b ha c,bits_and_u64_nat a b (by omega) (by omega)]
theorem cVc(ha:a<4294967296)(hb:b<4294967296):bits .or .u32 (a:Int) (b:Int)=((a ||| b:Nat):Int):=by
 have hx:a ||| b<2 ^ 32:=Nat.or_lt_two_pow (by omega) (by omega)
 have h1:(BitVec.ofInt 32 (a:Int)).toNat=a:=by
  rw[BitVec.ofInt_natCast,BitVec.toNat_ofNat];exact Ax (by omega)
 have h2:(BitVec.ofInt 32 (b:Int)).toNat=b:=by
  rw[BitVec.ofInt_natCast,BitVec.toNat_ofNat];exact Ax (by omega)
 show IntKind.u32.wrap ((BitVec.ofInt 32 (a:Int) ||| BitVec.ofInt 32 (b:Int)).toNat:Int)=_;rw[BitVec.toNat_or,h1,h2,Aq];omega
theorem eKz(ha:a<4294967296)(hb:b<4294967296):bits .xor .u32 (a:Int) (b:Int)=((a ^^^ b:Nat):Int):=by
 have hx:a ^^^ b<2 ^ 32:=Nat.xor_lt_two_pow (by omega) (by omega)
 have h1:(BitVec.ofInt 32 (a:Int)).toNat=a:=by
  rw[BitVec.ofInt_natCast,BitVec.toNat_ofNat];exact Ax (by omega)
 have h2:(BitVec.ofInt 32 (b:Int)).toNat=b:=by
  rw[BitVec.ofInt_natCast,BitVec.toNat_ofNat];exact Ax (by omega)
 show IntKind.u32.wrap ((BitVec.ofInt 32 (a:Int) ^^^ BitVec.ofInt 32 (b:Int)).toNat:Int)=_;rw[BitVec.toNat_xor,h1,h2,Aq];omega
theorem eVa(n:Nat)(hn:n<=32)(ha:a<4294967296):bits .or .u32 (IntKind.u32.wrap ((a:Int)*2 ^ n)) ((a:Int) / 2 ^ (32 - n))=((rot 32 a n:Nat):Int):=by
 have b:IntKind.u32.wrap ((a:Int)*2 ^ n)=((a*2 ^ n % 2 ^ 32:Nat):Int):=(by rw[Aq];simp);have e2:(a:Int) / 2 ^ (32 - n)=((a / 2 ^ (32 - n):Nat):Int):=(by simp);rw[b,e2,cVc (Av _ (by decide)) (Az (AJ _ _) ha),bZy hn ha]
theorem eVb(n:Nat)(hn:n<=32)(ha:a<4294967296):bits .or .u32 ((a:Int) / 2 ^ n) (IntKind.u32.wrap ((a:Int)*2 ^ (32 - n)))=((rot 32 a (32 - n):Nat):Int):=by
 have b:IntKind.u32.wrap ((a:Int)*2 ^ (32 - n))=((a*2 ^ (32 - n) % 2 ^ 32:Nat):Int):=(by rw[Aq];simp);have e2:(a:Int) / 2 ^ n=((a / 2 ^ n:Nat):Int):=(by simp);rw[b,e2,cVc (Az (AJ _ _) ha) (Av _ (by decide)),dKe hn ha]
theorem dJx(k:IntKind)(W a b n:Nat)(x:Int):(pJ k W a b n x).getD 11 0=k.wrap (x / 2 ^ n):=by simp[pJ]
def iZ(W d:Int)(k:Int)(a b:Nat)(w:Bk)(e:Ending)(w':Bk):Prop:=e = .returned (.tuple #[.int .u64 (hY 3 d k a b).1,.int .i64 (hY 3 d k a b).2])/\w=w'
theorem eVc{a b:Nat}(ha:a<18446744073709551616)(hb:b<18446744073709551616):hY 3 126 0 a b=(IntKind.u64.wrap (a+b),0):=by
 have e:hY 3 126 0 a b=((pJ .u64 64 a b (b % 64) (wrap64 a)).getD 0 0,0):=(by simp[hY]);rw[e];rfl
theorem eVd(w:Bk)(ha:a<18446744073709551616)(d:b<18446744073709551616):Bw fZ 143 #[.int .i64 0,.int .u64 a,.int .u64 b,.int .i64 64] w (iZ 64 126 0 a b w):=by
 have c:=fQ (@eVc a b ha d);unfold iZ;rw[c.out];obtain⟨n,hn⟩:=fX (b % 64);have aa:n<64:=(by omega);have ab:(b:Int) % 64=(n:Int):=(by omega);have HN:=fQ hn;clear hn c;go_in;go_wp2_with fail;refine(aQe _ _).mono ?_;rintro e w1 ⟨rfl,rfl⟩;go_wp2;go_ret2;exact⟨iQ (by first | rfl | exact lJ _ | exact mQ _ | exact(Aj _)),rfl⟩
theorem eVe{a b:Nat}(ha:a<18446744073709551616)(hb:b<18446744073709551616):hY 3 126 1 a b=(IntKind.u64.wrap (a - b),0):=by
 have e:hY 3 126 1 a b=((pJ .u64 64 a b (b % 64) (wrap64 a)).getD 1 0,0):=(by simp[hY]);rw[e];rfl
theorem eVf(w:Bk)(ha:a<18446744073709551616)(d:b<18446744073709551616):Bw fZ 143 #[.int .i64 1,.int .u64 a,.int .u64 b,.int .i64 64] w (iZ 64 126 1 a b w):=by
 have c:=fQ (@eVe a b ha d);unfold iZ;rw[c.out];obtain⟨n,hn⟩:=fX (b % 64);have aa:n<64:=(by omega);have ab:(b:Int) % 64=(n:Int):=(by omega);have HN:=fQ hn;clear hn c;go_in;go_wp2_with fail;refine(aQe _ _).mono ?_;rintro e w1 ⟨rfl,rfl⟩;go_wp2;go_ret2;exact⟨iQ (by first | rfl | exact lJ _ | exact mQ _ | exact(Aj _)),rfl⟩
theorem eVg{a b:Nat}(ha:a<18446744073709551616)(hb:b<18446744073709551616):hY 3 126 2 a b=(IntKind.u64.wrap (a*b),0):=by
 have e:hY 3 126 2 a b=((pJ .u64 64 a b (b % 64) (wrap64 a)).getD 2 0,0):=(by simp[hY]);rw[e];rfl
theorem eVh(w:Bk)(ha:a<18446744073709551616)(d:b<18446744073709551616):Bw fZ 143 #[.int .i64 2,.int .u64 a,.int .u64 b,.int .i64 64] w (iZ 64 126 2 a b w):=by
 have c:=fQ (@eVg a b ha d);unfold iZ;rw[c.out];obtain⟨n,hn⟩:=fX (b % 64);have aa:n<64:=(by omega);have ab:(b:Int) % 64=(n:Int):=(by omega);have HN:=fQ hn;clear hn c;go_in;go_wp2_with fail;refine(aQe _ _).mono ?_;rintro e w1 ⟨rfl,rfl⟩;go_wp2;go_ret2;exact⟨iQ (by first | rfl | exact lJ _ | exact mQ _ | exact(Aj _)),rfl⟩
theorem eVi(w:Bk)(ha:a<18446744073709551616)(d:b<18446744073709551616):Bw fZ 143 #[.int .i64 3,.int .u64 a,.int .u64 b,.int .i64 64] w (iZ 64 126 3 a b w):=by
 have c:=fQ (show hY 3 126 3 a b=jZ 18446744073709551616 (-9223372036854775808) ((0:Nat):Int) a b (wrap64 a) (wrap64 b) by simp[hY]);unfold iZ;rw[c.out];obtain⟨n,hn⟩:=fX (b % 64);have aa:n<64:=(by omega);have ab:(b:Int) % 64=(n:Int):=(by omega);have HN:=fQ hn;clear hn c;go_in;go_wp2_with fail;refine(bZq 0 a b _ (by omega) ha d).mono ?_;rintro e w1 ⟨rfl,rfl⟩;go_wp2;go_ret2;exact⟨rfl,rfl⟩
theorem eVj(w:Bk)(ha:a<18446744073709551616)(d:b<18446744073709551616):Bw fZ 143 #[.int .i64 4,.int .u64 a,.int .u64 b,.int .i64 64] w (iZ 64 126 4 a b w):=by
 have c:=fQ (show hY 3 126 4 a b=jZ 18446744073709551616 (-9223372036854775808) ((1:Nat):Int) a b (wrap64 a) (wrap64 b) by simp[hY]);unfold iZ;rw[c.out];obtain⟨n,hn⟩:=fX (b % 64);have aa:n<64:=(by omega);have ab:(b:Int) % 64=(n:Int):=(by omega);have HN:=fQ hn;clear hn c;go_in;go_wp2_with fail;refine(bZq 1 a b _ (by omega) ha d).mono ?_;rintro e w1 ⟨rfl,rfl⟩;go_wp2;go_ret2;exact⟨rfl,rfl⟩
theorem eVk(w:Bk)(ha:a<18446744073709551616)(d:b<18446744073709551616):Bw fZ 143 #[.int .i64 5,.int .u64 a,.int .u64 b,.int .i64 64] w (iZ 64 126 5 a b w):=by
 have c:=fQ (show hY 3 126 5 a b=jZ 18446744073709551616 (-9223372036854775808) ((2:Nat):Int) a b (wrap64 a) (wrap64 b) by simp[hY]);unfold iZ;rw[c.out];obtain⟨n,hn⟩:=fX (b % 64);have aa:n<64:=(by omega);have ab:(b:Int) % 64=(n:Int):=(by omega);have HN:=fQ hn;clear hn c;go_in;go_wp2_with fail;refine(bZq 2 a b _ (by omega) ha d).mono ?_;rintro e w1 ⟨rfl,rfl⟩;go_wp2;go_ret2;exact⟨rfl,rfl⟩
theorem eVl(w:Bk)(ha:a<18446744073709551616)(d:b<18446744073709551616):Bw fZ 143 #[.int .i64 6,.int .u64 a,.int .u64 b,.int .i64 64] w (iZ 64 126 6 a b w):=by
 have c:=fQ (show hY 3 126 6 a b=jZ 18446744073709551616 (-9223372036854775808) ((3:Nat):Int) a b (wrap64 a) (wrap64 b) by simp[hY]);unfold iZ;rw[c.out];obtain⟨n,hn⟩:=fX (b % 64);have aa:n<64:=(by omega);have ab:(b:Int) % 64=(n:Int):=(by omega);have HN:=fQ hn;clear hn c;go_in;go_wp2_with fail;refine(bZq 3 a b _ (by omega) ha d).mono ?_;rintro e w1 ⟨rfl,rfl⟩;go_wp2;go_ret2;exact⟨rfl,rfl⟩
theorem eVm{a b:Nat}(ha:a<18446744073709551616)(hb:b<18446744073709551616):hY 3 126 7 a b=(bits .and .u64 a b,0):=by
 have e:hY 3 126 7 a b=((pJ .u64 64 a b (b % 64) (wrap64 a)).getD 7 0,0):=(by simp[hY]);rw[e];rfl
theorem eVn(w:Bk)(ha:a<18446744073709551616)(d:b<18446744073709551616):Bw fZ 143 #[.int .i64 7,.int .u64 a,.int .u64 b,.int .i64 64] w (iZ 64 126 7 a b w):=by
 have c:=fQ (@eVm a b ha d);unfold iZ;rw[c.out];obtain⟨n,hn⟩:=fX (b % 64);have aa:n<64:=(by omega);have ab:(b:Int) % 64=(n:Int):=(by omega);have HN:=fQ hn;clear hn c;go_in;go_wp2;go_ret2;exact⟨iQ (by first | rfl | exact lJ _ | exact mQ _ | exact(Aj _)),rfl⟩
theorem eVo{a b:Nat}(ha:a<18446744073709551616)(hb:b<18446744073709551616):hY 3 126 8 a b=(bits .or .u64 a b,0):=by
 have e:hY 3 126 8 a b=((pJ .u64 64 a b (b % 64) (wrap64 a)).getD 8 0,0):=(by simp[hY]);rw[e];rfl
theorem eVp(w:Bk)(ha:a<18446744073709551616)(d:b<18446744073709551616):Bw fZ 143 #[.int .i64 8,.int .u64 a,.int .u64 b,.int .i64 64] w (iZ 64 126 8 a b w):=by
 have c:=fQ (@eVo a b ha d);unfold iZ;rw[c.out];obtain⟨n,hn⟩:=fX (b % 64);have aa:n<64:=(by omega);have ab:(b:Int) % 64=(n:Int):=(by omega);have HN:=fQ hn;clear hn c;go_in;go_wp2;go_ret2;exact⟨iQ (by first | rfl | exact lJ _ | exact mQ _ | exact(Aj _)),rfl⟩
theorem eVq{a b:Nat}(ha:a<18446744073709551616)(hb:b<18446744073709551616):hY 3 126 9 a b=(bits .xor .u64 a b,0):=by
 have e:hY 3 126 9 a b=((pJ .u64 64 a b (b % 64) (wrap64 a)).getD 9 0,0):=(by simp[hY]);rw[e];rfl
theorem eVr(w:Bk)(ha:a<18446744073709551616)(d:b<18446744073709551616):Bw fZ 143 #[.int .i64 9,.int .u64 a,.int .u64 b,.int .i64 64] w (iZ 64 126 9 a b w):=by
 have c:=fQ (@eVq a b ha d);unfold iZ;rw[c.out];obtain⟨n,hn⟩:=fX (b % 64);have aa:n<64:=(by omega);have ab:(b:Int) % 64=(n:Int):=(by omega);have HN:=fQ hn;clear hn c;go_in;go_wp2;go_ret2;exact⟨iQ (by first | rfl | exact lJ _ | exact mQ _ | exact(Aj _)),rfl⟩
theorem eZc{a b:Nat}(ha:a<18446744073709551616)(hb:b<18446744073709551616):hY 3 126 10 a b=(IntKind.u64.wrap (a*2 ^ (b % 64)),0):=by
 have e:hY 3 126 10 a b=((pJ .u64 64 a b (b % 64) (wrap64 a)).getD 10 0,0):=(by simp[hY]);rw[e];rfl
theorem eZd(w:Bk)(ha:a<18446744073709551616)(d:b<18446744073709551616):Bw fZ 143 #[.int .i64 10,.int .u64 a,.int .u64 b,.int .i64 64] w (iZ 64 126 10 a b w):=by
 have c:=fQ (@eZc a b ha d);unfold iZ;rw[c.out];obtain⟨n,hn⟩:=fX (b % 64);have aa:n<64:=(by omega);have ab:(b:Int) % 64=(n:Int):=(by omega);have HN:=fQ hn;rw[hn];clear hn c;go_in;go_wp2_with fail;refine(aQe _ _).mono ?_;rintro e w1 ⟨rfl,rfl⟩;go_wp2;go_ret2;exact⟨iQ (by first | rfl | exact lJ _ | exact mQ _ | exact(Aj _)),rfl⟩
theorem eZe{a b:Nat}(ha:a<18446744073709551616)(hb:b<18446744073709551616):hY 3 126 11 a b=(IntKind.u64.wrap (wrap64 a / 2 ^ (b % 64)),0):=by
 have e:hY 3 126 11 a b=((pJ .u64 64 a b (b % 64) (wrap64 a)).getD 11 0,0):=by
  simp only[hY];rw[if_pos trivial,if_neg (by decide),if_neg (by decide)];rfl
 rw[e,dJx]
theorem eZf(w:Bk)(ha:a<18446744073709551616)(d:b<18446744073709551616):Bw fZ 143 #[.int .i64 11,.int .u64 a,.int .u64 b,.int .i64 64] w (iZ 64 126 11 a b w):=by
 have c:=fQ (@eZe a b ha d);unfold iZ;rw[c.out];obtain⟨n,hn⟩:=fX (b % 64);have aa:n<64:=(by omega);have ab:(b:Int) % 64=(n:Int):=(by omega);have HN:=fQ hn;rw[hn];clear hn c;go_in;go_wp2_with fail;refine(aWb (a:Int) _ (by omega) (by omega)).mono ?_;rintro e w1 ⟨rfl,rfl⟩;go_wp2_with fail;refine(aQe _ _).mono ?_;rintro e w1 ⟨rfl,rfl⟩;go_wp2;go_ret2;exact⟨iQ (by first | rfl | exact lJ _ | exact mQ _ | exact(Aj _)),rfl⟩
theorem eZg{a b:Nat}(ha:a<18446744073709551616)(hb:b<18446744073709551616):hY 3 126 12 a b=((a:Int) / 2 ^ (b % 64),0):=by
 have e:hY 3 126 12 a b=((pJ .u64 64 a b (b % 64) (wrap64 a)).getD 12 0,0):=(by simp[hY]);rw[e];rfl
theorem eZh(w:Bk)(ha:a<18446744073709551616)(d:b<18446744073709551616):Bw fZ 143 #[.int .i64 12,.int .u64 a,.int .u64 b,.int .i64 64] w (iZ 64 126 12 a b w):=by
 have c:=fQ (@eZg a b ha d);unfold iZ;rw[c.out];obtain⟨n,hn⟩:=fX (b % 64);have aa:n<64:=(by omega);have ab:(b:Int) % 64=(n:Int):=(by omega);have HN:=fQ hn;rw[hn];clear hn c;go_in;go_wp2;go_ret2;exact⟨iQ (by first | rfl | exact lJ _ | exact mQ _ | exact(Aj _)),rfl⟩
theorem eZi{a b:Nat}(ha:a<18446744073709551616)(hb:b<18446744073709551616):hY 3 126 13 a b=(((rot 64 a (b % 64):Nat):Int),0):=by
 have e:hY 3 126 13 a b=((pJ .u64 64 a b (b % 64) (wrap64 a)).getD 13 0,0):=(by simp[hY]);rw[e]
 exact congrArg (·,0) (eYh (b:=b) (b % 64) (by omega) ha)
theorem eZj(w:Bk)(ha:a<18446744073709551616)(d:b<18446744073709551616):Bw fZ 143 #[.int .i64 13,.int .u64 a,.int .u64 b,.int .i64 64] w (iZ 64 126 13 a b w):=by
 have c:=fQ (@eZi a b ha d);unfold iZ;rw[c.out];obtain⟨n,hn⟩:=fX (b % 64);have aa:n<64:=(by omega);have ab:(b:Int) % 64=(n:Int):=(by omega);have HN:=fQ hn;rw[hn];clear hn c;go_in;go_wp2_with fail;refine(cQm a n _ (by omega) ha).mono ?_;rintro e w1 ⟨rfl,rfl⟩;go_wp2;go_ret2;exact⟨iQ (by first | rfl | exact lJ _ | exact mQ _ | exact(Aj _)),rfl⟩
theorem eZk{a b:Nat}(ha:a<18446744073709551616)(hb:b<18446744073709551616):hY 3 126 14 a b=(((rot 64 a (64 - b % 64):Nat):Int),0):=by
 have e:hY 3 126 14 a b=((pJ .u64 64 a b (b % 64) (wrap64 a)).getD 14 0,0):=(by simp[hY]);rw[e]
 exact congrArg (·,0) (eYi (b:=b) (b % 64) (by omega) ha)
theorem eZl(w:Bk)(ha:a<18446744073709551616)(d:b<18446744073709551616):Bw fZ 143 #[.int .i64 14,.int .u64 a,.int .u64 b,.int .i64 64] w (iZ 64 126 14 a b w):=by
 have c:=fQ (@eZk a b ha d);unfold iZ;rw[c.out];obtain⟨n,hn⟩:=fX (b % 64);have aa:n<64:=(by omega);have ab:(b:Int) % 64=(n:Int):=(by omega);have HN:=fQ hn;rw[hn];clear hn c;go_in;have hs:(64:Int) - (n:Int)=((64 - n:Nat):Int):=(by omega);go_wp2_with fail;refine(cQm a (64 - n) _ (by omega) ha).mono ?_;rintro e w1 ⟨rfl,rfl⟩;go_wp2;go_ret2;exact⟨iQ (by first | rfl | exact lJ _ | exact mQ _ | exact(Aj _)),rfl⟩
theorem eZm(k a b:Nat)(w:Bk)(hk:k<15)(ha:a<18446744073709551616)(c:b<18446744073709551616):Bw fZ 143 #[.int .i64 k,.int .u64 a,.int .u64 b,.int .i64 64] w (iZ 64 126 k a b w):=by
 have hc:k=0\/k=1\/k=2\/k=3\/k=4\/k=5\/k=6\/k=7\/k=8\/k=9\/k=10\/k=11\/k=12\/k=13\/k=14:=(by omega);rcases hc with rfl | rfl | rfl | rfl | rfl | rfl | rfl | rfl | rfl | rfl | rfl | rfl | rfl | rfl | rfl
 ·exact eVd w ha c
 ·exact eVf w ha c
 ·exact eVh w ha c
 ·exact eVi w ha c
 ·exact eVj w ha c
 ·exact eVk w ha c
 ·exact eVl w ha c
 ·exact eVn w ha c
 ·exact eVp w ha c
 ·exact eVr w ha c
 ·exact eZd w ha c
 ·exact eZf w ha c
 ·exact eZh w ha c
 ·exact eZj w ha c
 ·exact eZl w ha c
theorem eVs{a b:Nat}(ha:a<4294967296)(hb:b<4294967296):hY 3 127 0 a b=(((a:Int)+b) % 4294967296,0):=by
 have e:hY 3 127 0 a b=((pJ .u32 32 a b (b % 32) (wrap32 a)).getD 0 0,0):=(by simp[hY]);rw[e]
 exact congrArg (·,0) (Aq _)
theorem eVt(w:Bk)(ha:a<4294967296)(d:b<4294967296):Bw fZ 143 #[.int .i64 0,.int .u64 a,.int .u64 b,.int .i64 32] w (iZ 32 127 0 a b w):=by
 have c:=fQ (@eVs a b ha d);unfold iZ;rw[c.out];obtain⟨n,hn⟩:=fX (b % 32);have aa:n<32:=(by omega);have ab:(b:Int) % 32=(n:Int):=(by omega);have HN:=fQ hn;clear hn c;go_in;go_wp2_with fail;refine(aQf _ _ (by first | omega | exact(mZ _).1) (by first | omega | exact(mZ _).2)).mono ?_;rintro e w1 ⟨rfl,rfl⟩;go_wp2;go_ret2;exact⟨iQ (by first | rfl | exact lJ _ | exact mQ _ | exact(Aj _)),rfl⟩
theorem eVu{a b:Nat}(ha:a<4294967296)(hb:b<4294967296):hY 3 127 1 a b=(((a:Int) - b) % 4294967296,0):=by
 have e:hY 3 127 1 a b=((pJ .u32 32 a b (b % 32) (wrap32 a)).getD 1 0,0):=(by simp[hY]);rw[e]
 exact congrArg (·,0) (Aq _)
theorem eVv(w:Bk)(ha:a<4294967296)(d:b<4294967296):Bw fZ 143 #[.int .i64 1,.int .u64 a,.int .u64 b,.int .i64 32] w (iZ 32 127 1 a b w):=by
 have c:=fQ (@eVu a b ha d);unfold iZ;rw[c.out];obtain⟨n,hn⟩:=fX (b % 32);have aa:n<32:=(by omega);have ab:(b:Int) % 32=(n:Int):=(by omega);have HN:=fQ hn;clear hn c;go_in;go_wp2_with fail;refine(aQf _ _ (by first | omega | exact(mZ _).1) (by first | omega | exact(mZ _).2)).mono ?_;rintro e w1 ⟨rfl,rfl⟩;go_wp2;go_ret2;exact⟨iQ (by first | rfl | exact lJ _ | exact mQ _ | exact(Aj _)),rfl⟩
theorem eVw{a b:Nat}(ha:a<4294967296)(hb:b<4294967296):hY 3 127 2 a b=(((a:Int)*b) % 4294967296,0):=by
 have e:hY 3 127 2 a b=((pJ .u32 32 a b (b % 32) (wrap32 a)).getD 2 0,0):=(by simp[hY]);rw[e]
 exact congrArg (·,0) (Aq _)
theorem eVx(w:Bk)(ha:a<4294967296)(d:b<4294967296):Bw fZ 143 #[.int .i64 2,.int .u64 a,.int .u64 b,.int .i64 32] w (iZ 32 127 2 a b w):=by
 have c:=fQ (@eVw a b ha d);unfold iZ;rw[c.out];obtain⟨n,hn⟩:=fX (b % 32);have aa:n<32:=(by omega);have ab:(b:Int) % 32=(n:Int):=(by omega);have HN:=fQ hn;clear hn c;go_in;go_wp2_with fail;refine(aQf _ _ (by first | omega | exact(mZ _).1) (by first | omega | exact(mZ _).2)).mono ?_;rintro e w1 ⟨rfl,rfl⟩;go_wp2;go_ret2;exact⟨iQ (by first | rfl | exact lJ _ | exact mQ _ | exact(Aj _)),rfl⟩
theorem eVy(w:Bk)(ha:a<4294967296)(d:b<4294967296):Bw fZ 143 #[.int .i64 3,.int .u64 a,.int .u64 b,.int .i64 32] w (iZ 32 127 3 a b w):=by
 have c:=fQ (show hY 3 127 3 a b=jZ 4294967296 (-2147483648) ((0:Nat):Int) a b (wrap32 a) (wrap32 b) by simp[hY]);unfold iZ;rw[c.out];obtain⟨n,hn⟩:=fX (b % 32);have aa:n<32:=(by omega);have ab:(b:Int) % 32=(n:Int):=(by omega);have HN:=fQ hn;clear hn c;go_in;go_wp2_with fail;refine(bZr 0 a b _ (by omega) ha d).mono ?_;rintro e w1 ⟨rfl,rfl⟩;go_wp2;go_ret2;exact⟨rfl,rfl⟩
theorem eVz(w:Bk)(ha:a<4294967296)(d:b<4294967296):Bw fZ 143 #[.int .i64 4,.int .u64 a,.int .u64 b,.int .i64 32] w (iZ 32 127 4 a b w):=by
 have c:=fQ (show hY 3 127 4 a b=jZ 4294967296 (-2147483648) ((1:Nat):Int) a b (wrap32 a) (wrap32 b) by simp[hY]);unfold iZ;rw[c.out];obtain⟨n,hn⟩:=fX (b % 32);have aa:n<32:=(by omega);have ab:(b:Int) % 32=(n:Int):=(by omega);have HN:=fQ hn;clear hn c;go_in;go_wp2_with fail;refine(bZr 1 a b _ (by omega) ha d).mono ?_;rintro e w1 ⟨rfl,rfl⟩;go_wp2;go_ret2;exact⟨rfl,rfl⟩
theorem eWa(w:Bk)(ha:a<4294967296)(d:b<4294967296):Bw fZ 143 #[.int .i64 5,.int .u64 a,.int .u64 b,.int .i64 32] w (iZ 32 127 5 a b w):=by
 have c:=fQ (show hY 3 127 5 a b=jZ 4294967296 (-2147483648) ((2:Nat):Int) a b (wrap32 a) (wrap32 b) by simp[hY]);unfold iZ;rw[c.out];obtain⟨n,hn⟩:=fX (b % 32);have aa:n<32:=(by omega);have ab:(b:Int) % 32=(n:Int):=(by omega);have HN:=fQ hn;clear hn c;go_in;go_wp2_with fail;refine(bZr 2 a b _ (by omega) ha d).mono ?_;rintro e w1 ⟨rfl,rfl⟩;go_wp2;go_ret2;exact⟨rfl,rfl⟩
theorem eWb(w:Bk)(ha:a<4294967296)(d:b<4294967296):Bw fZ 143 #[.int .i64 6,.int .u64 a,.int .u64 b,.int .i64 32] w (iZ 32 127 6 a b w):=by
 have c:=fQ (show hY 3 127 6 a b=jZ 4294967296 (-2147483648) ((3:Nat):Int) a b (wrap32 a) (wrap32 b) by simp[hY]);unfold iZ;rw[c.out];obtain⟨n,hn⟩:=fX (b % 32);have aa:n<32:=(by omega);have ab:(b:Int) % 32=(n:Int):=(by omega);have HN:=fQ hn;clear hn c;go_in;go_wp2_with fail;refine(bZr 3 a b _ (by omega) ha d).mono ?_;rintro e w1 ⟨rfl,rfl⟩;go_wp2;go_ret2;exact⟨rfl,rfl⟩
theorem eWc{a b:Nat}(ha:a<4294967296)(c:b<4294967296):hY 3 127 7 a b=(bits .and .u64 a b,0):=by
 have e:hY 3 127 7 a b=((pJ .u32 32 a b (b % 32) (wrap32 a)).getD 7 0,0):=(by simp[hY]);rw[e]
 exact congrArg (·,0) (eKy ha c)
theorem eWd(w:Bk)(ha:a<4294967296)(d:b<4294967296):Bw fZ 143 #[.int .i64 7,.int .u64 a,.int .u64 b,.int .i64 32] w (iZ 32 127 7 a b w):=by
 have c:=fQ (@eWc a b ha d);unfold iZ;rw[c.out];obtain⟨n,hn⟩:=fX (b % 32);have aa:n<32:=(by omega);have ab:(b:Int) % 32=(n:Int):=(by omega);have HN:=fQ hn;clear hn c;go_in;go_wp2;go_ret2;exact⟨iQ (by first | rfl | exact lJ _ | exact mQ _ | exact(Aj _)),rfl⟩
theorem eWe{a b:Nat}(ha:a<4294967296)(c:b<4294967296):hY 3 127 8 a b=(bits .or .u64 a b,0):=by
 have e:hY 3 127 8 a b=((pJ .u32 32 a b (b % 32) (wrap32 a)).getD 8 0,0):=(by simp[hY]);rw[e]
 exact congrArg (·,0) ((cVc ha c).trans (bits_or_u64_nat a b (by omega) (by omega)).symm)
theorem eWf(w:Bk)(ha:a<4294967296)(d:b<4294967296):Bw fZ 143 #[.int .i64 8,.int .u64 a,.int .u64 b,.int .i64 32] w (iZ 32 127 8 a b w):=by
 have c:=fQ (@eWe a b ha d);unfold iZ;rw[c.out];obtain⟨n,hn⟩:=fX (b % 32);have aa:n<32:=(by omega);have ab:(b:Int) % 32=(n:Int):=(by omega);have HN:=fQ hn;clear hn c;go_in;go_wp2;go_ret2;exact⟨iQ (by first | rfl | exact lJ _ | exact mQ _ | exact(Aj _)),rfl⟩
theorem eWg{a b:Nat}(ha:a<4294967296)(c:b<4294967296):hY 3 127 9 a b=(bits .xor .u64 a b,0):=by
 have e:hY 3 127 9 a b=((pJ .u32 32 a b (b % 32) (wrap32 a)).getD 9 0,0):=(by simp[hY]);rw[e]
 exact congrArg (·,0) ((eKz ha c).trans (bits_xor_u64_nat a b (by omega) (by omega)).symm)
theorem eWh(w:Bk)(ha:a<4294967296)(d:b<4294967296):Bw fZ 143 #[.int .i64 9,.int .u64 a,.int .u64 b,.int .i64 32] w (iZ 32 127 9 a b w):=by
 have c:=fQ (@eWg a b ha d);unfold iZ;rw[c.out];obtain⟨n,hn⟩:=fX (b % 32);have aa:n<32:=(by omega);have ab:(b:Int) % 32=(n:Int):=(by omega);have HN:=fQ hn;clear hn c;go_in;go_wp2;go_ret2;exact⟨iQ (by first | rfl | exact lJ _ | exact mQ _ | exact(Aj _)),rfl⟩
theorem eZn{a b:Nat}(ha:a<4294967296)(hb:b<4294967296):hY 3 127 10 a b=(((a:Int)*2 ^ (b % 32)) % 4294967296,0):=by
 have e:hY 3 127 10 a b=((pJ .u32 32 a b (b % 32) (wrap32 a)).getD 10 0,0):=(by simp[hY]);rw[e]
 exact congrArg (·,0) (Aq _)
theorem eZo(w:Bk)(ha:a<4294967296)(d:b<4294967296):Bw fZ 143 #[.int .i64 10,.int .u64 a,.int .u64 b,.int .i64 32] w (iZ 32 127 10 a b w):=by
 have c:=fQ (@eZn a b ha d);unfold iZ;rw[c.out];obtain⟨n,hn⟩:=fX (b % 32);have aa:n<32:=(by omega);have ab:(b:Int) % 32=(n:Int):=(by omega);have HN:=fQ hn;rw[hn];clear hn c;go_in;go_wp2_with fail;refine(aQf _ _ (by first | omega | exact(mZ _).1) (by first | omega | exact(mZ _).2)).mono ?_;rintro e w1 ⟨rfl,rfl⟩;go_wp2;go_ret2;exact⟨iQ (by first | rfl | exact lJ _ | exact mQ _ | exact(Aj _)),rfl⟩
theorem eZp{a b:Nat}(ha:a<4294967296)(hb:b<4294967296):hY 3 127 11 a b=((wrap32 a / 2 ^ (b % 32)) % 4294967296,0):=by
 have e:hY 3 127 11 a b=((pJ .u32 32 a b (b % 32) (wrap32 a)).getD 11 0,0):=by
  simp only[hY];rw[if_neg (by decide),if_neg (by decide),if_neg (by decide)];rfl
 rw[e,dJx];rw[Aq]
theorem eZq(w:Bk)(ha:a<4294967296)(d:b<4294967296):Bw fZ 143 #[.int .i64 11,.int .u64 a,.int .u64 b,.int .i64 32] w (iZ 32 127 11 a b w):=by
 have c:=fQ (@eZp a b ha d);unfold iZ;rw[c.out];obtain⟨n,hn⟩:=fX (b % 32);have aa:n<32:=(by omega);have ab:(b:Int) % 32=(n:Int):=(by omega);have HN:=fQ hn;rw[hn];clear hn c;go_in;go_wp2_with fail;refine(aXu (a:Int) _ (by omega) (by omega)).mono ?_;rintro e w1 ⟨rfl,rfl⟩;go_wp2_with fail;refine(aQf _ _ (by first | omega | exact(mZ _).1) (by first | omega | exact(mZ _).2)).mono ?_;rintro e w1 ⟨rfl,rfl⟩;go_wp2;go_ret2;exact⟨iQ (by first | rfl | exact lJ _ | exact mQ _ | exact(Aj _)),rfl⟩
theorem eZr{a b:Nat}(ha:a<4294967296)(hb:b<4294967296):hY 3 127 12 a b=((a:Int) / 2 ^ (b % 32),0):=by
 have e:hY 3 127 12 a b=((pJ .u32 32 a b (b % 32) (wrap32 a)).getD 12 0,0):=(by simp[hY]);rw[e];rfl
theorem eZs(w:Bk)(ha:a<4294967296)(d:b<4294967296):Bw fZ 143 #[.int .i64 12,.int .u64 a,.int .u64 b,.int .i64 32] w (iZ 32 127 12 a b w):=by
 have c:=fQ (@eZr a b ha d);unfold iZ;rw[c.out];obtain⟨n,hn⟩:=fX (b % 32);have aa:n<32:=(by omega);have ab:(b:Int) % 32=(n:Int):=(by omega);have HN:=fQ hn;rw[hn];clear hn c;go_in;go_wp2;go_ret2;exact⟨iQ (by first | rfl | exact lJ _ | exact mQ _ | exact(Aj _)),rfl⟩
theorem eZt{a b:Nat}(ha:a<4294967296)(hb:b<4294967296):hY 3 127 13 a b=(((rot 32 a (b % 32):Nat):Int),0):=by
 have e:hY 3 127 13 a b=((pJ .u32 32 a b (b % 32) (wrap32 a)).getD 13 0,0):=(by simp[hY]);rw[e]
 exact congrArg (·,0) (eVa (b % 32) (by omega) ha)
theorem eZu(w:Bk)(ha:a<4294967296)(d:b<4294967296):Bw fZ 143 #[.int .i64 13,.int .u64 a,.int .u64 b,.int .i64 32] w (iZ 32 127 13 a b w):=by
 have c:=fQ (@eZt a b ha d);unfold iZ;rw[c.out];obtain⟨n,hn⟩:=fX (b % 32);have aa:n<32:=(by omega);have ab:(b:Int) % 32=(n:Int):=(by omega);have HN:=fQ hn;rw[hn];clear hn c;go_in;go_wp2_with fail;refine(cQn a n _ (by omega) ha).mono ?_;rintro e w1 ⟨rfl,rfl⟩;go_wp2;go_ret2;exact⟨iQ (by first | rfl | exact lJ _ | exact mQ _ | exact(Aj _)),rfl⟩
theorem eZv{a b:Nat}(ha:a<4294967296)(hb:b<4294967296):hY 3 127 14 a b=(((rot 32 a (32 - b % 32):Nat):Int),0):=by
 have e:hY 3 127 14 a b=((pJ .u32 32 a b (b % 32) (wrap32 a)).getD 14 0,0):=(by simp[hY]);rw[e]
 exact congrArg (·,0) (eVb (b % 32) (by omega) ha)
theorem eZw(w:Bk)(ha:a<4294967296)(d:b<4294967296):Bw fZ 143 #[.int .i64 14,.int .u64 a,.int .u64 b,.int .i64 32] w (iZ 32 127 14 a b w):=by
 have c:=fQ (@eZv a b ha d);unfold iZ;rw[c.out];obtain⟨n,hn⟩:=fX (b % 32);have aa:n<32:=(by omega);have ab:(b:Int) % 32=(n:Int):=(by omega);have HN:=fQ hn;rw[hn];clear hn c;go_in;have hs:(32:Int) - (n:Int)=((32 - n:Nat):Int):=(by omega);go_wp2_with fail;refine(cQn a (32 - n) _ (by omega) ha).mono ?_;rintro e w1 ⟨rfl,rfl⟩;go_wp2;go_ret2;exact⟨iQ (by first | rfl | exact lJ _ | exact mQ _ | exact(Aj _)),rfl⟩
theorem eZx(k a b:Nat)(w:Bk)(hk:k<15)(ha:a<4294967296)(c:b<4294967296):Bw fZ 143 #[.int .i64 k,.int .u64 a,.int .u64 b,.int .i64 32] w (iZ 32 127 k a b w):=by
 have hc:k=0\/k=1\/k=2\/k=3\/k=4\/k=5\/k=6\/k=7\/k=8\/k=9\/k=10\/k=11\/k=12\/k=13\/k=14:=(by omega);rcases hc with rfl | rfl | rfl | rfl | rfl | rfl | rfl | rfl | rfl | rfl | rfl | rfl | rfl | rfl | rfl
 ·exact eVt w ha c
 ·exact eVv w ha c
 ·exact eVx w ha c
 ·exact eVy w ha c
 ·exact eVz w ha c
 ·exact eWa w ha c
 ·exact eWb w ha c
 ·exact eWd w ha c
 ·exact eWf w ha c
 ·exact eWh w ha c
 ·exact eZo w ha c
 ·exact eZq w ha c
 ·exact eZs w ha c
 ·exact eZu w ha c
 ·exact eZw w ha c
section
open Go.Lib
theorem aKw:∀ f,bitLenAux f 0=0
 | 0=>rfl
 | f+1=>by simp[bitLenAux]
theorem aWd:∀ (k f y:Nat),k<f->2 ^ k<=y->y<2 ^ (k+1)->bitLenAux f y=k+1
 | 0,f+1,y,_,h1,h2=>by
  obtain rfl:y=1:=(by simp at h1 h2;omega);simp[bitLenAux,aKw]
 | k+1,f+1,y,hf,h1,h2=>by
  have hp:2 ^ (k+1)=2 ^ k*2:=Aw ..;have hq:2 ^ (k+1+1)=2 ^ (k+1)*2:=Aw ..;have h0:0<2 ^ (k+1):=AQ (by decide);rw[bitLenAux,if_neg (by omega),aWd k f (y / 2) (by omega) (by omega) (by omega)];omega
theorem bQn:∀ (k f:Nat),k<f->ctzFrom f (2 ^ k)=k
 | 0,f+1,_=>by simp[ctzFrom]
 | k+1,f+1,h=>by
  have hp:2 ^ (k+1)=2 ^ k*2:=Aw ..;rw[ctzFrom,if_neg (by omega),hp,Nat.mul_div_cancel _ (by decide),bQn k f (by omega)];omega
theorem bQo:∀ (k f x:Nat),x<2 ^ k->x≠0->ctzFrom f (x+2 ^ k)=ctzFrom f x
 | 0,f,x,h,a=>by simp at h;omega
 | k+1,0,x,h,a=>rfl
 | k+1,f+1,x,h,a=>by
  have hp:2 ^ (k+1)=2 ^ k*2:=Aw ..;unfold ctzFrom;by_cases b:x % 2=1
  ·rw[if_pos b,if_pos (by omega)]
  ·rw[if_neg b,if_neg (by omega),show(x+2 ^ (k+1)) / 2=x / 2+2 ^ k by omega,bQo k f (x / 2) (by omega) (by omega)]
theorem dYg(a k:Nat):a % 2 ^ (k+1)=a % 2 ^ k+2 ^ k*(a / 2 ^ k % 2):=by rw[Aw];exact Bj
theorem eKu(a:x≠0)(b:x<2 ^ k)(c:k<=W):ctz W x<W:=by
 rw[ctz,if_neg a];obtain⟨m,_,d⟩:=ctzFrom_spec W x (by omega) (Nat.lt_of_lt_of_le b (Nat.pow_le_pow_right (by decide) c));exact d
theorem dYh(a k:Nat):popAux (k+1) a=popAux k a+a / 2 ^ k % 2:=by rw[bZt k 1];simp[popAux]
end
def eYg(W a:Nat)(b c mv i:Value):Prop:=∃ k:Nat,k<=W/\i = .int .i64 k/\b = .int .i64 ((W:Int) - (Lib.bitLen (a % 2 ^ k):Nat))/\c = .int .i64 ((Lib.ctz W (a % 2 ^ k):Nat):Int)/\mv = .int .i64 ((Lib.popAux k a:Nat):Int)
theorem cZw(ha:a<18446744073709551616)(b:Bool)(h:decide (a / 2 ^ k % 2=1)=b):(Go.bits .and .u64 ((a:Int) / 2 ^ k) 1 == 1)=b:=by
 rw[show((a:Int) / 2 ^ k)=((a / 2 ^ k:Nat):Int) by push_cast;rfl,show(1:Int)=((1:Nat):Int)from rfl,bits_and_u64_nat _ _ (Az (AJ _ _) ha) (by decide),Nat.and_one_is_mod];rw[<-h];have:a / 2 ^ k % 2<2:=Av _ (by decide);by_cases c:a / 2 ^ k % 2=1
 ·simp[c]
 ·have h2:a / 2 ^ k % 2=0:=(by omega);simp[h2]
theorem cQh(k a W:Nat)(w:Bk)(x:k<3)(p:(W=64/\a<18446744073709551616)\/(W=32/\a<4294967296)):Bw fZ 142 #[.int .i64 k,.int .u64 a,.int .i64 W] w fun e w'=>e = .returned (.int .u64 ((aXk W a).getD k 0))/\Bv w.heap.size w w':=by
 have q:=fQ (show a<18446744073709551616 by omega);have F:=fQ (show a<2 ^ W by rcases p with⟨rfl,h⟩ | ⟨rfl,h⟩ <;> simpa using h);have aj:W<=64:=(by omega);have al:0<W:=(by omega);have G:=fQ (cZv p x);clear p;go_in;go_wp2_with fail;go_loop [7,8,9,10] (fun H I mv i=>eYg W a H I mv i) (fun _ _ _ i=>W+1 - (intOf i).toNat)
 case atStart=>exact⟨0,by omega,rfl,by simp[Bx,Lib.bitLen,aKw],by simp[Bx,Lib.ctz],by simp[Lib.popAux]⟩
 case round=>
  obtain⟨j,hj,rfl,rfl,rfl,rfl⟩:=hrel;by_cases z:j<W
  ·have J:decide ((j:Int)<(W:Int))=true:=(by simpa using z);have l:=fQ (dYg a j);have A:=fQ (dYh a j);have B:=fQ (show a % 2 ^ j<2 ^ j from Av _ (AQ (by decide)));have r:Lib.bitLen (a % 2 ^ j)<=64:=aJo 64 _ 64 (Az (Nat.mod_le _ _) q.out);have s:Lib.popAux j a<=64:=(by have:=aYh j a;omega);by_cases b:a / 2 ^ j % 2=1
   ·have K:=cZw (k:=j) q.out true (by simpa using b)
    have C:=fQ (show Lib.bitLen (a % 2 ^ (j+1))=j+1 by
     refine aWd j 64 _ (by omega) ?_ ?_
     ·rw[l.out,b];omega
     ·exact Av _ (AQ (by decide)))
    have c:=fQ (show Lib.popAux (j+1) a=Lib.popAux j a+1 by rw[A.out,b]);by_cases d:a % 2 ^ j=0
    ·have n:=fQ (show Lib.ctz W (a % 2 ^ (j+1))=j by
      rw[l.out,b,d,Lib.ctz,if_neg (by have:0<2 ^ j:=AQ (by decide);omega),Bz,Nat.zero_add]
      exact bQn j W z)
     have gt:((W:Int) == (W:Int))=true:=(by simp);rw[d,show Lib.ctz W 0=W by simp[Lib.ctz]];clear b d;generalize Lib.bitLen 0=f at r ⊢;generalize Lib.popAux j a=m at s c ⊢;go_wp2;refine⟨⟨j+1,by omega,by simp,?_,?_,?_⟩,by simp[intOf];omega⟩
     ·rw[C.out];congr 1;omega
     ·rw[n.out]
     ·rw[c.out];simp
    ·have n:=fQ (show Lib.ctz W (a % 2 ^ (j+1))=Lib.ctz W (a % 2 ^ j) by
      rw[l.out,b,Bz,Lib.ctz,if_neg (by omega),Lib.ctz,if_neg d]
      exact bQo j W _ B.out d)
     have hcl:=eKu d B.out (by omega:j<=W);clear b d;generalize Lib.ctz W (a % 2 ^ j)=t at n hcl ⊢;have gt:((t:Int) == (W:Int))=false:=(by simp;omega);generalize Lib.bitLen (a % 2 ^ j)=f at r ⊢;generalize Lib.popAux j a=m at s c ⊢;go_wp2;refine⟨⟨j+1,by omega,by simp,?_,?_,?_⟩,by simp[intOf];omega⟩
     ·rw[C.out];congr 1;omega
     ·rw[n.out]
     ·rw[c.out];simp
   ·have K:=cZw (k:=j) q.out false (by simpa using b);have D:=fQ (show a % 2 ^ (j+1)=a % 2 ^ j by rw[l.out,show a / 2 ^ j % 2=0 by omega,Nat.mul_zero,Nat.add_zero]);have c:=fQ (show Lib.popAux (j+1) a=Lib.popAux j a by rw[A.out];omega);clear b;generalize u:Lib.bitLen (a % 2 ^ j)=f at r ⊢;generalize E:Lib.popAux j a=m at s c ⊢;generalize v:Lib.ctz W (a % 2 ^ j)=t;replace u:=fQ u;replace E:=fQ E;replace v:=fQ v;go_wp2;refine⟨⟨j+1,by omega,by simp,?_,?_,?_⟩,by simp[intOf];omega⟩
    ·rw[D.out,u.out]
    ·rw[D.out,v.out]
    ·rw[c.out]
  ·obtain rfl:j=W:=(by omega);have J:decide ((j:Int)<(j:Int))=false:=(by simp);rw[Ax F.out];obtain⟨y,g⟩:=fX ((aXk j a).getD k 0);have hy:0<=y/\y<=64:=(by rw[<-g];exact G.out);have an:IntKind.u64.wrap y=y:=(by rw[Aj];omega);have o:=dYf g x (Blk.new w 3 _);have ao:(k:Int)<3:=(by omega);simp only[aXk,Aa,Ab,Ac]at o;replace g:=fQ g;generalize Lib.bitLen a=f at o ⊢;generalize Lib.popAux j a=m at o ⊢;generalize Lib.ctz j a=t at o ⊢;go_wp2;go_ret;exact⟨aXt g.out.symm,(Ak _ _).alloc (Af _) _⟩
end Go.Proofs.YtabibkpfgmolkaaGreat

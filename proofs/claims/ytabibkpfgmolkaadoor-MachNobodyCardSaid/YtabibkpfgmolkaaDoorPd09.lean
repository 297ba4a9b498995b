/- Lemmas for the claim, part 9. Conditions: none. -/
import Derived.Test.YtabibkpfgmolkaaDoorPd08
import Derived.Deep.Cut
import Derived.LaidMore
import Derived.OpenShut
import Derived.ProofKit
import Derived.StillTailTactics
import Derived.Stop.Joined
import Derived.Test.YtabibkpfgmolkaaDoorRows
set_option maxRecDepth 100000
set_option maxHeartbeats 16000000
set_option linter.unusedVariables false
set_option linter.unusedSimpArgs false
open Go.Lib renaming hid→cQ
open Go.Proofs.Tryd renaming prog→cZ
open Go.Proofs.Tryd
open Go.RowKit
open List renaming setIfInBounds_toArray→Aj,getElem?_eq_getElem→Aq,set_cons_zero→Az,set_cons_succ→Ak,replicate→Ay,eq_nil_of_length_eq_zero→AX,length_map→AW,getElem?_eq_none→AY,getElem?_map→Ag
open Nat renaming le_refl→Ax,le_trans→AJ,lt_of_lt_of_le→AZ,div_div_eq_div_mul→AV,zero_le→Aa,lt_of_le_of_lt→Ab,add_sub_cancel→Ad,zero_add→Af,div_le_self→Ai,pow_succ→Bq,mul_one→Bx
open Go.RowKit.Below renaming refl→Av,heap_setCell→Ac
open Go.Value renaming slice→Aw,int→Ah,agg→Bz
open Go.Act renaming put→AQ
open Go.World renaming ownsRow_nil→AK,ownsRow_lit→Ae,var?_cell→Bj
open Go renaming World→Bk,Value→Bv,TypeId→By
open Go.RowKit renaming Below→Bw
namespace Go.Proofs.YtabibkpfgmolkaaDoor
section
open Go.Shelf
attribute [local go_sem] Oper.semAt_some
theorem aYw:(cZ.info? 5).map (fun i=>(i.zero,i.size,i.bytes))=some (some (.int .u8 0),1,1):=by kernel_rfl
theorem oW(A:Option Addr)(n c:Nat)(m:List Nat)(w:Bk)(hs:Src w A n (bys m))(d:A=none->n=0/\c=0)(hn:n<=140737488355328):
  Calls cZ 34 #[.slice A n c] w fun e w'=>∃ v,e = .returned v/\w'.ownsRow w.heap.size 5 1 v n (bys m)/\Bw w.heap.size w w':=by
 have aa:∀ (w:Bk) (a:Option Addr) (n c f g:Nat),(binOp .eql 31 (.slice a n c) (.slice none f g)).run cZ w = .ok (.bool a.isNone) w:=fun w a n c f g=>Lib.run_eql_slice_nil w 31 5 a n c f g underlying31;rcases A with _ | ⟨b,o,sp⟩
 ·obtain⟨rfl,rfl⟩:=d rfl;have j:m = []:=(by have:=hs.1;simpa[bys]using this);subst j;clear d hs;go_in;go_wp2;go_ret;exact⟨_,rfl,AK _ _ _ _,Av _ _⟩
 ·have k:=cQ (hs.below (w':=w.alloc (.cells #[] 5)) ((Av _ _).alloc (Ax _) _) (Ax _));clear hs d;go_in;go_wp2_with (at_builtin;refine qY _ rfl _ (.tmp 6) 31 rfl w.heap.size 5 _ 1 underlying31 aYw rfl _ 0 [] rfl (Ae w #[] 0 (Ax _) (by unfold maxLen;omega) rfl) _ n c _ rfl k.out (bXe _) (by unfold maxLen;omega) (by omega) (by simp) ?_);rintro v' w' h i;have l:=cQ h;have p:=cQ i;clear h i;go_wp2;go_ret;exact⟨_,rfl,l.out,((Av _ _).alloc (Ax _) _).trans p.out⟩
theorem cQr(A:Option Addr)(n c:Nat)(m:List Nat)(most:Int)(a:Nat)(w:Bk)(hs:Src w A n (bys m))(z:A=none->n=0/\c=0)(hn:n<=140737488355328)
  (aj : -9223372036854775808<=most) (ak:most<=9223372036854775807) (hp:a<18446744073709551616) :
  Calls cZ 54 #[.slice A n c,.int .i64 most,.int .u64 a] w fun e w'=>∃ j k,e = .returned (.tuple #[.slice j (gX m most a).length k,.int .u64 (oQ n most a)]) /\
   w'.ownsRow w.heap.size 5 1 (.slice j (gX m most a).length k) (gX m most a).length (bys (gX m most a))/\Bw w.heap.size w w':=by
 have B:m.length=n:=(by have:=hs.1;rwa[xW]at this);have l:=cQ hs;have o:=cQ z;have p:=cQ B;clear hs z B;by_cases hg:tV n most a=true
 ·have HG:=cQ hg;have q:=cQ (show gX m most a=m++Ay (256*a) 0 by simp[gX,p.out,hg]);have s:=cQ (show oQ n most a=n / 256 by simp[oQ,hg]);simp only[tV,decide_eq_true_eq]at hg;obtain⟨h1,h2⟩:=hg;have D:(n:Int)+256*a<=most:=(by omega);have h4:n+256*a<=4096:=(by omega);clear h2;have h5:(n:Int) % 256=0:=(by omega)
  have fin:∀ (h:Bk) (v:Bv) (i:Array Bv),h.ownsRow w.heap.size 5 1 v (n+256*a) (bys m++Ay (256*a) (.int .u8 0))->Bw w.heap.size w h->i.getD 6 undef=v->i.getD 7 undef = .int .u64 ((n / 256:Nat):Int) ->
    bodyPost cZ Tryd.f54 (fun e w'=>∃ j k,e = .returned (.tuple #[.slice j (gX m most a).length k,.int .u64 (oQ n most a)]) /\
     w'.ownsRow w.heap.size 5 1 (.slice j (gX m most a).length k) (gX m most a).length (bys (gX m most a))/\Bw w.heap.size w w') Exit.ret { tmps:=i,defers:=[] } h:=by
   intro h v i f g t u;refine bodyPost_ret (results_tmp2 rfl _ _ _) rfl ?_;obtain⟨j,k,rfl,_⟩:=cJ f;have C:(gX m most a).length=n+256*a:=(by rw[q.out];simp[p.out]);refine⟨j,k,?_,?_,g⟩
   ·rw[C,s.out];show Ending.returned (.tuple #[i.getD 6 undef,i.getD 7 undef])=_;rw[t,u]
   ·rw[C,q.out,cXl,show bys (Ay (256*a) 0)=Ay (256*a) (.int .u8 0)from by simp[bys]];exact f
  rcases Int.lt_or_le most 4096 with E | E
  ·go_in;go_wp2_with fail;refine(oW A n c m _ l.out o.out hn).mono ?_;rintro e h ⟨v,rfl,b,d⟩;have f:=cQ b;have g:=cQ d;clear b d;go_wp2_with (at_builtin;refine aXr _ rfl _ (.tmp 38) 31 3 rfl w.heap.size 5 (.int .u8 0) 1 .i64 underlying31 underlying3 aYw rfl rfl _ n (bys m) rfl f.out .i64 (256*a) _ (by omega) rfl (by unfold maxLen;omega) (by omega) g.out.size ?_)
   all_goals
    rintro v' w' b d;have x:=cQ b;have y:=cQ d;clear b d f;go_wp2;refine fin _ _ _ x.out (g.out.trans y.out) rfl ?_;show Ah .u64 _ = .int .u64 _
    first | rfl | (congr 1;omega)
  ·go_in;go_wp2_with fail;refine(oW A n c m _ l.out o.out hn).mono ?_;rintro e h ⟨v,rfl,b,d⟩;have f:=cQ b;have g:=cQ d;clear b d;go_wp2_with (at_builtin;refine aXr _ rfl _ (.tmp 38) 31 3 rfl w.heap.size 5 (.int .u8 0) 1 .i64 underlying31 underlying3 aYw rfl rfl _ n (bys m) rfl f.out .i64 (256*a) _ (by omega) rfl (by unfold maxLen;omega) (by omega) g.out.size ?_)
   all_goals
    rintro v' w' b d;have x:=cQ b;have y:=cQ d;clear b d f;go_wp2;refine fin _ _ _ x.out (g.out.trans y.out) rfl ?_;show Ah .u64 _ = .int .u64 _
    first | rfl | (congr 1;omega)
 ·have r:tV n most a=false:=(by simpa using hg);have q:=cQ (show gX m most a=m by simp[gX,p.out,r]);have s:=cQ (show oQ n most a=4294967295 by simp[oQ,r])
  have F:n % 256≠0\/((n % 256=0/\min most 4096<(n:Int))\/(n % 256=0/\(n:Int)<=min most 4096/\min most 4096<(n:Int)+256*a)):=by
   simp[tV]at r;omega
  clear hg r
  have fin:∀ (h:Bk) (v:Bv) (i:Array Bv),h.ownsRow w.heap.size 5 1 v n (bys m)->Bw w.heap.size w h->i.getD 6 undef=v->i.getD 7 undef = .int .u64 4294967295 ->
    bodyPost cZ Tryd.f54 (fun e w'=>∃ j k,e = .returned (.tuple #[.slice j (gX m most a).length k,.int .u64 (oQ n most a)]) /\
     w'.ownsRow w.heap.size 5 1 (.slice j (gX m most a).length k) (gX m most a).length (bys (gX m most a))/\Bw w.heap.size w w') Exit.ret { tmps:=i,defers:=[] } h:=by
   intro h v i f g t u;refine bodyPost_ret (results_tmp2 rfl _ _ _) rfl ?_;obtain⟨j,k,rfl,_⟩:=cJ f;refine⟨j,k,?_,?_,g⟩
   ·rw[q.out,s.out,p.out];show Ending.returned (.tuple #[i.getD 6 undef,i.getD 7 undef])=_;rw[t,u];rfl
   ·rw[q.out,p.out];exact f
  rcases F with h1 | ⟨h1,h2⟩ | ⟨h1,h2,D⟩
  ·go_in;go_wp2_with fail;refine(oW A n c m _ l.out o.out hn).mono ?_;rintro e h ⟨v,rfl,b,d⟩;have f:=cQ b;have g:=cQ d;clear b d;go_wp2_with fail
   all_goals first | exact fin _ _ _ f.out g.out rfl rfl | (exfalso;omega) | skip
  ·go_in;go_wp2_with fail;refine(oW A n c m _ l.out o.out hn).mono ?_;rintro e h ⟨v,rfl,b,d⟩;have f:=cQ b;have g:=cQ d;clear b d;go_wp2_with fail
   all_goals first | exact fin _ _ _ f.out g.out rfl rfl | (exfalso;omega) | skip
  ·go_in;go_wp2_with fail;refine(oW A n c m _ l.out o.out hn).mono ?_;rintro e h ⟨v,rfl,b,d⟩;have f:=cQ b;have g:=cQ d;clear b d;go_wp2_with fail
   all_goals first | exact fin _ _ _ f.out g.out rfl rfl | (exfalso;omega) | skip
end
section
open Go.Shelf
attribute [local go_sem] Oper.semAt_some
def cXk(w0:Bk)(base g n c b:Nat)(m:List Nat)(a N:Nat)(d i:Bv)(wr:Bk):Prop:=
 ∃ k:Nat,k<=b/\i = .int .i64 k/\d = .int .u64 ((N / 256 ^ k:Nat):Int)/\Hid (wr.ownsRow base 5 1 (.slice (some ⟨g,0,none⟩) n c) n (bys (wJ m a N k)))/\Hid (Bw base w0 wr)
theorem cQv(A:Option Addr)(n c addr off N a:Nat)(op k:Int)(C:Bool)(m:List Nat)(w:Bk)(D:acc op=some (k,(a:Int),true,C))(hs:Src w A n (bys m))(M:A=none->n=0/\c=0)(hn:n<=140737488355328)
  (ha:addr<=4294967295) (ho:off<=4294967295) (hN:N<18446744073709551616) (aI:addr+off+a<=n) (hp:fX n a addr off=(((addr+off:Nat):Int),0)) (O:¬(k=127/\4294967295<N)) :
  Calls cZ 55 #[.slice A n c,.int .i64 op,.int .u64 addr,.int .u64 off,.int .u64 N] w fun e w'=>∃ P Q,e = .returned (.tuple #[.slice P n Q,.int .i64 0])/\w'.ownsRow w.heap.size 5 1 (.slice P n Q) n (bys (wJ m (addr+off) N a))/\Bw w.heap.size w w':=by
 obtain⟨V,W,_,_⟩:=iV D;have aJ:1<=a:=(by omega);have aK:a<=8:=(by omega);have aL:=nJ D;have R:m.length=n:=(by have:=hs.1;rwa[xW]at this);have HM:=cQ R;have S:=cQ hs;have T:=cQ M;have U:=cQ hp;have aM:=cQ O
 have key:(k == 127)=false\/((k == 127)=true/\decide (4294967295<(N:Int))=false):=by
  by_cases h:k=127
  ·exact .inr ⟨by simp[h],by simp;omega⟩
  ·exact .inl (by simp[h])
 clear D hs M hp O V W R;rcases key with X | ⟨X,aN⟩
 ·go_in;go_wp2_with fail;refine(fK _).mono ?_;rintro e b ⟨rfl,rfl⟩;go_wp2_with fail;refine(tY _ n c addr off k a true C _ hn (by omega) (by omega) (by omega) (by omega)).mono ?_;rintro e b ⟨rfl,f⟩;rw[U.out];obtain⟨t,E⟩:=bXy f;have Y:w.heap.size+1+1<=b.heap.size:=(by have:=f.size;simpa using this);have l:=cQ (show Bw w.heap.size w b from(((Av _ _).alloc (Ax _) _).alloc (by simp) _).trans (f.mono (by simp;omega)));clear f;have F:=cQ (S.out.below l.out (Ax _));have u:w.heap.size+1<b.heap.size:=(by omega);go_wp2_with fail;refine(oW A n c m _ F.out T.out hn).mono ?_;rintro e w2 ⟨v,rfl,q,r⟩;obtain⟨g,G,rfl,Z,H,_⟩:=kY q (by omega);have y:=(r.cell (p:=⟨w.heap.size+1,1,none⟩) u).trans (t (w.heap.size+1) 1 (by simp));simp at y;have z:=cQ q;have I:=cQ (Av b.heap.size w2);have J:=cQ r;clear q r t E;go_wp2_with fail;go_loopw [4,17,55] (fun K _ i wr=>cXk w2 b.heap.size g n G a m (addr+off) N K i wr) (fun _ _ i _=>a+1 - (intOf i).toNat)
  case atStart=>exact⟨0,by omega,rfl,by simp,z,I⟩
  case round=>
   clear z;obtain⟨j,hj,rfl,rfl,d,s⟩:=hrel;have ax:=(s.out.cell (p:=⟨w.heap.size+1,1,none⟩) u).trans y;by_cases L:j<a
   ·have az:decide ((j:Int)<(a:Int))=true:=(by simpa using L);have aA:wr.frozen? ⟨g,addr+off+j,none⟩=false:=d.out.frozenAt _
    obtain⟨v,hcell⟩:∃ v,wr.cell? ⟨g,addr+off+j,none⟩=some v:=by
     have hl:=d.out.1;rw[d.out.cellAt (addr+off+j) (by omega)];exact⟨_,Aq (by omega)⟩
    obtain⟨x,o⟩:=cX (N / 256 ^ j);have aH:x<18446744073709551616:=(by rw[<-o];exact Ab (Ai _ _) hN);rw[o];have B:=cQ o;clear o;go_wp2;refine⟨⟨j+1,by omega,by simp,?_,?_,cQ (s.out.setCell (p:=⟨g,addr+off+j,none⟩) H _)⟩,by simp[intOf];omega⟩
    ·rw[Bq,<-AV,B.out];rfl
    ·refine cQ ?_;rw[wJ,B.out,<-bXg];exact(d.out.stored (addr+off+j) (.int .u8 ((x % 256:Nat):Int))).1
   ·obtain rfl:j=a:=(by omega);go_wp2;go_ret2;exact⟨_,_,rfl,eV d.out l.out.size,l.out.trans ((J.out.trans s.out).mono l.out.size)⟩
 ·go_in;go_wp2_with fail;refine(fK _).mono ?_;rintro e b ⟨rfl,rfl⟩;go_wp2_with fail;refine(tY _ n c addr off k a true C _ hn (by omega) (by omega) (by omega) (by omega)).mono ?_;rintro e b ⟨rfl,f⟩;rw[U.out];obtain⟨t,E⟩:=bXy f;have Y:w.heap.size+1+1<=b.heap.size:=(by have:=f.size;simpa using this);have l:=cQ (show Bw w.heap.size w b from(((Av _ _).alloc (Ax _) _).alloc (by simp) _).trans (f.mono (by simp;omega)));clear f;have F:=cQ (S.out.below l.out (Ax _));have u:w.heap.size+1<b.heap.size:=(by omega);go_wp2_with fail;refine(oW A n c m _ F.out T.out hn).mono ?_;rintro e w2 ⟨v,rfl,q,r⟩;obtain⟨g,G,rfl,Z,H,_⟩:=kY q (by omega);have y:=(r.cell (p:=⟨w.heap.size+1,1,none⟩) u).trans (t (w.heap.size+1) 1 (by simp));simp at y;have z:=cQ q;have I:=cQ (Av b.heap.size w2);have J:=cQ r;clear q r t E;go_wp2_with fail;go_loopw [4,17,55] (fun K _ i wr=>cXk w2 b.heap.size g n G a m (addr+off) N K i wr) (fun _ _ i _=>a+1 - (intOf i).toNat)
  case atStart=>exact⟨0,by omega,rfl,by simp,z,I⟩
  case round=>
   clear z;obtain⟨j,hj,rfl,rfl,d,s⟩:=hrel;have ax:=(s.out.cell (p:=⟨w.heap.size+1,1,none⟩) u).trans y;by_cases L:j<a
   ·have az:decide ((j:Int)<(a:Int))=true:=(by simpa using L);have aA:wr.frozen? ⟨g,addr+off+j,none⟩=false:=d.out.frozenAt _
    obtain⟨v,hcell⟩:∃ v,wr.cell? ⟨g,addr+off+j,none⟩=some v:=by
     have hl:=d.out.1;rw[d.out.cellAt (addr+off+j) (by omega)];exact⟨_,Aq (by omega)⟩
    obtain⟨x,o⟩:=cX (N / 256 ^ j);have aH:x<18446744073709551616:=(by rw[<-o];exact Ab (Ai _ _) hN);rw[o];have B:=cQ o;clear o;go_wp2;refine⟨⟨j+1,by omega,by simp,?_,?_,cQ (s.out.setCell (p:=⟨g,addr+off+j,none⟩) H _)⟩,by simp[intOf];omega⟩
    ·rw[Bq,<-AV,B.out];rfl
    ·refine cQ ?_;rw[wJ,B.out,<-bXg];exact(d.out.stored (addr+off+j) (.int .u8 ((x % 256:Nat):Int))).1
   ·obtain rfl:j=a:=(by omega);go_wp2;go_ret2;exact⟨_,_,rfl,eV d.out l.out.size,l.out.trans ((J.out.trans s.out).mono l.out.size)⟩
theorem bVz(A:Option Addr)(n c addr off N:Nat)(op:Int)(m:List Nat)(w:Bk)(hs:Src w A n (bys m))(i:A=none->n=0/\c=0)(hn:n<=140737488355328)
  (ha:addr<18446744073709551616) (z:off<18446744073709551616) (hN:N<18446744073709551616) :
  Calls cZ 55 #[.slice A n c,.int .i64 op,.int .u64 addr,.int .u64 off,.int .u64 N] w fun e w'=>∃ j l,e = .returned (.tuple #[.slice j (fW m op addr off N).length l,.int .i64 (iY n op addr off N)]) /\
   w'.ownsRow w.heap.size 5 1 (.slice j (fW m op addr off N).length l) (fW m op addr off N).length (bys (fW m op addr off N))/\Bw w.heap.size w w':=by
 have b:m.length=n:=by have:=hs.1;rwa[xW]at this
 have bad:∀ E:Int,E≠0->iY n op addr off N=E->∀ (w':Bk) (g:Array Bv),g.getD 10 undef = .slice none 0 0->g.getD 11 undef = .int .i64 E->Bw w.heap.size w w' ->
   bodyPost cZ Tryd.f55 (fun e w'=>∃ j l,e = .returned (.tuple #[.slice j (fW m op addr off N).length l,.int .i64 (iY n op addr off N)]) /\
    w'.ownsRow w.heap.size 5 1 (.slice j (fW m op addr off N).length l) (fW m op addr off N).length (bys (fW m op addr off N))/\Bw w.heap.size w w') Exit.ret { tmps:=g,defers:=[] } w':=by
  intro E p v w' g B e2 C;have o:fW m op addr off N = []:=(by rw[fW,b,v,if_neg p]);refine bodyPost_ret (results_tmp2 (t:=10) (u:=11) rfl _ _ _) rfl ⟨none,0,?_,?_,C⟩
  ·rw[o,v];show Ending.returned (.tuple #[g.getD 10 undef,g.getD 11 undef])=_;rw[B,e2];rfl
  ·rw[o];exact AK _ _ _ _
 cases a:acc op with
 | none=>
  have d:=cQ (show iY n op addr off N=1 by simp[iY,a]);have s:=aQt a;clear a hs b i;go_in;go_wp2_with fail;refine(fK _).mono ?_;rintro e q ⟨rfl,rfl⟩;go_wp2;exact bad 1 (by decide) d.out _ _ rfl rfl (((Av _ _).alloc (Ax _) _).alloc (by simp) _)
 | some r=>
  obtain⟨k,wd,st,x⟩:=r;obtain⟨hk,an,_,_⟩:=iV a
  cases st with
  | false=>
   have d:=cQ (show iY n op addr off N=1 by simp[iY,a]);have s:=nJ a;clear a hs b i;go_in;go_wp2_with fail;refine(fK _).mono ?_;rintro e q ⟨rfl,rfl⟩;go_wp2;exact bad 1 (by decide) d.out _ _ rfl rfl (((Av _ _).alloc (Ax _) _).alloc (by simp) _)
  | true=>
   by_cases f:k=127/\4294967295<N
   ·have d:=cQ (show iY n op addr off N=1 by simp[iY,a,f]);have s:=nJ a;have g1:(k == 127)=true:=(by simp[f.1]);have g2:decide (4294967295<(N:Int))=true:=(by simp;omega);clear a hs b i f;go_in;go_wp2_with fail;refine(fK _).mono ?_;rintro e q ⟨rfl,rfl⟩;go_wp2;exact bad 1 (by decide) d.out _ _ rfl rfl (((Av _ _).alloc (Ax _) _).alloc (by simp) _)
   ·by_cases hp:(fX n wd addr off).2=0
    ·obtain⟨D,F,G,H⟩:=aVl hp;have p:iY n op addr off N=0:=(by simp[iY,a,f,hp]);obtain⟨y,rfl⟩:=Int.eq_ofNat_of_zero_le (show 0<=wd by omega);have o:fW m op addr off N=wJ m (addr+off) N y:=(by simp[fW,b,p,cJr,a]);have I:(fW m op addr off N).length=n:=(by rw[o,aQe,b]);rw[I,o,p];exact cQv A n c addr off N y op k x m w a hs i hn G H hN (by simpa using F) D f
    ·have d:=cQ (show iY n op addr off N=(fX n wd addr off).2 by simp[iY,a,f]);have ao:((fX n wd addr off).2 != 0)=true:=(by simpa using hp);have s:=nJ a;have J:=cQ hp
     have key:(k == 127)=false\/((k == 127)=true/\decide (4294967295<(N:Int))=false):=by
      by_cases h:k=127
      ·exact .inr ⟨by simp[h],by simp;omega⟩
      ·exact .inl (by simp[h])
     clear a hs b hp i f;rcases key with K | ⟨K,aq⟩
     all_goals
      go_in;go_wp2_with fail;refine(fK _).mono ?_;rintro e q ⟨rfl,rfl⟩;go_wp2_with fail;refine(tY _ n c addr off k wd true x _ hn (by omega) (by omega) ha z).mono ?_;rintro e q ⟨rfl,L⟩;go_wp2;exact bad _ J.out d.out _ _ rfl rfl ((((Av _ _).alloc (Ax _) _).alloc (by simp) _).trans (L.mono (by simp;omega)))
end
def aYa:Nat->Nat->List Nat->List Nat
 | 0,_,V=>V
 | m+1,o,V=>aYa m (o+1) (V.set o 0)
theorem aYb:∀ (m o:Nat) (V:List Nat),o+m<=V.length->aYa m o (aXg o V)=aXg (o+m) V
 | 0,o,V,_=>rfl
 | m+1,o,V,h=>by
  rw[aYa,bVr (by omega),aYb m (o+1) V (by omega)]
  congr 1
  omega
theorem bZq(V:List Nat):aYa (min 8 V.length) 0 V=zeroV 8 V:=by
 have:=aYb (min 8 V.length) 0 V (by omega);rw[bVq]at this;rw[this,Af];exact bVs rfl
theorem aYc(w:Bk):(zeroValue 62).run cZ w = .ok (.int .u64 0) w:=by kernel_rfl
theorem KRef.zero{C:KaC}{f:FrD}{rest:List FrD}{pg c n:Nat}{vs:List Bv}:∀ (m o:Nat) {X:KaS} {w:Bk} (V:List Nat),KRef C X w->X.x.st={ f with V:=V } :: rest->X.ps = .slice (some ⟨pg,0,none⟩) n c :: vs->V.length=n ->
  KRef C (mQ X f rest (aYa m o V)) (w.setCells pg o (Ay m (.int .u64 0)))/\(w.setCells pg o (Ay m (.int .u64 0))).heap.size=w.heap.size
 | 0,o,X,w,V,h,a,b,hn=>by
  refine⟨?_,rfl⟩
  have e:mQ X f rest V=X:=by
   unfold mQ;cases X;rename_i x _ _ _ _ _ _ _;cases x;simp at a ⊢;exact a.symm
  show KRef C (mQ X f rest V) w;rw[e];exact h
 | m+1,o,X,w,V,h,a,b,hn=>by
  have h1:=h.cYl (f:={ f with V:=V }) (rest:=rest) a (g:=pg) (c:=c) (vs:=vs) (by subst hn;exact b) o 0;have h2:=KRef.zero m (o+1) (X:={ X with x:={ X.x with st:={ f with V:=V.set o 0 } :: rest } }) (V.set o 0) h1 rfl b (by rw[List.length_set];exact hn);refine⟨h2.1,?_⟩;show((w.setCell ⟨pg,o,none⟩ (.int .u64 0)).setCells pg (o+1) (Ay m (.int .u64 0))).heap.size=_;exact h2.2.trans (by simp[World.setCell])
theorem wQ{k pg:Nat}:∀ (vs:List Bv) (o:Nat) (w:Bk),k≠pg->(w.setCells pg o vs).heap[k]? = w.heap[k]?
 | [],_,_,_=>rfl
 | v :: vs,o,w,h=>(wQ vs (o+1) _ h).trans (Ac _ _ _ _ h)
theorem aKn(w:Bk)(a:By)(A:Option Addr)(c:Nat):(Builtin.clear_ #[30] a #[.slice A 0 c]).run cZ w = .ok (.tuple #[]) w:=by
 cases A <;> simp[Builtin.clear_,run_underlying underlying30,aYc,Builtin.zeroCells,storeCells]
theorem bKl{w:Bk}{base n a:Nat}{e:By}{v:Bv}{b:List Bv}(h:w.ownsRow base e a v n b):n<=maxLen:=by
 rcases h.2 with⟨_,h2⟩ | ⟨_,_,_,_,_,_,c,d,_⟩
 ·rw[h2];exact Aa _
 ·exact AJ c d
theorem yQ{pg m:Nat}:∀ (vs:List Bv) (o:Nat) (w:Bk),(w.drewN m).setCells pg o vs=(w.setCells pg o vs).drewN m
 | [],_,_=>rfl
 | v :: vs,o,w=>yQ vs (o+1) (w.setCell ⟨pg,o,none⟩ v)
theorem KK.cells{x z:KaS}{w0:Bk}{pg:Nat}(a:x.lab pg≠0):∀ (vs:List Bv) (o:Nat) {w:Bk},KK z x w0 w->KK z x w0 (w.setCells pg o vs)
 | [],_,_,h=>h
 | v :: vs,o,w,h=>KK.cells a vs (o+1) (h.set (y:=x) o v (.inl a) rfl)
theorem bYl(C:KaC)(X:KaS)(f:FrD)(rest:List FrD)(T:Bv)(l:List Nat)(w:Bk)(h:KRef C X w)(N:KC C)(O:X.x.st=f :: rest)(G:UR w T l)(hf:∀ k,T.ownBlock=some k->X.lab k=8)(U:ChainOk (f :: rest))(W:∀ g∈rest,FrOk C.p g)(hl:l.length=f.r.sig.out.length)(hd:rest.length<=16):
  Calls cZ 37 #[.pointer (some ⟨C.mm,0,none⟩),T] w (aQz C X (aQb X.x l rest) w):=by
 obtain⟨g,cS,bg,bh,Y,bj,aA,_,_,_,_,hg,bk,_,_⟩:=KRef.top h.toKRest O;have m0:=h.cWp;have bm:w.cell? ⟨C.cb,12,none⟩=some (.slice (some ⟨g,0,none⟩) (rest.length+1) cS):=(by rw[h.cell 12];simp[kCells,Y]);have f12:=frz h.cb 12;have yb:=h.cb.lt;have ym:=h.mm.lt;have d:=(h.cYw O Y).drew;have H:=((KK.refl X w).set (y:={ X with sv:=.slice (some ⟨g,0,none⟩) rest.length cS,ps:=X.ps.tail,x:={ X.x with st:=rest } }) (g:=C.cb) 12 (.slice (some ⟨g,0,none⟩) rest.length cS) (.inl (KRef.lcb h.toKRest)) rfl).drew;obtain⟨A,c,rfl⟩:=G.shape
 have Z:UR (w.setCell ⟨C.cb,12,none⟩ (.slice (some ⟨g,0,none⟩) rest.length cS)).drew (.slice A l.length c) l:=G.heap H.size (fun k I bn=>Ac _ _ _ _ (fun e=>by
  have e:k=C.cb:=e;have:=hf k I;rw[e,h.cl]at this
  cases this))
 obtain⟨B,ay⟩:=cX ((w.setCell ⟨C.cb,12,none⟩ (.slice (some ⟨g,0,none⟩) rest.length cS)).drew);rw[ay]at d H Z;have aB:=cQ ay;have HR:=cQ d;have HK:=cQ H;have HU:=cQ Z;have HF:=cQ hf;have m1:=d.cWp;have aH:B.cell? ⟨C.cb,12,none⟩=some (.slice (some ⟨g,0,none⟩) rest.length cS):=d.cell 12;have bo:=d.cb.lt;have bp:=d.mm.lt;have bq:g<B.heap.size:=AZ hg H.size;have br:=cQ N;have HL:=cQ hl;have bs:=cQ W;have bt:=cQ U;have bu:¬cS=0:=(by omega);have ad:=W;have af:=U;clear ay Z hf hl W U Y;rcases rest with _ | ⟨q,b⟩
 ·have HE:=cQ (show aQb X.x l []=jK X.x X.x.s l 0 from rfl);clear d H h O G aA ad af;simp only[List.length_nil]at *;go_in;go_wp2_with fail;go_region;rw[aB.out];go_wp2_with fail;refine(aQa C _ _ l 0 _ HR.out HU.out HF.out).mono ?_;rintro e w2 ⟨rfl,X',h1,h2,h3⟩;have H1:=cQ h1;have H2:=cQ h2;have H3:=cQ h3;clear h1 h2 h3;go_wp2;go_end0;exact⟨rfl,X',H1.out,HK.out.trans H2.out,H3.out⟩
 ·obtain⟨P,aI,aC,aJ⟩:=ad q (List.mem_cons_self ..);obtain⟨⟨Q,L,bw,aK,ah⟩,_⟩:=af;obtain⟨g',bx,pv,aL,i,e2,e3,e4,e5,e6,e7,e8,e9,e10,aD⟩:=KRef.top d.toKRest (f:=q) (rest:=b) rfl;have i:Aw (some ⟨g,0,none⟩) (b.length+1) cS=_:=i;injection i with i _ aM;injection i with i;injection i with i;subst i;subst aM;obtain⟨k,I⟩:∃ k,q.k=k+1:=⟨q.k - 1,by omega⟩;obtain⟨n,hn⟩:=cX q.V.length;rw[hn]at e10;obtain⟨A1,R,rfl,bz⟩:=cJ e10;obtain⟨t,aE⟩:=cX (min 8 n);have aN:min (8:Int) (n:Int)=(t:Int):=(by omega);have aO:(0:Int)<=(t:Int):=(by omega);have aP:(t:Int)<=(R:Int):=(by omega);have bA:n<=9223372036854775807:=(by have:=bKl e10;unfold maxLen at this;omega)
  obtain⟨wc,HC⟩:∃ wc,Hid ((∀ m J,(Builtin.clear_ #[30] J #[.slice A1 t R]).run cZ (B.drewN m) = .ok (.tuple #[]) (wc.drewN m))/\KRef C (mQ { X with sv:=.slice (some ⟨g,0,none⟩) (b.length+1) cS,ps:=X.ps.tail,x:={ X.x with st:=q :: b } } q b (zeroV 8 q.V)) wc/\KK X X w wc/\UR wc (.slice A l.length c) l):=by
   by_cases h0:n=0
   ·subst h0;have h8:t=0:=(by omega);subst h8;have hV:q.V = []:=AX hn;refine⟨B,cQ ⟨fun m J=>aKn _ _ _ _,?_,HK.out.to rfl,HU.out⟩⟩
    have hq:mQ { X with sv:=.slice (some ⟨g,0,none⟩) (b.length+1) cS,ps:=X.ps.tail,x:={ X.x with st:=q :: b } } q b (zeroV 8 q.V)={ X with sv:=.slice (some ⟨g,0,none⟩) (b.length+1) cS,ps:=X.ps.tail,x:={ X.x with st:=q :: b } }:=by
     unfold mQ;rw[hV,show zeroV 8 [] = []from rfl];cases q;simp at hV;subst hV;rfl
    rw[hq];exact d
   ·obtain⟨pg,pc,az,bB,bC,bD⟩:=kY e10 (by omega);injection az with az _ aQ;subst az;subst aQ;have hz:=KRef.zero (f:=q) (rest:=b) t 0 q.V d rfl e3 hn
    have ai:∀ m J,(Builtin.clear_ #[30] J #[.slice (some ⟨pg,0,none⟩) t R]).run cZ (B.drewN m) = .ok (.tuple #[]) ((B.setCells pg 0 (Ay t (.int .u64 0))).drewN m):=fun m J=>by
     rw[<-yQ];exact Lib.run_clear_slice (B.drewN m) 30 62 J (.int .u64 0) underlying30 aYc rfl rfl pg 0 t R (by omega) (fun j E=>by obtain⟨v,hv⟩:=zX e10 (k:=j) (by omega);have hv:(B.drewN m).cell? _=_:=hv;rw[Af,hv];rfl) (fun j E=>e10.frozenAt _)
    have hb:=bZq q.V;rw[hn,aE]at hb;rw[hb]at hz;have K:=aD pg rfl;refine⟨_,cQ ⟨ai,hz.1,(KK.cells (x:=X) (by have K:X.lab pg=_:=K;rw[K];omega) _ _ (HK.out.to rfl)),HU.out.heap (Nat.le_of_eq hz.2.symm) (fun j E _=>wQ _ _ _ (fun e=>?_))⟩⟩;have E:=HF.out j E;have K:X.lab pg=_:=K;rw[e,K]at E;omega
  obtain⟨ai,M,aF,aG⟩:=HC.out;have aR:(zeroV 8 q.V).length=n:=(uZ 8 q.V).trans hn;obtain⟨g2,bE,bF,aS,u,d2,d3,d4,S,d6,d7,d8,d9,d10,d11⟩:=KRef.top M.toKRest (f:={ q with V:=zeroV 8 q.V }) (rest:=b) rfl;have u:Aw (some ⟨g,0,none⟩) (b.length+1) cS=_:=u;injection u with u _ aT;injection u with u;injection u with u;subst u;subst aT;obtain⟨ra,rb,rp,rd,y0,y1,y2,y3,y4,y5,_,_,_,y9⟩:=N.row M.bel P;rw[I,Ad]at L;obtain⟨dA,dn,dc,aU⟩:∃ A n c,rd=Aw A n c:=(by obtain⟨A,c,e,_⟩:=y9.len;exact⟨A,_,c,e⟩);subst aU;obtain⟨aV,aW,bb,co,x2,x3,x4,aX,z,z0,z1,z2,z3,z4,z5⟩:=KC.code M.bel y9 L;subst aX;have aY:(k:Int)<(dn:Int):=(by omega);have aZ:(k:Int)<=4096:=(by have:=(N.ok.row _ _ P).1.n2;omega);have S:wc.cell? ⟨g,b.length*3+1,none⟩=some (.int .i64 (q.k:Int)):=S;rw[I]at S;have bG:((k+1:Nat):Int) - 1=(k:Int):=(by omega);have bH:IntKind.i64.wrap (k:Int)=(k:Int):=IntWalk.i64_in _ (by omega);have ak:=cQ M;have al:=cQ aF;have an:=cQ aG;have a1:=cQ z5;have a6:=cQ L;have a7:=cQ ah;have a8:=cQ I;have HN:=cQ hn;have ba:=cQ aC;have ao:=(N.ok.row _ _ P).1.code Q (List.mem_of_getElem? L);have bc:=cQ ao;have t0:(((b.length+1:Nat):Int) == 0)=false:=(by simp;omega);have t1:((b.length+1:Nat):Int) - 1=(b.length:Int):=(by omega);have t2:(b.length:Int)<((b.length+1:Nat):Int):=(by omega);clear d H h O G aA ad HC P aI aC aJ L aK ah M aF aG y9 z5 I hn ao e10 aD d10 d11 aE aR d2 e2 e3 d3 aV;simp only[List.length_cons]at *;go_in;go_wp2_with fail;go_region;rw[aB.out];go_wp2_with fail;go_quiet (fail);go_wp2_with fail;go_region;go_wp2_with fail;obtain⟨F,D⟩:=cX (wc.drewN (nq+1));have HD:=cQ (show KRef C _ F.drew from D ▸ (ak.out.drewN (nq+1)).drew);have bd:=cQ (show KK X X w F.drew from D ▸ (al.out.below (dW (Av _ _) (nq+1))).drew);have be:=cQ (show UR F.drew (.slice A l.length c) l from D ▸ (show UR (wc.drewN (nq+1)).drew _ l from an.out))
  have q0:∀ a,F.cell? a=wc.cell? a:=fun a=>by rw[<-D];rfl
  rw[<-q0]at d4 S d6 y1 y2 y3 y4 y5 z0 z1 z2 z3 z4;rw[D];have y0:C.zf<F.heap.size:=(by rw[<-D];exact y0);have z:bb<F.heap.size:=(by rw[<-D];exact z);clear D q0 ak al an;go_still_tail 16,(by kernel_rfl);change wpList _ _ _ _ _ F.drew;go_wp2_with fail;refine(iW C _ { q with V:=zeroV 8 q.V } b g cS _ Q _ l _ HD.out rfl rfl a1.out be.out ?_ ?_ ?_).mono ?_
  ·intro j E;have:=HF.out j E;show X.lab j≠_;omega
  ·intro o G;obtain⟨_,_,_,_,_,_,_,_,_,h8,_⟩:=cK bc.out;have:=h8 o G;show 0<=o/\o<((zeroV 8 q.V).length:Int);rw[uZ,ba.out];omega
  ·rw[HL.out,a7.out];exact Ax _
  rintro e w2 ⟨rfl,h1,h2⟩;have H1:=cQ h1;have H2:=cQ h2;clear h1 h2;go_wp2;go_end0;refine⟨rfl,_,H1.out,bd.out.trans (KK.trans (KK.refl _ _) (H2.out.from rfl)),?_⟩;have bf:((q.r.code[q.k - 1]?).getD aYk)=Q:=(by rw[a8.out,Ad,a6.out];rfl);show({ X.x with st:={ q with V:=putV Q.outs l (zeroV 8 q.V) } :: b }:MaD)={ X.x with st:={ q with V:=putV ((q.r.code[q.k - 1]?).getD aYk).outs l (zeroV 8 q.V) } :: b };rw[bf]
end Go.Proofs.YtabibkpfgmolkaaDoor
namespace Go.Proofs.YtabibkpfgmolkaaDoor
theorem cQm:(cZ.info? 5).map (fun i=>(i.zero,i.size,i.bytes))=some (some (.int .u8 0),1,1):=by kernel_rfl
structure CpB (w:Bk) (x0 x1 x2 x3 x4 x5:Bv) (wr:Bk):Prop where
 k:Blk wr w.heap.size 33 #[x0,x1,x2,x3,x4,x5]
 z:Blk wr (w.heap.size+1) 33 #[.slice none 0 0,.int .i64 0,.slice none 0 0,.int .i64 0,.slice none 0 0,.slice none 0 0]
 b:Bw w.heap.size w wr
theorem CpB.next{w:Bk}{x0 x1 x2 x3 x4 x5 a c d e f g:Bv}{wr w':Bk}(h:CpB w x0 x1 x2 x3 x4 x5 wr)(hg:wr.grownBy w' none)(i:Nat)(v:Bv)(hi:(#[x0,x1,x2,x3,x4,x5]:Array Bv).setIfInBounds i v=#[a,c,d,e,f,g]):CpB w a c d e f g (w'.setCell ⟨w.heap.size,i,none⟩ v):=by
 have l:=fY (h.k.grown hg (by intro h;cases h)) i v;rw[hi]at l;have hs:=h.b.size;refine⟨l,bJo (h.z.grown hg (by intro h;cases h)) (by omega),?_⟩;exact(sY h.b hg hs (fun j m=>by cases m)).setCell (p:=⟨w.heap.size,i,none⟩) (Ax _) _
theorem eY{w:Bk}{base n i g:Nat}{e t:By}{v u:Bv}{a:List Bv}{cs:Array Bv}(h:w.ownsRow base e 1 v n a)(b:Blk w g t cs)(c:e≠t):(w.setCell ⟨g,i,none⟩ u).ownsRow base e 1 v n a:=jJ h (fV h b c)
def cJp(s:RawS)(w:Bk)(en:Ending)(w':Bk):Prop:=∃ a g i l,en = .returned (.agg #[a,.int .i64 s.most,g,.int .i64 s.fuel,i,l])/\w'.ownsRow w.heap.size 5 1 a s.mem.length (bys s.mem)/\w'.ownsRow w.heap.size 62 1 g s.globals.length (u64V s.globals)/\w'.ownsRow w.heap.size 62 1 i s.input.length (u64V s.input)/\w'.ownsRow w.heap.size 62 1 l s.log.length (u64V s.log)/\Bw w.heap.size w w' /\
 (∀ k,g.ownBlock=some k->l.ownBlock≠some k/\i.ownBlock≠some k/\a.ownBlock≠some k)/\(∀ k,l.ownBlock=some k->i.ownBlock≠some k/\a.ownBlock≠some k)
theorem aJa{w:Bk}{g:Nat}{t:By}{x0 x1 x2 x3 x4 x5:Bv}(i:Blk w g t #[x0,x1,x2,x3,x4,x5])(a b c d e f:Bv):Blk ((((((w.setCell ⟨g,0,none⟩ a).setCell ⟨g,1,none⟩ b).setCell ⟨g,2,none⟩ c).setCell ⟨g,3,none⟩ d).setCell ⟨g,4,none⟩ e).setCell ⟨g,5,none⟩ f) g t #[a,b,c,d,e,f]:=by
 have h:=fY (fY (fY (fY (fY (fY i 0 a) 1 b) 2 c) 3 d) 4 e) 5 f
 simpa using h
theorem aQd{B:Nat}{w w':Bk}{g:Nat}(h:Bw B w w')(hg:B<=g)(a b c d e f:Bv):Bw B w ((((((w'.setCell ⟨g,0,none⟩ a).setCell ⟨g,1,none⟩ b).setCell ⟨g,2,none⟩ c).setCell ⟨g,3,none⟩ d).setCell ⟨g,4,none⟩ e).setCell ⟨g,5,none⟩ f):=
 (((((h.setCell (p:=⟨g,0,none⟩) hg _).setCell (p:=⟨g,1,none⟩) hg _).setCell (p:=⟨g,2,none⟩) hg _).setCell (p:=⟨g,3,none⟩) hg _).setCell (p:=⟨g,4,none⟩) hg _).setCell (p:=⟨g,5,none⟩) hg _
theorem nY{w:Bk}{base n g:Nat}{e t:By}{v:Bv}{i:List Bv}{x0 x1 x2 x3 x4 x5:Bv}(h:w.ownsRow base e 1 v n i)(j:Blk w g t #[x0,x1,x2,x3,x4,x5])(k:e≠t)(a b c d e' f:Bv):((((((w.setCell ⟨g,0,none⟩ a).setCell ⟨g,1,none⟩ b).setCell ⟨g,2,none⟩ c).setCell ⟨g,3,none⟩ d).setCell ⟨g,4,none⟩ e').setCell ⟨g,5,none⟩ f).ownsRow base e 1 v n i:=by
 have q:=fV h j k;exact jJ (jJ (jJ (jJ (jJ (jJ h q) q) q) q) q) q
theorem bZu(v:Bv)(l:List Nat)(w:Bk)(h:BR w v l):Calls cZ 34 #[v] w fun e w'=>∃ v',e = .returned v'/\w'.ownsRow w.heap.size 5 1 v' l.length (bys l)/\Bw w.heap.size w w':=by
 obtain⟨A,c,rfl,hs,hc,f,hn,_⟩:=h;have ae:∀ (w:Bk) (a:Option Addr) (n c g i:Nat),(binOp .eql 31 (.slice a n c) (.slice none g i)).run cZ w = .ok (.bool a.isNone) w:=fun w a n c g i=>Lib.run_eql_slice_nil w 31 5 a n c g i underlying31;obtain⟨n,d⟩:=cX l.length;rw[d]at hs hc hn ⊢;rcases A with _ | ⟨b,o,sp⟩
 ·have m:c=0:=f rfl;subst m;have p:n=0:=(by omega);subst p;have q:l = []:=AX d;subst q;clear f hs hc hn d;go_in;go_wp2;go_ret;exact⟨_,rfl,AK _ _ _ _,Av _ _⟩
 ·have r:=cQ (hs.below (w':=w.alloc (.cells #[] 5)) ((Av _ _).alloc (Ax _) _) (Ax _));have af:=hn.1;clear hs f hn d;go_in;go_wp2_with (at_builtin;refine qY _ rfl _ (.tmp 6) 31 rfl w.heap.size 5 _ 1 underlying31 cQm rfl _ 0 [] rfl (Ae w #[] 0 (Ax _) (by unfold maxLen;omega) rfl) _ n c _ rfl r.out (bXe _) (by unfold maxLen;omega) (by omega) (by simp) ?_);rintro v' w' j k;have s:=cQ (by simpa using j:w'.ownsRow w.heap.size 5 1 v' n (bys l));have t:=cQ k;clear j k;go_wp2;go_ret;exact⟨v',rfl,s.out,((Av _ _).alloc (Ax _) _).trans t.out⟩
theorem bQt(g:Array Bv)(W:Bk)(h:Nat)(a b c d e f:Bv)(h2:g.getD 2 undef = .pointer (some ⟨h,0,none⟩))(k:Blk W h 33 #[a,b,c,d,e,f]):
  (results Tryd.f21 g).run cZ W = .ok (.agg #[a,b,c,d,e,f]) W:=by
 obtain⟨i,j,l,m,n,o⟩:=eX k;simp only[Array.getD_eq_getD_getElem?]at h2;simp[results,results21,go_sem,h2,i,j,l,m,n,o]
theorem aKp(va:Bv)(s:RawS)(w:Bk)(h:StV w va s):Calls cZ 21 #[va] w (cJp s w):=by
 obtain⟨a,g,i,l,rfl,h1,h2,h3,h4⟩:=h;obtain⟨A1,c1,rfl⟩:=h1.shape;obtain⟨W,X,rfl⟩:=h2.shape;obtain⟨O,P,rfl⟩:=h3.shape;obtain⟨I,J,rfl⟩:=h4.shape;obtain⟨m1,ai⟩:∃ k,s.mem.length=k:=⟨_,rfl⟩;obtain⟨m2,aj⟩:∃ k,s.globals.length=k:=⟨_,rfl⟩;obtain⟨f,ak⟩:∃ k,s.input.length=k:=⟨_,rfl⟩;obtain⟨m,al⟩:∃ k,s.log.length=k:=⟨_,rfl⟩;rw[ai]at h1;rw[aj]at h2;rw[ak]at h3;rw[al]at h4;have an:=cQ ai;have ao:=cQ aj;have aq:=cQ ak;have ar:=cQ al;rw[ai,aj,ak,al];have L:=cQ (show CpB w (.slice A1 m1 c1) (.int .i64 s.most) (.slice W m2 X) (.int .i64 s.fuel) (.slice O f P) (.slice I m J) ((w.alloc (.cells #[.slice A1 m1 c1,.int .i64 s.most,.slice W m2 X,.int .i64 s.fuel,.slice O f P,.slice I m J] 33)).alloc (.cells #[.slice none 0 0,.int .i64 0,.slice none 0 0,.int .i64 0,.slice none 0 0,.slice none 0 0] 33))from⟨(Blk.new _ _ _).alloc _,Blk.newAt _ (N:=w.heap.size+1) _ _ (by simp),vJ _ _ _⟩);have az:=cQ h1;have aA:=cQ h2;have aB:=cQ h3;have aC:=cQ h4;clear h1 h2 h3 h4 ai aj ak al;go_in;go_upto_region 1 with fail;obtain⟨w1,au⟩:=cX ((w.alloc (.cells #[.slice A1 m1 c1,.int .i64 s.most,.slice W m2 X,.int .i64 s.fuel,.slice O f P,.slice I m J] 33)).alloc (.cells #[.slice none 0 0,.int .i64 0,.slice none 0 0,.int .i64 0,.slice none 0 0,.slice none 0 0] 33));rw[au]at L ⊢;clear au;have c:=cQ (show CpB w _ _ _ _ _ _ w1.drew from⟨L.out.k.drew,L.out.z.drew,L.out.b.drew⟩);obtain⟨n,r1,o,r3,p,q⟩:=eX c.out.k;refine iJ (fun _=>True) (fun w'=>w'.cell? ⟨w.heap.size,0,none⟩=some (.slice A1 m1 c1)/\w'.cell? ⟨w.heap.size,2,none⟩=some (.slice W m2 X)/\w'.cell? ⟨w.heap.size,4,none⟩=some (.slice O f P)/\w'.cell? ⟨w.heap.size,5,none⟩=some (.slice I m J)) 13 (by kernel_rfl) trivial ⟨n,o,p,q⟩ (fun d=>?_);clear n r1 o r3 p q;refine wtk 0 d (fun d=>?_);refine nZ (i:=1) (v:=?v1) rfl (by kernel_rfl) (by kernel_rfl) (by kernel_rfl) (fun _ _ _ h=>h) rfl (by kernel_rfl) (by kernel_rfl) (Or.inl ⟨by rfl,?hy1⟩) d (fun d=>?_)
 case hy1=>intro w Q;(try dsimp only at Q);go_simp;(try with_reducible rfl)
 try simp only[AQ,Aj,Az,Ak]
 refine wtk 3 d (fun d=>?_);refine nZ (i:=4) (v:=?v4) rfl (by kernel_rfl) (by kernel_rfl) (by kernel_rfl) (fun _ _ _ h=>h) rfl (by kernel_rfl) (by kernel_rfl) (Or.inl ⟨by rfl,?hy4⟩) d (fun d=>?_)
 case hy4=>intro w Q;(try dsimp only at Q);go_simp;(try with_reducible rfl)
 try simp only[AQ,Aj,Az,Ak]
 refine wtk 6 d (fun d=>?_);refine nZ (i:=7) (v:=?v7) rfl (by kernel_rfl) (by kernel_rfl) (by kernel_rfl) (fun _ _ _ h=>h) rfl (by kernel_rfl) (by kernel_rfl) (Or.inl ⟨by rfl,?hy7⟩) d (fun d=>?_)
 case hy7=>intro w Q;(try dsimp only at Q);go_simp;(try with_reducible rfl)
 try simp only[AQ,Aj,Az,Ak]
 refine wtk 9 d (fun d=>?_);refine nZ (i:=10) (v:=?v10) rfl (by kernel_rfl) (by kernel_rfl) (by kernel_rfl) (fun _ _ _ h=>h) rfl (by kernel_rfl) (by kernel_rfl) (Or.inl ⟨by rfl,?hy10⟩) d (fun d=>?_)
 case hy10=>intro w Q;(try dsimp only at Q);go_simp;(try with_reducible rfl)
 try simp only[AQ,Aj,Az,Ak]
 refine dQ (i:=2) (by kernel_rfl) rfl (fun K e=>?_);go_simp;refine(bZu (.slice A1 m1 c1) s.mem _ (az.out.below c.out.b (Ax _))).mono ?_;rintro en wa ⟨v1,rfl,o1,b1⟩;rw[an.out]at o1;obtain⟨r,t,rfl,_⟩:=cJ o1;have u:=cQ o1;have E1:=cQ (fun(j:Nat) (x:(Aw r m1 t).ownBlock=some j)=>(o1.lt j x).2);have F1:=cQ (fun(j:Nat) (x:(Aw r m1 t).ownBlock=some j)=>(o1.lt j x).1);have P1:=cQ b1;have c:=cQ (show CpB w _ _ _ _ _ _ wa from⟨c.out.k.below b1 c.out.k.lt,c.out.z.below b1 c.out.z.lt,c.out.b.trans (b1.mono c.out.b.size)⟩);obtain⟨n,_,o,_,p,q⟩:=eX c.out.k;refine e.out _ _ ⟨trivial,fun _=>⟨n,o,p,q⟩⟩ (fun d=>?_);clear e K o1 b1 n o p q
 try simp only[AQ,Aj,Az,Ak]
 refine wtk 12 d (fun d=>?_);refine dQ (i:=5) (by kernel_rfl) rfl (fun K e=>?_);go_simp;refine(mW (.slice W m2 X) s.globals _ (aA.out.below c.out.b (Ax _))).mono ?_;rintro en wb ⟨v2,rfl,o2,Y⟩;rw[ao.out]at o2;obtain⟨y,A,rfl,_⟩:=cJ o2;have u:=cQ (dJ u.out Y (Ax _));have B:=cQ o2;have E2:=cQ (fun(j:Nat) (x:(Aw y m2 A).ownBlock=some j)=>(o2.lt j x).2);have F2:=cQ (fun(j:Nat) (x:(Aw y m2 A).ownBlock=some j)=>(o2.lt j x).1);have P2:=cQ Y;have c:=cQ (show CpB w _ _ _ _ _ _ wb from⟨c.out.k.below Y c.out.k.lt,c.out.z.below Y c.out.z.lt,c.out.b.trans (Y.mono c.out.b.size)⟩);obtain⟨n,_,o,_,p,q⟩:=eX c.out.k;refine e.out _ _ ⟨trivial,fun _=>⟨n,o,p,q⟩⟩ (fun d=>?_);clear e K o2 Y n o p q
 try simp only[AQ,Aj,Az,Ak]
 refine dQ (i:=8) (by kernel_rfl) rfl (fun K e=>?_);go_simp;refine(mW (.slice O f P) s.input _ (aB.out.below c.out.b (Ax _))).mono ?_;rintro en wc ⟨v3,rfl,o3,R⟩;rw[aq.out]at o3;obtain⟨C,D,rfl,_⟩:=cJ o3;have u:=cQ (dJ u.out R (Ax _));have B:=cQ (dJ B.out R (Ax _));have G:=cQ o3;have E3:=cQ (fun(j:Nat) (x:(Aw C f D).ownBlock=some j)=>(o3.lt j x).2);have F3:=cQ (fun(j:Nat) (x:(Aw C f D).ownBlock=some j)=>(o3.lt j x).1);have P3:=cQ R;have c:=cQ (show CpB w _ _ _ _ _ _ wc from⟨c.out.k.below R c.out.k.lt,c.out.z.below R c.out.z.lt,c.out.b.trans (R.mono c.out.b.size)⟩);obtain⟨n,_,o,_,p,q⟩:=eX c.out.k;refine e.out _ _ ⟨trivial,fun _=>⟨n,o,p,q⟩⟩ (fun d=>?_);clear e K o3 R n o p q
 try simp only[AQ,Aj,Az,Ak]
 refine dQ (i:=11) (by kernel_rfl) rfl (fun K e=>?_);go_simp;refine(mW (.slice I m J) s.log _ (aC.out.below c.out.b (Ax _))).mono ?_;rintro en wd ⟨v4,rfl,o4,M⟩;rw[ar.out]at o4;obtain⟨E,F,rfl,_⟩:=cJ o4;have u:=cQ (dJ u.out M (Ax _));have B:=cQ (dJ B.out M (Ax _));have G:=cQ (dJ G.out M (Ax _));have H:=cQ o4;have E4:=cQ (fun(j:Nat) (x:(Aw E m F).ownBlock=some j)=>(o4.lt j x).2);have F4:=cQ (fun(j:Nat) (x:(Aw E m F).ownBlock=some j)=>(o4.lt j x).1);have P4:=cQ M;have c:=cQ (show CpB w _ _ _ _ _ _ wd from⟨c.out.k.below M c.out.k.lt,c.out.z.below M c.out.z.lt,c.out.b.trans (M.mono c.out.b.size)⟩);obtain⟨n,_,o,_,p,q⟩:=eX c.out.k;refine e.out _ _ ⟨trivial,fun _=>⟨n,o,p,q⟩⟩ (fun d=>?_);clear e K o4 M n o p q
 try simp only[AQ,Aj,Az,Ak]
 have q0:=(eX c.out.k).1;have f0:=frz c.out.k 0;refine dQ (i:=13) (by kernel_rfl) rfl (fun K e=>?_);go_simp;obtain⟨aw,S⟩:=cX (wd.setCell ⟨w.heap.size,0,none⟩ (.slice r m1 t));have u:=cQ (S ▸ eY u.out c.out.k (by decide));have B:=cQ (S ▸ eY B.out c.out.k (by decide));have G:=cQ (S ▸ eY G.out c.out.k (by decide));have H:=cQ (S ▸ eY H.out c.out.k (by decide));have c:=cQ (show CpB w (.slice r m1 t) (.int .i64 s.most) (.slice W m2 X) (.int .i64 s.fuel) (.slice O f P) (.slice I m J) aw from S ▸ c.out.next (World.grownBy.refl _ _) 0 (.slice r m1 t) rfl);rw[S];refine e.out _ _ (SD.after trivial (by rfl)) (fun d=>?_);clear e K S q0 f0
 try simp only[AQ,Aj,Az,Ak]
 refine wtk 14 d (fun d=>?_);have q1:=(eX c.out.k).2.2.1;have f1:=frz c.out.k 2;refine dQ (i:=15) (by kernel_rfl) rfl (fun K e=>?_);go_simp;obtain⟨ax,T⟩:=cX (aw.setCell ⟨w.heap.size,2,none⟩ (.slice y m2 A));have u:=cQ (T ▸ eY u.out c.out.k (by decide));have B:=cQ (T ▸ eY B.out c.out.k (by decide));have G:=cQ (T ▸ eY G.out c.out.k (by decide));have H:=cQ (T ▸ eY H.out c.out.k (by decide));have c:=cQ (show CpB w (.slice r m1 t) (.int .i64 s.most) (.slice y m2 A) (.int .i64 s.fuel) (.slice O f P) (.slice I m J) ax from T ▸ c.out.next (World.grownBy.refl _ _) 2 (.slice y m2 A) rfl);rw[T];refine e.out _ _ (SD.after trivial (by rfl)) (fun d=>?_);clear e K T q1 f1
 try simp only[AQ,Aj,Az,Ak]
 refine wtk 16 d (fun d=>?_);have q2:=(eX c.out.k).2.2.2.2.1;have f2:=frz c.out.k 4;refine dQ (i:=17) (by kernel_rfl) rfl (fun K e=>?_);go_simp;obtain⟨ay,U⟩:=cX (ax.setCell ⟨w.heap.size,4,none⟩ (.slice C f D));have u:=cQ (U ▸ eY u.out c.out.k (by decide));have B:=cQ (U ▸ eY B.out c.out.k (by decide));have G:=cQ (U ▸ eY G.out c.out.k (by decide));have H:=cQ (U ▸ eY H.out c.out.k (by decide));have c:=cQ (show CpB w (.slice r m1 t) (.int .i64 s.most) (.slice y m2 A) (.int .i64 s.fuel) (.slice C f D) (.slice I m J) ay from U ▸ c.out.next (World.grownBy.refl _ _) 4 (.slice C f D) rfl);rw[U];refine e.out _ _ (SD.after trivial (by rfl)) (fun d=>?_);clear e K U q2 f2
 try simp only[AQ,Aj,Az,Ak]
 refine wtk 18 d (fun d=>?_);have q3:=(eX c.out.k).2.2.2.2.2;have f3:=frz c.out.k 5;refine dQ (i:=19) (by kernel_rfl) rfl (fun K e=>?_);go_simp;obtain⟨aD,V⟩:=cX (ay.setCell ⟨w.heap.size,5,none⟩ (.slice E m F));have u:=cQ (V ▸ eY u.out c.out.k (by decide));have B:=cQ (V ▸ eY B.out c.out.k (by decide));have G:=cQ (V ▸ eY G.out c.out.k (by decide));have H:=cQ (V ▸ eY H.out c.out.k (by decide));have c:=cQ (show CpB w (.slice r m1 t) (.int .i64 s.most) (.slice y m2 A) (.int .i64 s.fuel) (.slice C f D) (.slice E m F) aD from V ▸ c.out.next (World.grownBy.refl _ _) 5 (.slice E m F) rfl);rw[V];refine e.out _ _ (SD.after trivial (by rfl)) (fun d=>?_);clear e K V q3 f3
 try simp only[AQ,Aj,Az,Ak]
 refine iZ (by kernel_rfl) ?_ _;clear d;obtain⟨n,r1,o,r3,p,q⟩:=eX c.out.k;have g0:=frz c.out.z 0;have g1:=frz c.out.z 1;have g2:=frz c.out.z 2;have g3:=frz c.out.z 3;have g4:=frz c.out.z 4;have g5:=frz c.out.z 5;obtain⟨p0,p1,p2,p3,p4,p5⟩:=eX c.out.z;have yz:=c.out.z.lt;have aE:=cQ (aJa c.out.z (.slice r m1 t) (.int .i64 s.most) (.slice y m2 A) (.int .i64 s.fuel) (.slice C f D) (.slice E m F));have aF:=cQ (aQd c.out.b (show w.heap.size<=w.heap.size+1 by omega) (.slice r m1 t) (.int .i64 s.most) (.slice y m2 A) (.int .i64 s.fuel) (.slice C f D) (.slice E m F));have H1:=cQ (nY u.out c.out.z (by decide) (.slice r m1 t) (.int .i64 s.most) (.slice y m2 A) (.int .i64 s.fuel) (.slice C f D) (.slice E m F));have H2:=cQ (nY B.out c.out.z (by decide) (.slice r m1 t) (.int .i64 s.most) (.slice y m2 A) (.int .i64 s.fuel) (.slice C f D) (.slice E m F));have H3:=cQ (nY G.out c.out.z (by decide) (.slice r m1 t) (.int .i64 s.most) (.slice y m2 A) (.int .i64 s.fuel) (.slice C f D) (.slice E m F));have H4:=cQ (nY H.out c.out.z (by decide) (.slice r m1 t) (.int .i64 s.most) (.slice y m2 A) (.int .i64 s.fuel) (.slice C f D) (.slice E m F));go_wp2_with fail;have z1:=P1.out.size;have z2:=P2.out.size;have z3:=P3.out.size;have z4:=P4.out.size;refine bodyPost_ret (bQt _ _ (w.heap.size+1) _ _ _ _ _ _ rfl aE.out) rfl ?_
 exact⟨.slice r m1 t,.slice y m2 A,.slice C f D,.slice E m F,rfl,by rw[an.out];exact eV H1.out L.out.b.size,by rw[ao.out];exact eV H2.out (AJ L.out.b.size P1.out.size),by rw[aq.out];exact eV H3.out (AJ L.out.b.size (AJ P1.out.size P2.out.size)),by rw[ar.out];exact eV H4.out (AJ L.out.b.size (AJ P1.out.size (AJ P2.out.size P3.out.size))),aF.out,
  fun k Z=>⟨fun h=>by have:=E2.out k Z;have:=F4.out k h;omega,fun h=>by have:=E2.out k Z;have:=F3.out k h;omega,fun h=>by have:=E1.out k h;have:=F2.out k Z;omega⟩,
  fun k Z=>⟨fun h=>by have:=E3.out k h;have:=F4.out k Z;omega,fun h=>by have:=E1.out k h;have:=F4.out k Z;omega⟩⟩
theorem aYe{p:RowsD}{n:Nat}{l:List Nat}{s:StD}{g:SigD}(hp:ProgP p)(hs:StOk p.env s)(hg:p.env.sigs[n]? = some g)(c:l.length=g.inn.length)(b:All64 l)(ad:s.log.length<=4096):MOk p (eJ p n l s):=by
 unfold eJ;by_cases hi:(n:Int)<p.env.imports
 ·rw[if_pos hi];exact { frs:=fun f hf=>(by cases hf),chain:=trivial,depth:=Aa _,st:=hs,o64:=jV,olen:=Aa _,live:=fun _ h=>(by cases h),nf:=fun _=>rfl,fst:=fun d a h=>(by injection h with h;injection h with h1 h2;subst h1;subst h2;exact⟨hi,b,g,hg,c⟩),fin:=fun h=>(by cases h),go:=fun _=>⟨rfl,rfl⟩,log:=(by show s.log.length<=4096+9*0;omega) }
 ·rw[if_neg hi];have h1:=(List.getElem?_eq_some_iff.1 hg).1;have h2:=hp.len;have h3:=iX hp.env;obtain⟨q,hq⟩:∃ q,p.fns[n - p.env.imports.toNat]? = some q:=⟨_,Aq (by omega)⟩;have e:=(hp.row _ _ hq).1;simp only[hq,hg];exact { frs:=fun f hf=>(by rw[List.mem_singleton.1 hf];exact⟨hq,AZ Nat.one_pos e.n1,pJ _ _,aZl _ (kK _ _ b)⟩),chain:=trivial,depth:=(by simp),st:=hs,o64:=jV,olen:=Aa _,live:=fun _ _ h=>(by cases h),nf:=fun h=>absurd rfl h,fst:=fun d a h=>(by cases h),fin:=fun h=>(by cases h),go:=fun _=>⟨rfl,rfl⟩,log:=(by show s.log.length<=4096+9*0;omega) }
theorem bKw{p:RowsD}{x:MaD}{f:FrD}{rest:List FrD}{c:CodeD}(A:ActD):(doM p x f rest c A).first=x.first:=by
 cases A with
 | go k=>rfl
 | vals l s=>rfl
 | trap e s=>rfl
 | ret l=>cases rest <;> rfl
 | call n=>
  unfold doM;by_cases h:16<=rest.length+1
  ·simp only[if_pos h,jK]
  ·simp only[if_neg h]
   cases p.fns[n - p.env.imports.toNat]? with
   | none=>rfl
   | some q=>cases p.env.sigs[n]? <;> rfl
theorem bQu{p:RowsD}(x:MaD):(dK p x).first=x.first:=by
 unfold dK
 split
 ·rfl
 ·unfold goM
  cases hf:x.first with
  | some q=>obtain⟨n,a⟩:=q;rfl
  | none=>
   simp only[hf]
   cases hs:x.st with
   | nil=>first | (simp only;done) | rfl
   | cons f rest=>
    simp only
    cases hc:f.r.code[f.k]? with
    | none=>first | exact hf | rfl
    | some c=>exact bKw _
theorem aVd{p:RowsD}:∀ (i:Nat) (x:MaD),(stN p i x).first=x.first
 | 0,_=>rfl
 | i+1,x=>(aVd i (dK p x)).trans (bQu x)
theorem aYf(p:RowsD)(n:Nat)(l:List Nat)(s:StD):(eJ p n l s).steps=0:=by
 unfold eJ
 split
 ·rfl
 ·split <;> rfl
theorem bYz{p:RowsD}{n dc wd:Nat}{g:SigD}{a l:List Nat}{s s2:StD}{e2:Int}(hp:ProgP p)(b:∀ (i:Nat) q,p.fns[i]? = Option.some q->∀ c∈q.code,c.n<18446744073709551616)(hs:StOk p.env s)(hg:p.env.sigs[n]? = some g)(d:a.length=g.inn.length)(e:All64 a)(f:s.log.length<=4096)(h:CDid p 8 0 n g a s s2 e2 dc wd l):
  (∀ i,i<=gQ p n dc->MOk p (stN p i (eJ p n a s)))/\(∀ i,i<gQ p n dc->(stN p i (eJ p n a s)).over=false)/\(stN p (gQ p n dc) (eJ p n a s)).over=true/\(∀ i,i<=gQ p n dc->(stN p i (eJ p n a s)).steps=i)/\(∀ i,(stN p i (eJ p n a s)).first≠none->(eJ p n a s).first≠none):=by
 obtain⟨h1,h2,_⟩:=aXc hg h;refine⟨fun i _=>aYj hp b i (aYe hp hs hg d e f),h2,by rw[h1],fun i hi=>?_,fun i hf=>by rw[aVd]at hf;exact hf⟩;rw[aVi i (fun j k=>h2 j (AZ k hi)),aYf,Af]
end Go.Proofs.YtabibkpfgmolkaaDoor
namespace Go.Proofs.YtabibkpfgmolkaaDoor
end Go.Proofs.YtabibkpfgmolkaaDoor
namespace Go.Proofs.YtabibkpfgmolkaaDoor
section
open Go.Lib
end
end Go.Proofs.YtabibkpfgmolkaaDoor
namespace Go.Proofs.YtabibkpfgmolkaaDoor
end Go.Proofs.YtabibkpfgmolkaaDoor
namespace Go.Proofs.YtabibkpfgmolkaaDoor
section
open Go.Lib
end
end Go.Proofs.YtabibkpfgmolkaaDoor
namespace Go.Proofs.YtabibkpfgmolkaaDoor
end Go.Proofs.YtabibkpfgmolkaaDoor
namespace Go.Proofs.YtabibkpfgmolkaaDoor
end Go.Proofs.YtabibkpfgmolkaaDoor
namespace Go.Proofs.YtabibkpfgmolkaaDoor
end Go.Proofs.YtabibkpfgmolkaaDoor
namespace Go.Proofs.YtabibkpfgmolkaaDoor
end Go.Proofs.YtabibkpfgmolkaaDoor
namespace Go.Proofs.YtabibkpfgmolkaaDoor
end Go.Proofs.YtabibkpfgmolkaaDoor
namespace Go.Proofs.YtabibkpfgmolkaaDoor
end Go.Proofs.YtabibkpfgmolkaaDoor
namespace Go.Proofs.YtabibkpfgmolkaaDoor
end Go.Proofs.YtabibkpfgmolkaaDoor
namespace Go.Proofs.YtabibkpfgmolkaaDoor
end Go.Proofs.YtabibkpfgmolkaaDoor
namespace Go.Proofs.YtabibkpfgmolkaaDoor
section
variable {H:Type} {enc:By×Bv->H} {w:Bk}
theorem cKe:iQ enc cZ w 27 (fun w cs (l:List RowD)=>∃ v,cs = [v]/\Structs 5 RowC w v l):=by
 intro fuel cs x h a;obtain⟨l,v,e,hs,_⟩:=lW (enc:=enc) (w:=w) underlying27 (show cZ.cellsOf 45=5 by kernel_rfl) (by omega) (show 1<=cZ.bytesOf 45 by decide +kernel) cJf fuel cs x h a;exact⟨l,v,e,hs⟩
theorem cen:cZ.cellsOf 26=5:=by kernel_rfl
theorem crs:cZ.cellsOf 27=1:=by kernel_rfl
theorem rows_open{r:Reach}{k:Nat}{v:Bv}{d:DataW H}{q:List MemPlace}(hv:Value.okWide cZ w r k 29 v)(h:DataW.Trod enc cZ w 0 (fun _=>true) true 29 v d q)(hs:zZ cZ 29 d):∃ p,RowsV w v p:=by
 obtain⟨cs,rfl⟩:=bKf (t:=29) (fs:=_) underlying29 hv;obtain⟨fuel,hf⟩:=h;obtain⟨e,g⟩:=dY underlying29 hf hs 0 0 5 26 rfl cJe rfl rfl cen;obtain⟨l,v1,f,m⟩:=dY underlying29 hf hs 1 5 1 27 rfl cKe rfl rfl crs;obtain⟨_,_,_,_,n,_,_⟩:=DataW.trod_struct underlying29 hf;have i:(Bz cs).cells.toList.length=6:=n.trans (by kernel_rfl);have hc:(Bz cs).cells.toList=cs.toList:=rfl;rw[hc]at g f i
 match j:cs.toList,i with
 | [x0,x1,x2,x3,x4,x5],_=>
  rw[j]at g f;obtain⟨a,b,c,hq,h1,h2,o⟩:=g;simp at hq f;obtain⟨rfl,rfl,rfl,rfl,rfl⟩:=hq;subst f;refine⟨⟨e,l⟩,x0,x2,x3,x5,?_,h1,h2,o,m⟩
  have:cs=#[x0,.int .i64 e.imports,x2,x3,.bool e.mem,x5]:=by
   apply Array.ext';rw[j]
  rw[this]
end
section
open Go.ChangeShapes Go.WideShapes Go.Deep
structure AskD where
 n:Int
 args:List Nat
 s:RawS
def aYq(w:Bk)(v:Bv)(q:AskD):Prop:=∃ a m i g j h l,v = .agg #[.int .i64 q.n,a,m,.int .i64 i,g,.int .i64 j,h,l] /\ -9223372036854775808<=q.n/\q.n<=9223372036854775807/\UR w a q.args/\StV w (.agg #[m,.int .i64 i,g,.int .i64 j,h,l]) q.s/\i=q.s.most/\j=q.s.fuel
section
variable {H:Type} {enc:By×Bv->H} {P:Program} {w:Bk}
theorem aKc{t e:By}{k:IntKind}{by_ M:Nat}(m:P.underlying t=some (.slice e))(he:P.underlying e=some (.int k))(o:P.cellsOf e=1)(p:P.bytesOf e=by_)(ag:1<=by_)(q:∀ a:Int,(Lit.int k a).wf=true->0<=a/\a<(M:Int)):
  iQ enc P w t (fun w cs (l:List Nat)=>∃ A c,cs = [.slice A l.length c]/\Src w A l.length (l.map fun(n:Nat)=>Ah k (n:Int))/\l.length<=c/\(A=none->c=0)/\c*by_<=140737488351232/\∀ x∈l,x<M):=by
 intro fuel cs x h r;obtain⟨l,v,rfl,⟨A,c,vs,rfl,h1,h2,h3,h4,s,b,d⟩,u⟩:=lW (enc:=enc) (w:=w) m o (by omega) (by omega) (xX he) fuel cs x h r;have f:=u _ _ _ rfl;rw[p]at f;have g:∀ i (hi:i<l.length),0<=l[i]/\l[i]<(M:Int):=fun i hi=>q _ (b i _ _ (Aq (by omega)) (Aq hi)).2;refine⟨l.map Int.toNat,A,c,by rw[AW],?_,by rw[AW];exact h1,h2,f,fun x z=>?_⟩
 ·rw[AW]
  have B:vs.flatten=(l.map Int.toNat).map fun(n:Nat)=>Ah k (n:Int):=by
   apply List.ext_getElem?;intro i;by_cases hi:i<l.length
   ·have hv:vs[i]? = some (vs[i]'(by omega)):=Aq (by omega);have C:=(b i _ _ hv (Aq hi)).1;have:=rX (j:=0) s hv (by rw[C];rfl);rw[Bx,Nat.add_zero]at this;rw[this];have D:=(g i hi).1;simp[Ag,Aq hi,Int.toNat_of_nonneg D]
   ·have E:=d.1;rw[AY (by rw[E];omega),AY (by simp;omega)]
  rw[<-B]
  simpa using d
 ·obtain⟨y,F,rfl⟩:=List.mem_map.1 z;obtain⟨i,hi,rfl⟩:=List.mem_iff_getElem.1 F;have:=g i hi;omega
end
end
section
variable {H:Type} {enc:By×Bv->H} {w:Bk}
theorem aZd:iQ enc cZ w 30 (fun w cs (l:List Nat)=>∃ v,cs = [v]/\UR w v l):=by
 intro fuel cs x h b;obtain⟨l,A,c,rfl,h1,h2,d,h4,e⟩:=aKc (enc:=enc) (w:=w) (k:=.u64) (by_:=8) (M:=18446744073709551616) underlying30 underlying62 (by kernel_rfl) (by kernel_rfl) (by omega) (fun a ha=>aJf ha) fuel cs x h b;exact⟨l,_,rfl,A,c,rfl,h1,h2,d,⟨by omega,by omega⟩,e⟩
theorem cJs:iQ enc cZ w 31 (fun w cs (l:List Nat)=>∃ v,cs = [v]/\BR w v l):=by
 intro fuel cs x h b;obtain⟨l,A,c,rfl,h1,h2,d,h4,e⟩:=aKc (enc:=enc) (w:=w) (k:=.u8) (by_:=1) (M:=256) underlying31 underlying5 (by kernel_rfl) (by kernel_rfl) (by omega) (fun a ha=>bJl ha) fuel cs x h b;exact⟨l,_,rfl,A,c,rfl,h1,h2,d,⟨by omega,by omega⟩,e⟩
theorem cWc:cZ.cellsOf 31=1:=by kernel_rfl
theorem aWm:cZ.cellsOf 30=1:=by kernel_rfl
theorem cst:cZ.cellsOf 33=6:=by kernel_rfl
theorem cQn:iQ enc cZ w 33 (fun w cs (s:RawS)=>∃ a g i l,cs = [a,.int .i64 s.most,g,.int .i64 s.fuel,i,l]/\BR w a s.mem/\UR w g s.globals/\UR w i s.input/\UR w l s.log):=by
 intro fuel cs x h e;obtain⟨p,v0,j,q⟩:=dY underlying33 h e 0 0 1 31 rfl cJs rfl rfl cWc;obtain⟨r,k,i1⟩:=dY underlying33 h e 1 1 1 3 rfl xY rfl rfl ci;obtain⟨t,v2,e2,u⟩:=dY underlying33 h e 2 2 1 30 rfl aZd rfl rfl aWm;obtain⟨l3,m,i3⟩:=dY underlying33 h e 3 3 1 3 rfl xY rfl rfl ci;obtain⟨l4,v4,n,v⟩:=dY underlying33 h e 4 4 1 30 rfl aZd rfl rfl aWm;obtain⟨l5,v5,o,y⟩:=dY underlying33 h e 5 5 1 30 rfl aZd rfl rfl aWm;obtain⟨_,_,_,_,z,_,_⟩:=DataW.trod_struct underlying33 h;have A:cs.length=6:=z.trans (by kernel_rfl)
 match cs,A with
 | [a,b,c,d,f,g],_=>
  simp at j k e2 m n o;subst j;subst k;subst e2;subst m;subst n;subst o;exact⟨⟨p,r,t,l3,l4,l5⟩,_,_,_,_,rfl,q,u,v,y⟩
end
section
open Go.ChangeShapes Go.WideShapes Go.ChangeAt Go.WideMaps Go.WideElems
theorem own:ownKnob cZ.godebug=none:=by kernel_rfl
theorem cVc : cZ.globalNamed "math/bits.deBruijn64tab" = some 0 := by kernel_rfl
theorem cVd : cZ.globalNamed "math/bits.deBruijn32tab" = some 1 := by kernel_rfl
theorem cZr:cZ.underlying 166=some (.array 32 5):=by kernel_rfl
theorem cZs:cZ.underlying 165=some (.array 64 5):=by kernel_rfl
abbrev laid2 : List (String × DataW Unit) := [("math/bits.deBruijn32tab", Rows.laid_math_bits_deBruijn32tab), ("math/bits.deBruijn64tab", Rows.laid_math_bits_deBruijn64tab)]
theorem door_met(os:Os)(args:Array Bv):laidMetH cZ laid2 ((World.doorLaid cZ 400 os).forCall (fun _ _=>0) ⟨#[],args,[]⟩).memory:=
 laidMetH_of_parts3 (fuel:=8) (laidMet_of_run' 8 (by kernel_rfl) (by kernel_rfl)) (by kernel_rfl) (by kernel_rfl)
theorem cJy{H:Type}:(Rows.laid_math_bits_deBruijn64tab:DataW H) = .agg (Lib.deBruijn64tab.map fun n:Nat=>.lit (.int .u8 (n:Int))):=by rfl
theorem cJz{H:Type}:(Rows.laid_math_bits_deBruijn32tab:DataW H) = .agg (Lib.deBruijn32tab.map fun n:Nat=>.lit (.int .u8 (n:Int))):=by rfl
theorem bWi{H:Type}{enc:By×Bv->H}{W:Bk}{base:Nat}{c:Nat->Bool}{held:Bool}{fuel n:Nat}{T e:By}{cs:List Bv}{l:List Nat}{ps:List MemPlace}(d:cZ.underlying T=some (.array n e))(he:cZ.underlying e=some (.int .u8))(hc:cZ.cellsOf e=1)
  (hl:l.length=n) (h:DataW.trod enc cZ W base c held fuel T cs=some (.agg (l.map fun n:Nat=>.lit (.int .u8 (n:Int))),ps)):∀ j,j<n->cs[j]? = some (.int .u8 ((l.getD j 0:Nat):Int)):=by
 obtain⟨f,m,_,a,_,ae,g⟩:=DataW.trod_array d h;intro j i;have b:=g j i;rw[hc,Bx,Aq (by omega)]at b;obtain⟨k,o,e2,_⟩:=DataW.trod_int he b;simp only[Prod.mk.injEq,DataW.agg.injEq]at a;have h1:=congrArg (fun z=>z[j]?) a.1;simp only[Ag]at h1;rw[Aq (show j<l.length by omega),Aq (show j<f.length by omega),e2]at h1;simp at h1
 have h2:cs[j]? = some (.int .u8 k):=by
  have:=congrArg List.head? o;rw[List.head?_take,if_neg (by decide),List.head?_drop]at this;exact this
 rw[h2,List.getD_eq_getElem?_getD,Aq (show j<l.length by omega),<-h1];rfl
theorem of_laid{W:Bk}(h:laidMetH cZ laid2 W):Tabs W:=by
 rw[MakeChecks.laidMetH_plain _ _ _ (by kernel_rfl)]at h;obtain⟨ps,⟨g0,t0,ak,f0,p0,q0,b,i,k,c,⟨g1,t1,al,f1,p1,q1,d,l,m,e,_,_⟩,_⟩,_,_⟩:=h;obtain rfl:=Option.some.inj (cVd.symm.trans b);obtain rfl:=Option.some.inj (cVc.symm.trans d)
 have o:(cZ.globals[1]?).map (·.type)=some 166:=by kernel_rfl
 have p:(cZ.globals[0]?).map (·.type)=some 165:=by kernel_rfl
 obtain rfl:=Option.some.inj (o.symm.trans i);obtain rfl:=Option.some.inj (p.symm.trans l);simp only[cJz]at c;simp only[cJy]at e;have q:=bWi (n:=32) cZr underlying5 (by kernel_rfl) (by decide) c;have c1:=bWi (n:=64) cZs underlying5 (by kernel_rfl) (by decide) e
 have f:TabAt 1 Lib.deBruijn32tab W:=fun j a=>by
  rw[Bj b k j]
  simpa using q j a
 have g:TabAt 0 Lib.deBruijn64tab W:=fun j a=>by
  rw[Bj d m j]
  simpa using c1 j a
 refine⟨g,f,?_⟩;have r:=(aQp (f 0 (by decide))).2;have s:=(aQp (g 0 (by decide))).2;simp only at r s;omega
end
end Go.Proofs.YtabibkpfgmolkaaDoor

/- Lemmas for the claim, part 12. Conditions: none. -/
import Derived.Test.YtabibkpfgmolkaaGreatDoorPm04
import Derived.Deep.DeepCutAuto
import Derived.Deep.RegionWith
set_option maxRecDepth 100000
set_option maxHeartbeats 16000000
set_option linter.unusedVariables false
set_option linter.unusedSimpArgs false
open Go.Lib renaming hid→fQ
open Go.Proofs.Tryz renaming prog→fZ
open Go.RowKit
open List renaming getElem?_eq_getElem→Aj,take_succ_eq_append_getElem→Ax,take_of_length_le→Az,mem_of_getElem?→Ak,getElem?_eq_none→Aw,mem_of_find?_eq_some→Ay,find?_some→AJ
open Nat renaming le_refl→Aq
open Go.RowKit.Below renaming drew→Av
open Go renaming World→AQ,Value→AX,Calls→AZ
namespace Go.Proofs.YtabibkpfgmolkaaGreatDoor
variable {l:List Int}{n j k:Nat}{x op:Int}{w:AQ}
theorem cWh:(fZ.info? 4).map (fun i=>(i.zero,i.size,i.bytes))=some (some (.bool false),1,1):=by kernel_rfl
end Go.Proofs.YtabibkpfgmolkaaGreatDoor
namespace Go.Proofs.YtabibkpfgmolkaaGreatDoor
variable {l:List Int}{n j k:Nat}{x op:Int}{w:AQ}
end Go.Proofs.YtabibkpfgmolkaaGreatDoor
namespace Go.Proofs.YtabibkpfgmolkaaGreatDoor
variable {l:List Int}{n j k:Nat}{x op:Int}{w:AQ}
theorem cWe{y:Int}(h:l[j]? = some x):y∈l.take (j+1)↔y∈l.take j\/y=x:=by
 obtain⟨a,e⟩:=List.getElem?_eq_some_iff.1 h;rw[Ax a,e];simp
theorem eYc{y:Int}(h:l.length<=j):y∈l.take j↔y∈l:=by rw[Az h]
theorem bXk{n:Int}(h:within n l=true)(a:x∈l):0<=x/\x<n:=by
 have:=List.all_eq_true.1 h x a
 simpa using this
def LL(w:AQ)(v:AX)(P:List (List Int)):Prop:=∃ A c vs,v = .slice A P.length c/\Src w A P.length vs/\∀ (i:Nat) u p,vs[i]? = some u->P[i]? = some p->IR w u p
theorem cQt(w:AQ)(a b:Nat):(w.drewN a).drewN b=w.drewN (a+b):=by
 simp[World.drewN];omega
def lA:List (List Int):=[[],[],[0],[1]]
end Go.Proofs.YtabibkpfgmolkaaGreatDoor
namespace Go.Proofs.YtabibkpfgmolkaaGreatDoor
variable {l:List Int}{n j k:Nat}{x op:Int}{w:AQ}
def lW(n:Int)(l:List Int)(u:Bool):Bool:=within n l && (!u || decide l.Nodup)
theorem bQc{n:Int}(a:l[k]? = some x)(h:within n (l.take k)=true)(b:0<=x)(h1:x<n):within n (l.take (k+1))=true:=by
 obtain⟨c,e⟩:=List.getElem?_eq_some_iff.1 a;rw[Ax c,e];unfold within at h ⊢;rw[List.all_append,h];simp;exact⟨b,h1⟩
theorem aKb{n:Int}(a:x∈l)(h:¬(0<=x/\x<n)):within n l=false:=by
 rw[Bool.eq_false_iff];intro b;exact h (bXk b a)
theorem cZu(d:l[k]? = some x)(h:(l.take k).Nodup)(hn:x ∉ l.take k):(l.take (k+1)).Nodup:=by
 obtain⟨f,e⟩:=List.getElem?_eq_some_iff.1 d;rw[Ax f,e,List.nodup_append];exact⟨h,by simp,fun a ha b c e2=>by simp at c;subst c;rw[e2]at ha;exact hn ha⟩
theorem dJw(a:l[j]? = some x)(b:l[k]? = some x)(h:j<k):decide l.Nodup=false:=by
 rw[decide_eq_false_iff_not];intro hn;obtain⟨h1,c⟩:=List.getElem?_eq_some_iff.1 a;obtain⟨h2,e2⟩:=List.getElem?_eq_some_iff.1 b;exact(List.pairwise_iff_getElem.1 hn j k h1 h2 h) (c.trans e2.symm)
def eZq(b:Bool)(w:AQ)(en:Ending)(w':AQ):Prop:=en = .returned (.bool b)/\∃ m,w'=w.drewN m
theorem aZt(u:Bool)(p:Int)(v:AX)(l:List Int)(w:AQ)(hs:IR w v l)(L:l.length<=9223372036854775806):AZ fZ 80 #[v,.int .i64 p,.bool u] w (eZq (lW p l u) w):=by
 obtain⟨A,c,rfl⟩:=hs.shape;have q:=fQ hs;obtain⟨n,hn⟩:=fX l.length;rw[hn]at q L ⊢;have f:=fQ hn;clear hs hn;cases u
 all_goals
  go_in;go_wp2
 ·go_loopw [7] (fun i wr=>∃ k:Nat,k<=n/\i = .int .i64 k/\Hid (within p (l.take k)=true)/\Hid (∃ m,wr=w.drewN m)) (fun i _=>n - (intOf i).toNat)
  case atStart=>exact⟨0,by omega,rfl,fQ (by simp[within]),fQ ⟨0,rfl⟩⟩
  case round=>
   obtain⟨k,M,rfl,o,IM⟩:=hrel;obtain⟨m,rfl⟩:=IM.out;clear IM;by_cases t:k<n
   ·have z:decide ((k:Int)<n)=true:=(by simp;omega);have N:(k:Int)<n:=(by omega);obtain⟨x,d⟩:∃ x,l[k]? = some x:=⟨_,Aj (by rw[f.out];exact t)⟩;obtain⟨ab,O,rfl,P,Q⟩:=q.out.cell d;have b:=fQ d;clear d;by_cases e:x<0
    ·have B:decide (x<0)=true:=(by simp;omega);have a:=fQ (show lW p l false=false by unfold lW;rw[aKb (Ak b.out) (by omega)];rfl);clear e;go_wp2;go_ret;exact⟨by rw[a.out];rfl,_,rfl⟩
    ·have B:decide (x<0)=false:=(by simp;omega);by_cases h1:x<p
     ·have C:decide (p<=x)=false:=(by simp;omega);have a:=fQ (bQc b.out o.out (by omega) h1);clear e h1;go_wp2_with fail;go_loopw [8] (fun i wr=>i = .int .i64 0/\Hid (∃ m,wr=w.drewN m)) (fun _ _=>0)
      case atStart=>exact⟨rfl,fQ ⟨_,rfl⟩⟩
      case round=>
       obtain⟨rfl,IM⟩:=hrel;obtain⟨m2,rfl⟩:=IM.out;clear IM;by_cases D:0<k
       ·have E:decide (0<k)=true:=decide_eq_true D;have F:decide ((0:Int)<(k:Int))=true:=(by simp;omega);clear D;go_wp2;exact⟨⟨k+1,by omega,by simp,a,fQ ⟨_,rfl⟩⟩,by simp[intOf];omega⟩
       ·have E:decide (0<k)=false:=decide_eq_false D;have F:decide ((0:Int)<(k:Int))=false:=(by simp;omega);have r:k=0:=(by omega);subst r;go_wp2;exact⟨⟨0+1,by omega,by simp,a,fQ ⟨_,rfl⟩⟩,by simp[intOf];omega⟩
     ·have C:decide (p<=x)=true:=(by simp;omega);have a:=fQ (show lW p l false=false by unfold lW;rw[aKb (Ak b.out) (by omega)];rfl);clear e h1;go_wp2;go_ret;exact⟨by rw[a.out];rfl,_,rfl⟩
   ·have z:decide ((k:Int)<n)=false:=by simp;omega
    have a:=fQ (show lW p l false=true by
     have:=o.out;rw[Az (by rw[f.out];omega)]at this
     unfold lW;rw[this];rfl)
    go_wp2;go_ret;exact⟨by rw[a.out];rfl,_,rfl⟩
 ·go_loopw [7] (fun i wr=>∃ k:Nat,k<=n/\i = .int .i64 k/\Hid (within p (l.take k)=true)/\Hid ((l.take k).Nodup)/\Hid (∃ m,wr=w.drewN m)) (fun i _=>n - (intOf i).toNat)
  case atStart=>exact⟨0,by omega,rfl,fQ (by simp[within]),fQ (by simp),fQ ⟨0,rfl⟩⟩
  case round=>
   obtain⟨k,M,rfl,o,J,IM⟩:=hrel;obtain⟨m,rfl⟩:=IM.out;clear IM;by_cases t:k<n
   ·have z:decide ((k:Int)<n)=true:=(by simp;omega);have N:(k:Int)<n:=(by omega);obtain⟨x,d⟩:∃ x,l[k]? = some x:=⟨_,Aj (by rw[f.out];exact t)⟩;obtain⟨ab,O,rfl,P,Q⟩:=q.out.cell d;have b:=fQ d;clear d;by_cases e:x<0
    ·have B:decide (x<0)=true:=(by simp;omega);have a:=fQ (show lW p l true=false by unfold lW;rw[aKb (Ak b.out) (by omega)];rfl);clear e;go_wp2;go_ret;exact⟨by rw[a.out];rfl,_,rfl⟩
    ·have B:decide (x<0)=false:=(by simp;omega);by_cases h1:x<p
     ·have C:decide (p<=x)=false:=(by simp;omega);have a:=fQ (bQc b.out o.out (by omega) h1);clear e h1;go_wp2_with fail;go_loopw [8] (fun i wr=>∃ j:Nat,j<=k/\i = .int .i64 j/\Hid (x ∉ l.take j)/\Hid (∃ m,wr=w.drewN m)) (fun i _=>k - (intOf i).toNat)
      case atStart=>exact⟨0,by omega,rfl,fQ (by simp),fQ ⟨_,rfl⟩⟩
      case round=>
       obtain⟨j,hj,rfl,s,IM⟩:=hrel;obtain⟨m2,rfl⟩:=IM.out;clear IM;by_cases G:j<k
       ·have E:decide (j<k)=true:=decide_eq_true G;have F:decide ((j:Int)<(k:Int))=true:=(by simp;omega);have r:(j:Int)<n:=(by omega);obtain⟨y,H⟩:∃ y,l[j]? = some y:=⟨_,Aj (by rw[f.out];omega)⟩;obtain⟨ar,au,I,al,an⟩:=q.out.cell H;injection I with I;injection I with R e2;subst R;subst e2;have K:=fQ H;clear H;by_cases g:y=x
        ·have S:(y == x)=true:=(by simp[g]);have T:=fQ (show lW p l true=false by unfold lW;rw[dJw (g ▸ K.out) b.out G];simp);clear g;go_wp2_with fail;go_quiet (fail);go_wp2;go_ret;exact⟨by rw[T.out];rfl,_,cQt _ _ _⟩
        ·have S:(y == x)=false:=by simp[g]
         have U:=fQ (show x ∉ l.take (j+1) by
          rw[cWe K.out];rintro(h | h)
          ·exact s.out h
          ·exact g h.symm)
         clear g s;go_wp2_with fail;go_quiet (fail);go_wp2;exact⟨⟨j+1,by omega,by simp,U,fQ ⟨_,rfl⟩⟩,by simp[intOf];omega⟩
       ·have E:decide (j<k)=false:=decide_eq_false G;have F:decide ((j:Int)<(k:Int))=false:=(by simp;omega);have r:j=k:=(by omega);subst r;have V:=fQ (cZu b.out J.out s.out);clear s;go_wp2;exact⟨⟨j+1,by omega,by simp,a,V,fQ ⟨_,rfl⟩⟩,by simp[intOf];omega⟩
     ·have C:decide (p<=x)=true:=(by simp;omega);have a:=fQ (show lW p l true=false by unfold lW;rw[aKb (Ak b.out) (by omega)];rfl);clear e h1;go_wp2;go_ret;exact⟨by rw[a.out];rfl,_,rfl⟩
   ·have z:decide ((k:Int)<n)=false:=by simp;omega
    have a:=fQ (show lW p l true=true by
     have:=o.out;rw[Az (by rw[f.out];omega)]at this;have h2:=J.out;rw[Az (by rw[f.out];omega)]at h2
     unfold lW;rw[this,decide_eq_true h2];rfl)
    go_wp2;go_ret;exact⟨by rw[a.out];rfl,_,rfl⟩
theorem dJx(op:Int)(w:AQ):AZ fZ 82 #[.int .i64 op] w fun e w'=>e = .returned (.bool (decide (273<=op/\op<=277)))/\w=w':=by
 by_cases h1:273<=op
 ·by_cases h2:op<=277
  ·have a:=fQ (show decide (273<=op/\op<=277)=true from decide_eq_true ⟨h1,h2⟩);have b:decide (273<=op)=true:=decide_eq_true h1;have c:decide (op<=277)=true:=decide_eq_true h2;clear h1 h2;go_in;go_wp2;go_ret;exact⟨by rw[a.out];rfl,rfl⟩
  ·have a:=fQ (show decide (273<=op/\op<=277)=false from decide_eq_false (fun h=>h2 h.2));have b:decide (273<=op)=true:=decide_eq_true h1;have c:decide (op<=277)=false:=decide_eq_false h2;clear h1 h2;go_in;go_wp2;go_ret;exact⟨by rw[a.out];rfl,rfl⟩
 ·have a:=fQ (show decide (273<=op/\op<=277)=false from decide_eq_false (fun h=>h1 h.1));have b:decide (273<=op)=false:=decide_eq_false h1;clear h1;go_in;go_wp2;go_ret;exact⟨by rw[a.out];rfl,rfl⟩
def FmP(F:Option (List Int×List Int))(w:AQ)(en:Ending)(w':AQ):Prop:=
 ∃ (a vo:AX) (ok:Bool) (i o:List Int),en = .returned (.tuple #[a,vo,.bool ok])/\IR w' a i/\IR w' vo o/\(F=none->ok=false)/\(∀ x,F=some x->ok=true/\x=(i,o))/\Below w.heap.size w w'
theorem FmP.no{F:Option (List Int×List Int)}{w':AQ}{a vo:AX}{i o:List Int}(hF:F=none)(h1:IR w' a i)(h2:IR w' vo o)(b:Below w.heap.size w w'):FmP F w (.returned (.tuple #[a,vo,.bool false])) w':=
 ⟨a,vo,false,i,o,rfl,h1,h2,fun _=>rfl,(fun x h=>by rw[hF]at h;cases h),b⟩
theorem FmP.yes{F:Option (List Int×List Int)}{w':AQ}{a vo:AX}{i o:List Int}(hF:F=some (i,o))(h1:IR w' a i)(h2:IR w' vo o)(b:Below w.heap.size w w'):FmP F w (.returned (.tuple #[a,vo,.bool true])) w':=
 ⟨a,vo,true,i,o,rfl,h1,h2,(fun h=>by rw[hF]at h;cases h),(fun x h=>by rw[hF]at h;injection h with h;exact⟨rfl,h.symm⟩),b⟩
theorem aJh(h:n=0):((n:Int) == 0)=true:=by simp[h]
theorem aJi(h:n≠0):((n:Int) == 0)=false:=by simp[h]
theorem eYd(h:n<=8589934592):decide ((n:Int)<=8589934592)=true:=decide_eq_true (by omega)
theorem eYe(h:¬n<=8589934592):decide ((n:Int)<=8589934592)=false:=decide_eq_false (by omega)
theorem eZs(h:n<=4294967295):decide ((n:Int)<4294967296)=true:=decide_eq_true (by omega)
theorem eZt(h:¬n<=4294967295):decide ((n:Int)<4294967296)=false:=decide_eq_false (by omega)
theorem IR.fQy{base:Nat}{t:TypeId}{A:Option Addr}{c:Nat}(h:w.ownsRow base t 1 (.slice A l.length c) l.length (i64s l)):IR w (.slice A l.length c) l:=⟨A,c,rfl,Src.fQd h⟩
theorem cZx(e:EnvD)(s:SigD)(l:AX)(op:Int)(n:Nat)(hn:n<18446744073709551616)(w:AQ)(he:EnvV w l e)(m:op=258)(hg:(fW op).isSome=false)(o:acc op=none):
  AZ fZ 112 #[l,.agg #[.int .i64 op,.int .u64 (n:Int),.slice none 0 0,.slice none 0 0],.int .i64 0] w (FmP (if n=0 then some ([],[])else none) w):=by
 obtain⟨va,vb,vd,rfl,h1,h2,p⟩:=he;obtain⟨d,cs,rfl,_⟩:=h1.len;obtain⟨f,cg,rfl⟩:=h2.shape;have H1:=fQ h1;have H2:=fQ h2;have H3:=fQ p;obtain⟨g,h,rfl,_⟩:=p;have q:=fQ (al2 w (.cells #[.slice d e.sigs.length cs,.int .i64 e.imports,.slice f e.globals.length cg,.slice g e.muts.length h,.bool e.mem] 26) (.cells #[.int .i64 op,.int .u64 (n:Int),.slice none 0 0,.slice none 0 0] 164));have r:=fQ ((Blk.new w 26 #[.slice d e.sigs.length cs,.int .i64 e.imports,.slice f e.globals.length cg,.slice g e.muts.length h,.bool e.mem]).alloc (.cells #[.int .i64 op,.int .u64 (n:Int),.slice none 0 0,.slice none 0 0] 164));have t:=fQ (Blk.newAt (w.alloc (.cells #[.slice d e.sigs.length cs,.int .i64 e.imports,.slice f e.globals.length cg,.slice g e.muts.length h,.bool e.mem] 26)) (N:=w.heap.size+1) 164 #[.int .i64 op,.int .u64 (n:Int),.slice none 0 0,.slice none 0 0] (by simp));clear h1 h2;have y:=fQ (show(fW op).isSome=false from hg);have z:=fQ (show fK op = .tuple #[.int .i64 0,.int .i64 0,.bool false,.bool false] by unfold fK;rw[o]);have ai:(op == 256)=false:=(by simp;omega);have aj:(op == 258)=true:=(by simp[m]);have al:(op == 27)=false:=(by simp;omega);have an:(op == 35)=false:=(by simp;omega);have ao:(op == 36)=false:=(by simp;omega);have g16:(op == 16)=false:=(by simp;omega);have ak:(op == 257)=false:=(by simp;omega);have aq:(op == 63)=false:=(by simp;omega);have g64:(op == 64)=false:=(by simp;omega);clear hg o m;obtain⟨FF,i⟩:∃ F:Option (List Int×List Int),(if n=0 then some ([],[])else none)=F:=⟨_,rfl⟩;rw[i];have u:=fQ i;clear i;go_in;go_wp2_with fail;refine(kK op _).mono ?_;rintro en w1 ⟨A1,c1,rfl,v,c⟩;rw[y.out];have x:=fQ (q.out.trans (c.mono q.out.size));have b:=fQ (r.out.below c r.out.lt);have j:=fQ (t.out.below c t.out.lt);have HR:=fQ v;clear c v;have f0:=j.out.cell 0;have f1:=j.out.cell 1;simp at f0 f1;have y1:=j.out.lt;have e0:=b.out.cell 0;have e2:=b.out.cell 2;have A:=b.out.cell 3;have B:=b.out.cell 4;simp at e0 e2 A B;have y2:=b.out.lt;go_wp2_with fail;refine(gX op _).mono ?_;rintro en w2 ⟨rfl,rfl⟩;rw[z.out];by_cases a:n=0
 ·have C:=aJh a;have k:=fQ (u.out.symm.trans (if_pos a));clear a;go_wp2_with fail;go_quiet (fail)
  all_goals
   go_wp2;go_ret3;exact FmP.yes k.out (IR.nil _) (IR.nil _) (fV x.out _)
 ·have C:=aJi a;have k:=fQ (u.out.symm.trans (if_neg a));clear a;go_wp2_with fail;go_quiet (fail)
  all_goals
   go_wp2;go_ret3;exact FmP.no k.out (IR.nil _) (IR.nil _) (fV x.out _)
theorem cWn(e:EnvD)(s:SigD)(m:AX)(op:Int)(n:Nat)(hn:n<18446744073709551616)(w:AQ)(he:EnvV w m e)(o:op≠256)(p:op≠258)(hg:(fW op).isSome=true)(q:acc op=none):
  AZ fZ 112 #[m,.agg #[.int .i64 op,.int .u64 (n:Int),.slice none 0 0,.slice none 0 0],.int .i64 0] w (FmP (if n=0 then some (fY op,[lY op])else none) w):=by
 obtain⟨va,vb,vd,rfl,h1,h2,r⟩:=he;obtain⟨f,cs,rfl,_⟩:=h1.len;obtain⟨g,cg,rfl⟩:=h2.shape;have H1:=fQ h1;have H2:=fQ h2;have H3:=fQ r;obtain⟨h,i,rfl,_⟩:=r;have t:=fQ (al2 w (.cells #[.slice f e.sigs.length cs,.int .i64 e.imports,.slice g e.globals.length cg,.slice h e.muts.length i,.bool e.mem] 26) (.cells #[.int .i64 op,.int .u64 (n:Int),.slice none 0 0,.slice none 0 0] 164));have u:=fQ ((Blk.new w 26 #[.slice f e.sigs.length cs,.int .i64 e.imports,.slice g e.globals.length cg,.slice h e.muts.length i,.bool e.mem]).alloc (.cells #[.int .i64 op,.int .u64 (n:Int),.slice none 0 0,.slice none 0 0] 164));have v:=fQ (Blk.newAt (w.alloc (.cells #[.slice f e.sigs.length cs,.int .i64 e.imports,.slice g e.globals.length cg,.slice h e.muts.length i,.bool e.mem] 26)) (N:=w.heap.size+1) 164 #[.int .i64 op,.int .u64 (n:Int),.slice none 0 0,.slice none 0 0] (by simp));clear h1 h2;have A:=fQ (show(fW op).isSome=true from hg);have B:=fQ (show fK op = .tuple #[.int .i64 0,.int .i64 0,.bool false,.bool false] by unfold fK;rw[q]);have ak:(op == 256)=false:=(by simp[o]);have al:(op == 258)=false:=(by simp[p]);clear hg q o p;obtain⟨FF,j⟩:∃ F:Option (List Int×List Int),(if n=0 then some (fY op,[lY op])else none)=F:=⟨_,rfl⟩;rw[j];have x:=fQ j;clear j;go_in;go_wp2_with fail;refine(kK op _).mono ?_;rintro en w1 ⟨A1,c1,rfl,y,c⟩;rw[A.out];have d:=fQ (t.out.trans (c.mono t.out.size));have b:=fQ (u.out.below c u.out.lt);have k:=fQ (v.out.below c v.out.lt);have z:=fQ y;clear c y;have f0:=k.out.cell 0;have f1:=k.out.cell 1;simp at f0 f1;have y1:=k.out.lt;have e0:=b.out.cell 0;have e2:=b.out.cell 2;have C:=b.out.cell 3;have D:=b.out.cell 4;simp at e0 e2 C D;have y2:=b.out.lt;go_wp2_with fail;refine(gX op _).mono ?_;rintro en w2 ⟨rfl,rfl⟩;rw[B.out];by_cases a:n=0
 ·have E:=aJh a;have l:=fQ (x.out.symm.trans (if_pos a));clear a;go_wp2_with fail;go_region
  all_goals
   go_wp2;go_ret3;exact FmP.yes l.out (((IR.fQy z.out).alloc _).drew) ((IR.one (Blk.new _ _ _)).drew) ((d.out.alloc d.out.size _).drew)
 ·have E:=aJi a;have l:=fQ (x.out.symm.trans (if_neg a));clear a;go_wp2_with fail;go_region
  all_goals
   go_wp2;go_ret3;exact FmP.no l.out (((IR.fQy z.out).alloc _).drew) ((IR.one (Blk.new _ _ _)).drew) ((d.out.alloc d.out.size _).drew)
theorem dJz(e:EnvD)(s:SigD)(q:AX)(op:Int)(n:Nat)(hn:n<18446744073709551616)(w:AQ)(he:EnvV w q e)(r:op=35)(hg:(fW op).isSome=false)(t:acc op=none)(u:e.muts.length=e.globals.length):
  AZ fZ 112 #[q,.agg #[.int .i64 op,.int .u64 (n:Int),.slice none 0 0,.slice none 0 0],.int .i64 0] w (FmP ((e.globals[n]?).map fun g=>([],[g])) w):=by
 obtain⟨va,vb,vd,rfl,h1,h2,v⟩:=he;obtain⟨d,cs,rfl,_⟩:=h1.len;obtain⟨f,cg,rfl⟩:=h2.shape;have H1:=fQ h1;have y:=fQ h2;have H3:=fQ v;obtain⟨h,i,rfl,_⟩:=v;have z:=fQ (al2 w (.cells #[.slice d e.sigs.length cs,.int .i64 e.imports,.slice f e.globals.length cg,.slice h e.muts.length i,.bool e.mem] 26) (.cells #[.int .i64 op,.int .u64 (n:Int),.slice none 0 0,.slice none 0 0] 164));have A:=fQ ((Blk.new w 26 #[.slice d e.sigs.length cs,.int .i64 e.imports,.slice f e.globals.length cg,.slice h e.muts.length i,.bool e.mem]).alloc (.cells #[.int .i64 op,.int .u64 (n:Int),.slice none 0 0,.slice none 0 0] 164));have B:=fQ (Blk.newAt (w.alloc (.cells #[.slice d e.sigs.length cs,.int .i64 e.imports,.slice f e.globals.length cg,.slice h e.muts.length i,.bool e.mem] 26)) (N:=w.heap.size+1) 164 #[.int .i64 op,.int .u64 (n:Int),.slice none 0 0,.slice none 0 0] (by simp));clear h1 h2;have J:=fQ (show(fW op).isSome=false from hg);have K:=fQ (show fK op = .tuple #[.int .i64 0,.int .i64 0,.bool false,.bool false] by unfold fK;rw[t]);have aq:=fQ u;have ak:(op == 256)=false:=(by simp;omega);have al:(op == 258)=false:=(by simp;omega);have ar:(op == 27)=false:=(by simp;omega);have au:(op == 35)=true:=(by simp[r]);have aw:(op == 36)=false:=(by simp;omega);have g16:(op == 16)=false:=(by simp;omega);have an:(op == 257)=false:=(by simp;omega);have ax:(op == 63)=false:=(by simp;omega);have g64:(op == 64)=false:=(by simp;omega);clear hg t r u;obtain⟨C,j⟩:∃ F:Option (List Int×List Int),((e.globals[n]?).map fun g=>([],[g]))=F:=⟨_,rfl⟩;rw[j];have D:=fQ j;clear j;go_in;go_wp2_with fail;refine(kK op _).mono ?_;rintro en L ⟨A1,c1,rfl,E,c⟩;rw[J.out];have a:=fQ (z.out.trans (c.mono z.out.size));have b:=fQ (A.out.below c A.out.lt);have k:=fQ (B.out.below c B.out.lt);have HR:=fQ E;clear c E;have f0:=k.out.cell 0;have f1:=k.out.cell 1;simp at f0 f1;have y1:=k.out.lt;have e0:=b.out.cell 0;have e2:=b.out.cell 2;have M:=b.out.cell 3;have O:=b.out.cell 4;simp at e0 e2 M O;have y2:=b.out.lt;go_wp2_with fail;refine(gX op _).mono ?_;rintro en w2 ⟨rfl,rfl⟩;rw[K.out];have hl:=y.out.eYz;by_cases l:n<e.globals.length
 ·obtain⟨x,m⟩:∃ x,e.globals[n]? = some x:=⟨_,Aj l⟩;have P:decide ((e.globals.length:Int)<=(n:Int))=false:=(by simp;omega);have G:¬e.globals.length<=n:=(by omega);have t3:(n:Int)<(e.globals.length:Int):=(by omega);obtain⟨H,go,rfl,Q,I⟩:=y.out.ir.cell m;have d0:=(a.out.cell (p:=⟨H,_,none⟩) Q).trans I;have ay:H<L.heap.size:=(by have:=a.out.size;omega);have o:=fQ (show C=some ([],[x]) by rw[<-D.out,m];rfl);clear m I l;go_wp2;go_ret3;exact FmP.yes o.out (IR.nil _) (IR.one (Blk.new _ _ _)) (a.out.alloc a.out.size _)
 ·have P:decide ((e.globals.length:Int)<=(n:Int))=true:=(by simp;omega);have G:e.globals.length<=n:=(by omega);have o:=fQ (show C=none by rw[<-D.out,Aw G];try rfl);clear l;go_wp2;go_ret3;exact FmP.no o.out (IR.nil _) (IR.nil _) a.out
theorem dKa(e:EnvD)(s:SigD)(u:AX)(op:Int)(n:Nat)(hn:n<18446744073709551616)(w:AQ)(he:EnvV w u e)(v:op=36)(hg:(fW op).isSome=false)(z:acc op=none)(A:e.muts.length=e.globals.length):
  AZ fZ 112 #[u,.agg #[.int .i64 op,.int .u64 (n:Int),.slice none 0 0,.slice none 0 0],.int .i64 0] w (FmP (match e.globals[n]?,e.muts[n]? with | some g,some true=>some ([g],[]) | _,_=>none) w):=by
 obtain⟨va,vb,vd,rfl,h1,h2,B⟩:=he;obtain⟨h,cs,rfl,_⟩:=h1.len;obtain⟨i,cg,rfl⟩:=h2.shape;have H1:=fQ h1;have C:=fQ h2;have R:=fQ B;obtain⟨j,k,rfl,_⟩:=B;have D:=fQ (al2 w (.cells #[.slice h e.sigs.length cs,.int .i64 e.imports,.slice i e.globals.length cg,.slice j e.muts.length k,.bool e.mem] 26) (.cells #[.int .i64 op,.int .u64 (n:Int),.slice none 0 0,.slice none 0 0] 164));have E:=fQ ((Blk.new w 26 #[.slice h e.sigs.length cs,.int .i64 e.imports,.slice i e.globals.length cg,.slice j e.muts.length k,.bool e.mem]).alloc (.cells #[.int .i64 op,.int .u64 (n:Int),.slice none 0 0,.slice none 0 0] 164));have G:=fQ (Blk.newAt (w.alloc (.cells #[.slice h e.sigs.length cs,.int .i64 e.imports,.slice i e.globals.length cg,.slice j e.muts.length k,.bool e.mem] 26)) (N:=w.heap.size+1) 164 #[.int .i64 op,.int .u64 (n:Int),.slice none 0 0,.slice none 0 0] (by simp));clear h1 h2;have S:=fQ (show(fW op).isSome=false from hg);have T:=fQ (show fK op = .tuple #[.int .i64 0,.int .i64 0,.bool false,.bool false] by unfold fK;rw[z]);have H:=fQ A;have ao:(op == 256)=false:=(by simp;omega);have aq:(op == 258)=false:=(by simp;omega);have ay:(op == 27)=false:=(by simp;omega);have az:(op == 35)=false:=(by simp;omega);have aA:(op == 36)=true:=(by simp[v]);have g16:(op == 16)=false:=(by simp;omega);have ar:(op == 257)=false:=(by simp;omega);have aB:(op == 63)=false:=(by simp;omega);have g64:(op == 64)=false:=(by simp;omega);clear hg z v A;obtain⟨I,l⟩:∃ F:Option (List Int×List Int),(match e.globals[n]?,e.muts[n]? with | some g,some true=>some ([g],[]) | _,_=>none)=F:=⟨_,rfl⟩;rw[l];have J:=fQ l;clear l;go_in;go_wp2_with fail;refine(kK op _).mono ?_;rintro en K ⟨A1,c1,rfl,L,d⟩;rw[S.out];have a:=fQ (D.out.trans (d.mono D.out.size));have b:=fQ (E.out.below d E.out.lt);have m:=fQ (G.out.below d G.out.lt);have HR:=fQ L;clear d L;have f0:=m.out.cell 0;have f1:=m.out.cell 1;simp at f0 f1;have y1:=m.out.lt;have e0:=b.out.cell 0;have e2:=b.out.cell 2;have o:=b.out.cell 3;have U:=b.out.cell 4;simp at e0 e2 o U;have y2:=b.out.lt;go_wp2_with fail;refine(gX op _).mono ?_;rintro en w2 ⟨rfl,rfl⟩;rw[T.out];have hl:=C.out.eYz;by_cases c:n<e.globals.length
 ·obtain⟨x,q⟩:∃ x,e.globals[n]? = some x:=⟨_,Aj c⟩;have V:decide ((e.globals.length:Int)<=(n:Int))=false:=(by simp;omega);have M:¬e.globals.length<=n:=(by omega);have t3:(n:Int)<(e.globals.length:Int):=(by omega);obtain⟨O,go,rfl,W,P⟩:=C.out.ir.cell q;have d0:=(a.out.cell (p:=⟨O,_,none⟩) W).trans P;have aC:O<K.heap.size:=(by have:=a.out.size;omega);obtain⟨y,r⟩:∃ y,e.muts[n]? = some y:=⟨_,Aj (by rw[H.out];exact c)⟩;obtain⟨aD,aE,e',t,_⟩:=R.out;injection e' with X _ o;subst X;subst o;have Q:n<e.muts.length:=(by rw[H.out];exact c);have aw:(n:Int)<(e.muts.length:Int):=(by omega);obtain⟨mb,mo,rfl,Y⟩:=t.addr (by omega);have c1:=t.at_ Q;rw[bJp Q,(List.getElem?_eq_some_iff.1 r).2]at c1;have d1:=(a.out.cell (p:=⟨mb,_,none⟩) Y).trans c1;have aF:mb<K.heap.size:=(by have:=a.out.size;omega);have f:=fQ (show I=if y=true then some ([x],[])else none by rw[<-J.out,q,r];cases y <;> rfl);clear q r P c1 t c;go_wp2_with fail;go_region
  all_goals
   go_wp2;go_ret3
   cases y with
   | true=>exact FmP.yes (f.out.trans (if_pos rfl)) (IR.one (Blk.new _ _ _)).drew (IR.nil _) (a.out.alloc a.out.size _).drew
   | false=>exact FmP.no (f.out.trans (if_neg (by simp))) (IR.one (Blk.new _ _ _)).drew (IR.nil _) (a.out.alloc a.out.size _).drew
 ·have V:decide ((e.globals.length:Int)<=(n:Int))=true:=(by simp;omega);have M:e.globals.length<=n:=(by omega);have f:=fQ (show I=none by rw[<-J.out,Aw M];try rfl);clear c;go_wp2;go_ret3;exact FmP.no f.out (IR.nil _) (IR.nil _) a.out
theorem dKb(e:EnvD)(s:SigD)(t:AX)(op:Int)(n:Nat)(hn:n<18446744073709551616)(w:AQ)(he:EnvV w t e)(u:op=16)(hg:(fW op).isSome=false)(v:acc op=none):
  AZ fZ 112 #[t,.agg #[.int .i64 op,.int .u64 (n:Int),.slice none 0 0,.slice none 0 0],.int .i64 0] w (FmP ((e.sigs[n]?).map fun g=>(g.inn,g.out)) w):=by
 obtain⟨va,vb,vd,rfl,h1,h2,y⟩:=he;obtain⟨d,cs,rfl,_⟩:=h1.len;obtain⟨f,cg,rfl⟩:=h2.shape;have H1:=fQ h1;have H2:=fQ h2;have H3:=fQ y;obtain⟨h,i,rfl,_⟩:=y;have z:=fQ (al2 w (.cells #[.slice d e.sigs.length cs,.int .i64 e.imports,.slice f e.globals.length cg,.slice h e.muts.length i,.bool e.mem] 26) (.cells #[.int .i64 op,.int .u64 (n:Int),.slice none 0 0,.slice none 0 0] 164));have A:=fQ ((Blk.new w 26 #[.slice d e.sigs.length cs,.int .i64 e.imports,.slice f e.globals.length cg,.slice h e.muts.length i,.bool e.mem]).alloc (.cells #[.int .i64 op,.int .u64 (n:Int),.slice none 0 0,.slice none 0 0] 164));have B:=fQ (Blk.newAt (w.alloc (.cells #[.slice d e.sigs.length cs,.int .i64 e.imports,.slice f e.globals.length cg,.slice h e.muts.length i,.bool e.mem] 26)) (N:=w.heap.size+1) 164 #[.int .i64 op,.int .u64 (n:Int),.slice none 0 0,.slice none 0 0] (by simp));clear h1 h2;have J:=fQ (show(fW op).isSome=false from hg);have K:=fQ (show fK op = .tuple #[.int .i64 0,.int .i64 0,.bool false,.bool false] by unfold fK;rw[v]);have ak:(op == 256)=false:=(by simp;omega);have al:(op == 258)=false:=(by simp;omega);have ao:(op == 27)=false:=(by simp;omega);have aq:(op == 35)=false:=(by simp;omega);have ar:(op == 36)=false:=(by simp;omega);have g16:(op == 16)=true:=(by simp[u]);have an:(op == 257)=false:=(by simp;omega);have au:(op == 63)=false:=(by simp;omega);have g64:(op == 64)=false:=(by simp;omega);clear hg v u;obtain⟨C,j⟩:∃ F:Option (List Int×List Int),((e.sigs[n]?).map fun g=>(g.inn,g.out))=F:=⟨_,rfl⟩;rw[j];have D:=fQ j;clear j;go_in;go_wp2_with fail;refine(kK op _).mono ?_;rintro en L ⟨A1,c1,rfl,E,c⟩;rw[J.out];have a:=fQ (z.out.trans (c.mono z.out.size));have b:=fQ (A.out.below c A.out.lt);have k:=fQ (B.out.below c B.out.lt);have HR:=fQ E;clear c E;have f0:=k.out.cell 0;have f1:=k.out.cell 1;simp at f0 f1;have y1:=k.out.lt;have e0:=b.out.cell 0;have e2:=b.out.cell 2;have M:=b.out.cell 3;have O:=b.out.cell 4;simp at e0 e2 M O;have y2:=b.out.lt;go_wp2_with fail;refine(gX op _).mono ?_;rintro en w2 ⟨rfl,rfl⟩;rw[K.out];have hl:=H1.out.eYz;by_cases l:n<e.sigs.length
 ·obtain⟨x,m⟩:∃ x,e.sigs[n]? = some x:=⟨_,Aj l⟩;have P:decide ((e.sigs.length:Int)<=(n:Int))=false:=(by simp;omega);have G:¬e.sigs.length<=n:=(by omega);have t3:(n:Int)<(e.sigs.length:Int):=(by omega);obtain⟨o,go,p,q,rfl,H,I,c1,s0,s1⟩:=H1.out.sig m;obtain⟨pA,pc,rfl⟩:=s0.shape;obtain⟨qA,qc,rfl⟩:=s1.shape;have d0:=(a.out.cell (p:=⟨o,_,none⟩) H).trans I;have d1:=(a.out.cell (p:=⟨o,_,none⟩) H).trans c1;have aw:o<L.heap.size:=(by have:=a.out.size;omega);have r:=fQ (show C=some (x.inn,x.out) by rw[<-D.out,m];rfl);have Q:=fQ s0.ir;have R:=fQ s1.ir;clear m I c1 s0 s1 l;go_wp2_with fail;go_quiet (fail);go_wp2;go_ret3;exact FmP.yes r.out ((Q.out.below a.out (Aq _)).drewN _) ((R.out.below a.out (Aq _)).drewN _) (fV a.out _)
 ·have P:decide ((e.sigs.length:Int)<=(n:Int))=true:=(by simp;omega);have G:e.sigs.length<=n:=(by omega);have r:=fQ (show C=none by rw[<-D.out,Aw G];try rfl);clear l;go_wp2;go_ret3;exact FmP.no r.out (IR.nil _) (IR.nil _) a.out
theorem bVk(e:EnvD)(s:SigD)(m:AX)(op:Int)(n:Nat)(hn:n<18446744073709551616)(w:AQ)(he:EnvV w m e)(o:op≠256)(p:op≠258)(q:op≠27)(r:op≠35)(t:op≠36)(u:op≠16)(hg:(fW op).isSome=false)(v:e.mem=false)(x:acc op=none):
  AZ fZ 112 #[m,.agg #[.int .i64 op,.int .u64 (n:Int),.slice none 0 0,.slice none 0 0],.int .i64 0] w (FmP (none) w):=by
 obtain⟨va,vb,vd,rfl,h1,h2,y⟩:=he;obtain⟨c,cs,rfl,_⟩:=h1.len;obtain⟨d,cg,rfl⟩:=h2.shape;have H1:=fQ h1;have H2:=fQ h2;have H3:=fQ y;obtain⟨f,g,rfl,_⟩:=y;have h:=fQ (al2 w (.cells #[.slice c e.sigs.length cs,.int .i64 e.imports,.slice d e.globals.length cg,.slice f e.muts.length g,.bool e.mem] 26) (.cells #[.int .i64 op,.int .u64 (n:Int),.slice none 0 0,.slice none 0 0] 164));have i:=fQ ((Blk.new w 26 #[.slice c e.sigs.length cs,.int .i64 e.imports,.slice d e.globals.length cg,.slice f e.muts.length g,.bool e.mem]).alloc (.cells #[.int .i64 op,.int .u64 (n:Int),.slice none 0 0,.slice none 0 0] 164));have j:=fQ (Blk.newAt (w.alloc (.cells #[.slice c e.sigs.length cs,.int .i64 e.imports,.slice d e.globals.length cg,.slice f e.muts.length g,.bool e.mem] 26)) (N:=w.heap.size+1) 164 #[.int .i64 op,.int .u64 (n:Int),.slice none 0 0,.slice none 0 0] (by simp));clear h1 h2;have A:=fQ (show(fW op).isSome=false from hg);have B:=fQ (show fK op = .tuple #[.int .i64 0,.int .i64 0,.bool false,.bool false] by unfold fK;rw[x]);have aq:(op == 256)=false:=(by simp[o]);have ar:(op == 258)=false:=(by simp[p]);have aw:(op == 27)=false:=(by simp[q]);have ax:(op == 35)=false:=(by simp[r]);have ay:(op == 36)=false:=(by simp[t]);have g16:(op == 16)=false:=(by simp[u]);rw[v]at h i j ⊢;clear v;clear hg x o p q r t u;obtain⟨FF,k⟩:∃ F:Option (List Int×List Int),(none)=F:=⟨_,rfl⟩;rw[k];have C:=fQ k;clear k;go_in;go_wp2_with fail;refine(kK op _).mono ?_;rintro en w1 ⟨A1,c1,rfl,z,b⟩;rw[A.out];have D:=fQ (h.out.trans (b.mono h.out.size));have a:=fQ (i.out.below b i.out.lt);have l:=fQ (j.out.below b j.out.lt);have HR:=fQ z;clear b z;have f0:=l.out.cell 0;have f1:=l.out.cell 1;simp at f0 f1;have y1:=l.out.lt;have e0:=a.out.cell 0;have e2:=a.out.cell 2;have E:=a.out.cell 3;have G:=a.out.cell 4;simp at e0 e2 E G;have y2:=a.out.lt;go_wp2_with fail;refine(gX op _).mono ?_;rintro en w2 ⟨rfl,rfl⟩;rw[B.out];go_wp2;go_ret3;exact FmP.no C.out.symm (IR.nil _) (IR.nil _) D.out
theorem bVl(e:EnvD)(s:SigD)(o:AX)(op:Int)(n:Nat)(hn:n<18446744073709551616)(w:AQ)(he:EnvV w o e)(p:op≠256)(q:op≠258)(r:op≠27)(t:op≠35)(u:op≠36)(v:op≠16)(hg:(fW op).isSome=false)(x:e.mem=false)(k wd:Int)(st B:Bool)(y:acc op=some (k,wd,st,B)):
  AZ fZ 112 #[o,.agg #[.int .i64 op,.int .u64 (n:Int),.slice none 0 0,.slice none 0 0],.int .i64 0] w (FmP (none) w):=by
 obtain⟨va,vb,vd,rfl,h1,h2,z⟩:=he;obtain⟨c,cs,rfl,_⟩:=h1.len;obtain⟨d,cg,rfl⟩:=h2.shape;have H1:=fQ h1;have H2:=fQ h2;have H3:=fQ z;obtain⟨f,g,rfl,_⟩:=z;have h:=fQ (al2 w (.cells #[.slice c e.sigs.length cs,.int .i64 e.imports,.slice d e.globals.length cg,.slice f e.muts.length g,.bool e.mem] 26) (.cells #[.int .i64 op,.int .u64 (n:Int),.slice none 0 0,.slice none 0 0] 164));have i:=fQ ((Blk.new w 26 #[.slice c e.sigs.length cs,.int .i64 e.imports,.slice d e.globals.length cg,.slice f e.muts.length g,.bool e.mem]).alloc (.cells #[.int .i64 op,.int .u64 (n:Int),.slice none 0 0,.slice none 0 0] 164));have j:=fQ (Blk.newAt (w.alloc (.cells #[.slice c e.sigs.length cs,.int .i64 e.imports,.slice d e.globals.length cg,.slice f e.muts.length g,.bool e.mem] 26)) (N:=w.heap.size+1) 164 #[.int .i64 op,.int .u64 (n:Int),.slice none 0 0,.slice none 0 0] (by simp));clear h1 h2;have C:=fQ (show(fW op).isSome=false from hg);have D:=fQ (show fK op = .tuple #[.int .i64 k,.int .i64 wd,.bool st,.bool true] by unfold fK;rw[y]);have aq:(op == 256)=false:=(by simp[p]);have ar:(op == 258)=false:=(by simp[q]);have aw:(op == 27)=false:=(by simp[r]);have ax:(op == 35)=false:=(by simp[t]);have ay:(op == 36)=false:=(by simp[u]);have g16:(op == 16)=false:=(by simp[v]);rw[x]at h i j ⊢;clear x;clear hg y p q r t u v;obtain⟨FF,l⟩:∃ F:Option (List Int×List Int),(none)=F:=⟨_,rfl⟩;rw[l];have E:=fQ l;clear l;go_in;go_wp2_with fail;refine(kK op _).mono ?_;rintro en w1 ⟨A1,c1,rfl,A,b⟩;rw[C.out];have G:=fQ (h.out.trans (b.mono h.out.size));have a:=fQ (i.out.below b i.out.lt);have m:=fQ (j.out.below b j.out.lt);have HR:=fQ A;clear b A;have f0:=m.out.cell 0;have f1:=m.out.cell 1;simp at f0 f1;have y1:=m.out.lt;have e0:=a.out.cell 0;have e2:=a.out.cell 2;have H:=a.out.cell 3;have I:=a.out.cell 4;simp at e0 e2 H I;have y2:=a.out.lt;go_wp2_with fail;refine(gX op _).mono ?_;rintro en w2 ⟨rfl,rfl⟩;rw[D.out];go_wp2;go_ret3;exact FmP.no E.out.symm (IR.nil _) (IR.nil _) G.out
theorem cWo(e:EnvD)(s:SigD)(q:AX)(op:Int)(n:Nat)(hn:n<18446744073709551616)(w:AQ)(he:EnvV w q e)(r:op=257)(hg:(fW op).isSome=false)(t:e.mem=true)(u:acc op=none):
  AZ fZ 112 #[q,.agg #[.int .i64 op,.int .u64 (n:Int),.slice none 0 0,.slice none 0 0],.int .i64 0] w (FmP (if n<=8589934592 then some ([127],[])else none) w):=by
 obtain⟨va,vb,vd,rfl,h1,h2,v⟩:=he;obtain⟨f,cs,rfl,_⟩:=h1.len;obtain⟨g,cg,rfl⟩:=h2.shape;have H1:=fQ h1;have H2:=fQ h2;have H3:=fQ v;obtain⟨h,i,rfl,_⟩:=v;have j:=fQ (al2 w (.cells #[.slice f e.sigs.length cs,.int .i64 e.imports,.slice g e.globals.length cg,.slice h e.muts.length i,.bool e.mem] 26) (.cells #[.int .i64 op,.int .u64 (n:Int),.slice none 0 0,.slice none 0 0] 164));have k:=fQ ((Blk.new w 26 #[.slice f e.sigs.length cs,.int .i64 e.imports,.slice g e.globals.length cg,.slice h e.muts.length i,.bool e.mem]).alloc (.cells #[.int .i64 op,.int .u64 (n:Int),.slice none 0 0,.slice none 0 0] 164));have l:=fQ (Blk.newAt (w.alloc (.cells #[.slice f e.sigs.length cs,.int .i64 e.imports,.slice g e.globals.length cg,.slice h e.muts.length i,.bool e.mem] 26)) (N:=w.heap.size+1) 164 #[.int .i64 op,.int .u64 (n:Int),.slice none 0 0,.slice none 0 0] (by simp));clear h1 h2;have z:=fQ (show(fW op).isSome=false from hg);have A:=fQ (show fK op = .tuple #[.int .i64 0,.int .i64 0,.bool false,.bool false] by unfold fK;rw[u]);have aj:(op == 256)=false:=(by simp;omega);have ak:(op == 258)=false:=(by simp;omega);have an:(op == 27)=false:=(by simp;omega);have ao:(op == 35)=false:=(by simp;omega);have aq:(op == 36)=false:=(by simp;omega);have g16:(op == 16)=false:=(by simp;omega);have al:(op == 257)=true:=(by simp[r]);have ar:(op == 63)=false:=(by simp;omega);have g64:(op == 64)=false:=(by simp;omega);rw[t]at j k l ⊢;clear t;clear hg u r;obtain⟨FF,m⟩:∃ F:Option (List Int×List Int),(if n<=8589934592 then some ([127],[])else none)=F:=⟨_,rfl⟩;rw[m];have x:=fQ m;clear m;go_in;go_wp2_with fail;refine(kK op _).mono ?_;rintro en w1 ⟨A1,c1,rfl,y,c⟩;rw[z.out];have d:=fQ (j.out.trans (c.mono j.out.size));have b:=fQ (k.out.below c k.out.lt);have o:=fQ (l.out.below c l.out.lt);have HR:=fQ y;clear c y;have f0:=o.out.cell 0;have f1:=o.out.cell 1;simp at f0 f1;have y1:=o.out.lt;have e0:=b.out.cell 0;have e2:=b.out.cell 2;have B:=b.out.cell 3;have C:=b.out.cell 4;simp at e0 e2 B C;have y2:=b.out.lt;go_wp2_with fail;refine(gX op _).mono ?_;rintro en w2 ⟨rfl,rfl⟩;rw[A.out];by_cases a:n<=8589934592
 ·have D:=eYd a;have p:=fQ (x.out.symm.trans (if_pos a));clear a;go_wp2_with fail;go_region
  all_goals
   go_wp2;go_ret3;exact FmP.yes p.out ((IR.one (Blk.new _ _ _)).drew) (IR.nil _) ((d.out.alloc d.out.size _).drew)
 ·have D:=eYe a;have p:=fQ (x.out.symm.trans (if_neg a));clear a;go_wp2_with fail;go_region
  all_goals
   go_wp2;go_ret3;exact FmP.no p.out ((IR.one (Blk.new _ _ _)).drew) (IR.nil _) ((d.out.alloc d.out.size _).drew)
theorem bZy(e:EnvD)(s:SigD)(r:AX)(op:Int)(n:Nat)(hn:n<18446744073709551616)(w:AQ)(he:EnvV w r e)(t:op≠256)(u:op≠258)(v:op≠27)(x:op≠35)(y:op≠36)(z:op≠16)(A:op≠257)(hg:(fW op).isSome=false)(B:e.mem=true)(k wd:Int)(H:Bool)(C:acc op=some (k,wd,true,H)):
  AZ fZ 112 #[r,.agg #[.int .i64 op,.int .u64 (n:Int),.slice none 0 0,.slice none 0 0],.int .i64 0] w (FmP (if n<=4294967295 then some ([127,k],[])else none) w):=by
 obtain⟨va,vb,vd,rfl,h1,h2,D⟩:=he;obtain⟨f,cs,rfl,_⟩:=h1.len;obtain⟨g,cg,rfl⟩:=h2.shape;have H1:=fQ h1;have H2:=fQ h2;have H3:=fQ D;obtain⟨h,i,rfl,_⟩:=D;have j:=fQ (al2 w (.cells #[.slice f e.sigs.length cs,.int .i64 e.imports,.slice g e.globals.length cg,.slice h e.muts.length i,.bool e.mem] 26) (.cells #[.int .i64 op,.int .u64 (n:Int),.slice none 0 0,.slice none 0 0] 164));have l:=fQ ((Blk.new w 26 #[.slice f e.sigs.length cs,.int .i64 e.imports,.slice g e.globals.length cg,.slice h e.muts.length i,.bool e.mem]).alloc (.cells #[.int .i64 op,.int .u64 (n:Int),.slice none 0 0,.slice none 0 0] 164));have m:=fQ (Blk.newAt (w.alloc (.cells #[.slice f e.sigs.length cs,.int .i64 e.imports,.slice g e.globals.length cg,.slice h e.muts.length i,.bool e.mem] 26)) (N:=w.heap.size+1) 164 #[.int .i64 op,.int .u64 (n:Int),.slice none 0 0,.slice none 0 0] (by simp));clear h1 h2;have I:=fQ (show(fW op).isSome=false from hg);have J:=fQ (show fK op = .tuple #[.int .i64 k,.int .i64 wd,.bool true,.bool true] by unfold fK;rw[C]);have au:(op == 256)=false:=(by simp[t]);have aw:(op == 258)=false:=(by simp[u]);have ay:(op == 27)=false:=(by simp[v]);have az:(op == 35)=false:=(by simp[x]);have aA:(op == 36)=false:=(by simp[y]);have g16:(op == 16)=false:=(by simp[z]);have ax:(op == 257)=false:=(by simp[A]);rw[B]at j l m ⊢;clear B;clear hg C t u v x y z A;obtain⟨FF,o⟩:∃ F:Option (List Int×List Int),(if n<=4294967295 then some ([127,k],[])else none)=F:=⟨_,rfl⟩;rw[o];have E:=fQ o;clear o;go_in;go_wp2_with fail;refine(kK op _).mono ?_;rintro en w1 ⟨A1,c1,rfl,G,c⟩;rw[I.out];have d:=fQ (j.out.trans (c.mono j.out.size));have b:=fQ (l.out.below c l.out.lt);have p:=fQ (m.out.below c m.out.lt);have HR:=fQ G;clear c G;have f0:=p.out.cell 0;have f1:=p.out.cell 1;simp at f0 f1;have y1:=p.out.lt;have e0:=b.out.cell 0;have e2:=b.out.cell 2;have K:=b.out.cell 3;have L:=b.out.cell 4;simp at e0 e2 K L;have y2:=b.out.lt;go_wp2_with fail;refine(gX op _).mono ?_;rintro en w2 ⟨rfl,rfl⟩;rw[J.out];by_cases a:n<=4294967295
 ·have M:=eZs a;have q:=fQ (E.out.symm.trans (if_pos a));clear a;go_wp2_with fail;go_region
  all_goals
   go_wp2;go_ret3;exact FmP.yes q.out ((IR.two (Blk.new _ _ _)).drew) (IR.nil _) ((d.out.alloc d.out.size _).drew)
 ·have M:=eZt a;have q:=fQ (E.out.symm.trans (if_neg a));clear a;go_wp2_with fail;go_region
  all_goals
   go_wp2;go_ret3;exact FmP.no q.out ((IR.two (Blk.new _ _ _)).drew) (IR.nil _) ((d.out.alloc d.out.size _).drew)
theorem bXm(e:EnvD)(s:SigD)(r:AX)(op:Int)(n:Nat)(hn:n<18446744073709551616)(w:AQ)(he:EnvV w r e)(t:op≠256)(u:op≠258)(v:op≠27)(x:op≠35)(y:op≠36)(z:op≠16)(A:op≠257)(hg:(fW op).isSome=false)(B:e.mem=true)(k wd:Int)(H:Bool)(C:acc op=some (k,wd,false,H)):
  AZ fZ 112 #[r,.agg #[.int .i64 op,.int .u64 (n:Int),.slice none 0 0,.slice none 0 0],.int .i64 0] w (FmP (if n<=4294967295 then some ([127],[k])else none) w):=by
 obtain⟨va,vb,vd,rfl,h1,h2,D⟩:=he;obtain⟨g,cs,rfl,_⟩:=h1.len;obtain⟨h,cg,rfl⟩:=h2.shape;have H1:=fQ h1;have H2:=fQ h2;have H3:=fQ D;obtain⟨i,j,rfl,_⟩:=D;have l:=fQ (al2 w (.cells #[.slice g e.sigs.length cs,.int .i64 e.imports,.slice h e.globals.length cg,.slice i e.muts.length j,.bool e.mem] 26) (.cells #[.int .i64 op,.int .u64 (n:Int),.slice none 0 0,.slice none 0 0] 164));have m:=fQ ((Blk.new w 26 #[.slice g e.sigs.length cs,.int .i64 e.imports,.slice h e.globals.length cg,.slice i e.muts.length j,.bool e.mem]).alloc (.cells #[.int .i64 op,.int .u64 (n:Int),.slice none 0 0,.slice none 0 0] 164));have o:=fQ (Blk.newAt (w.alloc (.cells #[.slice g e.sigs.length cs,.int .i64 e.imports,.slice h e.globals.length cg,.slice i e.muts.length j,.bool e.mem] 26)) (N:=w.heap.size+1) 164 #[.int .i64 op,.int .u64 (n:Int),.slice none 0 0,.slice none 0 0] (by simp));clear h1 h2;have I:=fQ (show(fW op).isSome=false from hg);have J:=fQ (show fK op = .tuple #[.int .i64 k,.int .i64 wd,.bool false,.bool true] by unfold fK;rw[C]);have au:(op == 256)=false:=(by simp[t]);have aw:(op == 258)=false:=(by simp[u]);have ay:(op == 27)=false:=(by simp[v]);have az:(op == 35)=false:=(by simp[x]);have aA:(op == 36)=false:=(by simp[y]);have g16:(op == 16)=false:=(by simp[z]);have ax:(op == 257)=false:=(by simp[A]);rw[B]at l m o ⊢;clear B;clear hg C t u v x y z A;obtain⟨FF,p⟩:∃ F:Option (List Int×List Int),(if n<=4294967295 then some ([127],[k])else none)=F:=⟨_,rfl⟩;rw[p];have E:=fQ p;clear p;go_in;go_wp2_with fail;refine(kK op _).mono ?_;rintro en w1 ⟨A1,c1,rfl,G,f⟩;rw[I.out];have a:=fQ (l.out.trans (f.mono l.out.size));have c:=fQ (m.out.below f m.out.lt);have q:=fQ (o.out.below f o.out.lt);have HR:=fQ G;clear f G;have f0:=q.out.cell 0;have f1:=q.out.cell 1;simp at f0 f1;have y1:=q.out.lt;have e0:=c.out.cell 0;have e2:=c.out.cell 2;have K:=c.out.cell 3;have L:=c.out.cell 4;simp at e0 e2 K L;have y2:=c.out.lt;go_wp2_with fail;refine(gX op _).mono ?_;rintro en w2 ⟨rfl,rfl⟩;rw[J.out];by_cases b:n<=4294967295
 ·have M:=eZs b;have d:=fQ (E.out.symm.trans (if_pos b));clear b;go_wp2_with fail;go_region
  all_goals
   go_wp2;go_ret3
   first
    | exact FmP.yes d.out (Blk.alloc (Blk.new _ _ _) _ |> IR.one).drew (IR.one (Blk.newAt _ _ _ (by simp))).drew ((a.out.alloc a.out.size _).alloc (by simp;have:=a.out.size;omega) _).drew
    | exact FmP.yes d.out (IR.one (Blk.newAt _ _ _ (by simp))).drew (Blk.alloc (Blk.new _ _ _) _ |> IR.one).drew ((a.out.alloc a.out.size _).alloc (by simp;have:=a.out.size;omega) _).drew
 ·have M:=eZt b;have d:=fQ (E.out.symm.trans (if_neg b));clear b;go_wp2_with fail;go_region
  all_goals
   go_wp2;go_ret3
   first
    | exact FmP.no d.out (Blk.alloc (Blk.new _ _ _) _ |> IR.one).drew (IR.one (Blk.newAt _ _ _ (by simp))).drew ((a.out.alloc a.out.size _).alloc (by simp;have:=a.out.size;omega) _).drew
    | exact FmP.no d.out (IR.one (Blk.newAt _ _ _ (by simp))).drew (Blk.alloc (Blk.new _ _ _) _ |> IR.one).drew ((a.out.alloc a.out.size _).alloc (by simp;have:=a.out.size;omega) _).drew
theorem dKc(e:EnvD)(s:SigD)(q:AX)(op:Int)(n:Nat)(hn:n<18446744073709551616)(w:AQ)(he:EnvV w q e)(r:op=63)(hg:(fW op).isSome=false)(t:e.mem=true)(u:acc op=none):
  AZ fZ 112 #[q,.agg #[.int .i64 op,.int .u64 (n:Int),.slice none 0 0,.slice none 0 0],.int .i64 0] w (FmP (if n=0 then some ([],[127])else none) w):=by
 obtain⟨va,vb,vd,rfl,h1,h2,v⟩:=he;obtain⟨f,cs,rfl,_⟩:=h1.len;obtain⟨g,cg,rfl⟩:=h2.shape;have H1:=fQ h1;have H2:=fQ h2;have H3:=fQ v;obtain⟨h,i,rfl,_⟩:=v;have j:=fQ (al2 w (.cells #[.slice f e.sigs.length cs,.int .i64 e.imports,.slice g e.globals.length cg,.slice h e.muts.length i,.bool e.mem] 26) (.cells #[.int .i64 op,.int .u64 (n:Int),.slice none 0 0,.slice none 0 0] 164));have k:=fQ ((Blk.new w 26 #[.slice f e.sigs.length cs,.int .i64 e.imports,.slice g e.globals.length cg,.slice h e.muts.length i,.bool e.mem]).alloc (.cells #[.int .i64 op,.int .u64 (n:Int),.slice none 0 0,.slice none 0 0] 164));have l:=fQ (Blk.newAt (w.alloc (.cells #[.slice f e.sigs.length cs,.int .i64 e.imports,.slice g e.globals.length cg,.slice h e.muts.length i,.bool e.mem] 26)) (N:=w.heap.size+1) 164 #[.int .i64 op,.int .u64 (n:Int),.slice none 0 0,.slice none 0 0] (by simp));clear h1 h2;have z:=fQ (show(fW op).isSome=false from hg);have A:=fQ (show fK op = .tuple #[.int .i64 0,.int .i64 0,.bool false,.bool false] by unfold fK;rw[u]);have aj:(op == 256)=false:=(by simp;omega);have ak:(op == 258)=false:=(by simp;omega);have an:(op == 27)=false:=(by simp;omega);have ao:(op == 35)=false:=(by simp;omega);have aq:(op == 36)=false:=(by simp;omega);have g16:(op == 16)=false:=(by simp;omega);have al:(op == 257)=false:=(by simp;omega);have ar:(op == 63)=true:=(by simp[r]);have g64:(op == 64)=false:=(by simp;omega);rw[t]at j k l ⊢;clear t;clear hg u r;obtain⟨FF,m⟩:∃ F:Option (List Int×List Int),(if n=0 then some ([],[127])else none)=F:=⟨_,rfl⟩;rw[m];have x:=fQ m;clear m;go_in;go_wp2_with fail;refine(kK op _).mono ?_;rintro en w1 ⟨A1,c1,rfl,y,c⟩;rw[z.out];have d:=fQ (j.out.trans (c.mono j.out.size));have b:=fQ (k.out.below c k.out.lt);have o:=fQ (l.out.below c l.out.lt);have HR:=fQ y;clear c y;have f0:=o.out.cell 0;have f1:=o.out.cell 1;simp at f0 f1;have y1:=o.out.lt;have e0:=b.out.cell 0;have e2:=b.out.cell 2;have B:=b.out.cell 3;have C:=b.out.cell 4;simp at e0 e2 B C;have y2:=b.out.lt;go_wp2_with fail;refine(gX op _).mono ?_;rintro en w2 ⟨rfl,rfl⟩;rw[A.out];by_cases a:n=0
 ·have D:=aJh a;have p:=fQ (x.out.symm.trans (if_pos a));clear a;go_wp2_with fail;go_region
  all_goals
   go_wp2;go_ret3;exact FmP.yes p.out (IR.nil _) ((IR.one (Blk.new _ _ _)).drew) ((d.out.alloc d.out.size _).drew)
 ·have D:=aJi a;have p:=fQ (x.out.symm.trans (if_neg a));clear a;go_wp2_with fail;go_region
  all_goals
   go_wp2;go_ret3;exact FmP.no p.out (IR.nil _) ((IR.one (Blk.new _ _ _)).drew) ((d.out.alloc d.out.size _).drew)
theorem dKd(e:EnvD)(s:SigD)(q:AX)(op:Int)(n:Nat)(hn:n<18446744073709551616)(w:AQ)(he:EnvV w q e)(r:op=64)(hg:(fW op).isSome=false)(t:e.mem=true)(u:acc op=none):
  AZ fZ 112 #[q,.agg #[.int .i64 op,.int .u64 (n:Int),.slice none 0 0,.slice none 0 0],.int .i64 0] w (FmP (if n=0 then some ([127],[127])else none) w):=by
 obtain⟨va,vb,vd,rfl,h1,h2,v⟩:=he;obtain⟨g,cs,rfl,_⟩:=h1.len;obtain⟨h,cg,rfl⟩:=h2.shape;have H1:=fQ h1;have H2:=fQ h2;have H3:=fQ v;obtain⟨i,j,rfl,_⟩:=v;have k:=fQ (al2 w (.cells #[.slice g e.sigs.length cs,.int .i64 e.imports,.slice h e.globals.length cg,.slice i e.muts.length j,.bool e.mem] 26) (.cells #[.int .i64 op,.int .u64 (n:Int),.slice none 0 0,.slice none 0 0] 164));have l:=fQ ((Blk.new w 26 #[.slice g e.sigs.length cs,.int .i64 e.imports,.slice h e.globals.length cg,.slice i e.muts.length j,.bool e.mem]).alloc (.cells #[.int .i64 op,.int .u64 (n:Int),.slice none 0 0,.slice none 0 0] 164));have m:=fQ (Blk.newAt (w.alloc (.cells #[.slice g e.sigs.length cs,.int .i64 e.imports,.slice h e.globals.length cg,.slice i e.muts.length j,.bool e.mem] 26)) (N:=w.heap.size+1) 164 #[.int .i64 op,.int .u64 (n:Int),.slice none 0 0,.slice none 0 0] (by simp));clear h1 h2;have z:=fQ (show(fW op).isSome=false from hg);have A:=fQ (show fK op = .tuple #[.int .i64 0,.int .i64 0,.bool false,.bool false] by unfold fK;rw[u]);have aj:(op == 256)=false:=(by simp;omega);have ak:(op == 258)=false:=(by simp;omega);have an:(op == 27)=false:=(by simp;omega);have ao:(op == 35)=false:=(by simp;omega);have aq:(op == 36)=false:=(by simp;omega);have g16:(op == 16)=false:=(by simp;omega);have al:(op == 257)=false:=(by simp;omega);have ar:(op == 63)=false:=(by simp;omega);have g64:(op == 64)=true:=(by simp[r]);rw[t]at k l m ⊢;clear t;clear hg u r;obtain⟨FF,o⟩:∃ F:Option (List Int×List Int),(if n=0 then some ([127],[127])else none)=F:=⟨_,rfl⟩;rw[o];have x:=fQ o;clear o;go_in;go_wp2_with fail;refine(kK op _).mono ?_;rintro en w1 ⟨A1,c1,rfl,y,f⟩;rw[z.out];have a:=fQ (k.out.trans (f.mono k.out.size));have c:=fQ (l.out.below f l.out.lt);have p:=fQ (m.out.below f m.out.lt);have HR:=fQ y;clear f y;have f0:=p.out.cell 0;have f1:=p.out.cell 1;simp at f0 f1;have y1:=p.out.lt;have e0:=c.out.cell 0;have e2:=c.out.cell 2;have B:=c.out.cell 3;have C:=c.out.cell 4;simp at e0 e2 B C;have y2:=c.out.lt;go_wp2_with fail;refine(gX op _).mono ?_;rintro en w2 ⟨rfl,rfl⟩;rw[A.out];by_cases b:n=0
 ·have D:=aJh b;have d:=fQ (x.out.symm.trans (if_pos b));clear b;go_wp2_with fail;go_region
  all_goals
   go_wp2;go_ret3
   first
    | exact FmP.yes d.out (Blk.alloc (Blk.new _ _ _) _ |> IR.one).drew (IR.one (Blk.newAt _ _ _ (by simp))).drew ((a.out.alloc a.out.size _).alloc (by simp;have:=a.out.size;omega) _).drew
    | exact FmP.yes d.out (IR.one (Blk.newAt _ _ _ (by simp))).drew (Blk.alloc (Blk.new _ _ _) _ |> IR.one).drew ((a.out.alloc a.out.size _).alloc (by simp;have:=a.out.size;omega) _).drew
 ·have D:=aJi b;have d:=fQ (x.out.symm.trans (if_neg b));clear b;go_wp2_with fail;go_region
  all_goals
   go_wp2;go_ret3
   first
    | exact FmP.no d.out (Blk.alloc (Blk.new _ _ _) _ |> IR.one).drew (IR.one (Blk.newAt _ _ _ (by simp))).drew ((a.out.alloc a.out.size _).alloc (by simp;have:=a.out.size;omega) _).drew
    | exact FmP.no d.out (IR.one (Blk.newAt _ _ _ (by simp))).drew (Blk.alloc (Blk.new _ _ _) _ |> IR.one).drew ((a.out.alloc a.out.size _).alloc (by simp;have:=a.out.size;omega) _).drew
theorem cZy(e:EnvD)(s:SigD)(m:AX)(op:Int)(n:Nat)(hn:n<18446744073709551616)(w:AQ)(he:EnvV w m e)(o:op≠256)(p:op≠258)(q:op≠27)(r:op≠35)(t:op≠36)(u:op≠16)(v:op≠257)(x:op≠63)(o64:op≠64)(hg:(fW op).isSome=false)(y:e.mem=true)(z:acc op=none):
  AZ fZ 112 #[m,.agg #[.int .i64 op,.int .u64 (n:Int),.slice none 0 0,.slice none 0 0],.int .i64 0] w (FmP (none) w):=by
 obtain⟨va,vb,vd,rfl,h1,h2,A⟩:=he;obtain⟨c,cs,rfl,_⟩:=h1.len;obtain⟨d,cg,rfl⟩:=h2.shape;have H1:=fQ h1;have H2:=fQ h2;have H3:=fQ A;obtain⟨f,g,rfl,_⟩:=A;have h:=fQ (al2 w (.cells #[.slice c e.sigs.length cs,.int .i64 e.imports,.slice d e.globals.length cg,.slice f e.muts.length g,.bool e.mem] 26) (.cells #[.int .i64 op,.int .u64 (n:Int),.slice none 0 0,.slice none 0 0] 164));have i:=fQ ((Blk.new w 26 #[.slice c e.sigs.length cs,.int .i64 e.imports,.slice d e.globals.length cg,.slice f e.muts.length g,.bool e.mem]).alloc (.cells #[.int .i64 op,.int .u64 (n:Int),.slice none 0 0,.slice none 0 0] 164));have j:=fQ (Blk.newAt (w.alloc (.cells #[.slice c e.sigs.length cs,.int .i64 e.imports,.slice d e.globals.length cg,.slice f e.muts.length g,.bool e.mem] 26)) (N:=w.heap.size+1) 164 #[.int .i64 op,.int .u64 (n:Int),.slice none 0 0,.slice none 0 0] (by simp));clear h1 h2;have C:=fQ (show(fW op).isSome=false from hg);have D:=fQ (show fK op = .tuple #[.int .i64 0,.int .i64 0,.bool false,.bool false] by unfold fK;rw[z]);have au:(op == 256)=false:=(by simp[o]);have aw:(op == 258)=false:=(by simp[p]);have az:(op == 27)=false:=(by simp[q]);have aA:(op == 35)=false:=(by simp[r]);have aB:(op == 36)=false:=(by simp[t]);have g16:(op == 16)=false:=(by simp[u]);have ax:(op == 257)=false:=(by simp[v]);have aC:(op == 63)=false:=(by simp[x]);have g64:(op == 64)=false:=(by simp[o64]);rw[y]at h i j ⊢;clear y;clear hg z o p q r t u v x o64;obtain⟨FF,k⟩:∃ F:Option (List Int×List Int),(none)=F:=⟨_,rfl⟩;rw[k];have E:=fQ k;clear k;go_in;go_wp2_with fail;refine(kK op _).mono ?_;rintro en w1 ⟨A1,c1,rfl,B,b⟩;rw[C.out];have G:=fQ (h.out.trans (b.mono h.out.size));have a:=fQ (i.out.below b i.out.lt);have l:=fQ (j.out.below b j.out.lt);have HR:=fQ B;clear b B;have f0:=l.out.cell 0;have f1:=l.out.cell 1;simp at f0 f1;have y1:=l.out.lt;have e0:=a.out.cell 0;have e2:=a.out.cell 2;have H:=a.out.cell 3;have I:=a.out.cell 4;simp at e0 e2 H I;have y2:=a.out.lt;go_wp2_with fail;refine(gX op _).mono ?_;rintro en w2 ⟨rfl,rfl⟩;rw[D.out];go_wp2;go_ret3;exact FmP.no E.out.symm (IR.nil _) (IR.nil _) G.out
theorem cWp{x:Int×Int×Bool×Bool}(h:acc op=some x):40<=op/\op<=62:=by
 unfold acc at h;obtain⟨r,a,_⟩:=Option.map_eq_some_iff.1 h;have h1:=AJ a;have h2:=Ay a;have b:∀ r∈aJz,40<=r.1/\r.1<=62:=(by decide);have h4:=b r h2;simp at h1;omega
theorem cWq{g:Int×Int×Int×Int}(h:fW op=some g):69<=op:=by
 unfold fW at h;have h1:=AJ h;have h2:=Ay h;have a:∀ r∈tX,69<=r.1:=(by decide);have h4:=a g h2;unfold inG at h1;simp at h1;omega
theorem zX(h:op<40\/62<op):acc op=none:=by
 cases ha:acc op with
 | none=>rfl
 | some x=>have:=cWp ha;omega
theorem bWj:∀ op ∈ [(256:Int),257,258],(fW op).isSome=false:=by decide
theorem cWr{e:EnvD}{s:SigD}(h1:op≠256)(h2:op<272\/277<op)(a:op≠258)(b:op≠27)(c:op≠16)(d:op≠35)(f:op≠36)(hg:(fW op).isSome=false):iJ e s op n=mJ e.mem op n:=by
 unfold iJ;simp only[show op≠272 by omega,show op≠273 by omega,show op≠274 by omega,show op≠275 by omega,show op≠276 by omega,show op≠277 by omega,h1,a,b,c,d,f,hg,if_false,or_self,Bool.false_eq_true]
theorem cWs(e:EnvD)(s:SigD)(a:AX)(op:Int)(n:Nat)(hn:n<18446744073709551616)(w:AQ)(he:EnvV w a e)(r:e.muts.length=e.globals.length)(d:op≠256)(m:op≠27)(t:op<272\/277<op):
  AZ fZ 112 #[a,.agg #[.int .i64 op,.int .u64 (n:Int),.slice none 0 0,.slice none 0 0],.int .i64 0] w (FmP (iJ e s op n) w):=by
 by_cases c:op=258
 ·have h:=cZx e s a op n hn w he c (by rw[c];exact bWj 258 (by simp)) (zX (by omega));subst c;exact h
 cases hg:(fW op).isSome with
 | true=>
  obtain⟨g,u⟩:=Option.isSome_iff_exists.1 hg;have an:=cWq u;have h:=cWn e s a op n hn w he d c hg (zX (by omega))
  have b:iJ e s op n=if n=0 then some (fY op,[lY op])else none:=by
   unfold iJ;simp only[show op≠272 by omega,show op≠273 by omega,show op≠274 by omega,show op≠275 by omega,show op≠276 by omega,show op≠277 by omega,d,c,m,show op≠16 by omega,show op≠35 by omega,show op≠36 by omega,hg,if_false,or_self,if_true]
  rw[b];exact h
 | false=>
  by_cases f:op=35
  ·have h:=dJz e s a op n hn w he f hg (zX (by omega)) r;subst f;exact h
  by_cases i:op=36
  ·have h:=dKa e s a op n hn w he i hg (zX (by omega)) r;subst i;exact h
  by_cases j:op=16
  ·have h:=dKb e s a op n hn w he j hg (zX (by omega));subst j;exact h
  rw[cWr d t c m j f i hg]
  cases l:e.mem with
  | false=>
   have b:mJ false op n=none:=(by simp[mJ]);rw[b]
   cases ha:acc op with
   | none=>exact bVk e s a op n hn w he d c m f i j hg l ha
   | some x=>
    obtain⟨k,wd,st,p⟩:=x;exact bVl e s a op n hn w he d c m f i j hg l k wd st p ha
  | true=>
   by_cases o:op=257
   ·have h:=cWo e s a op n hn w he o hg l (zX (by omega));have b:mJ true op n=if n<=8589934592 then some ([127],[])else none:=(by simp[mJ,o]);rw[b];exact h
   cases ha:acc op with
   | some x=>
    obtain⟨k,wd,st,p⟩:=x;have b:mJ true op n=if n<=4294967295 then some (if st then([127,k],[])else([127],[k]))else none:=(by simp[mJ,o,ha]);rw[b]
    cases st with
    | true=>exact bZy e s a op n hn w he d c m f i j o hg l k wd p ha
    | false=>exact bXm e s a op n hn w he d c m f i j o hg l k wd p ha
   | none=>
    by_cases q:op=63
    ·have h:=dKc e s a op n hn w he q hg l ha;have b:mJ true op n=if n=0 then some ([],[127])else none:=(by subst q;simp[mJ,ha]);rw[b];exact h
    by_cases o64:op=64
    ·have h:=dKd e s a op n hn w he o64 hg l ha;have b:mJ true op n=if n=0 then some ([127],[127])else none:=(by subst o64;simp[mJ,ha]);rw[b];exact h
    have b:mJ true op n=none:=(by simp[mJ,o,ha,q,o64]);rw[b];exact cZy e s a op n hn w he d c m f i j o q o64 hg l ha
theorem cWt(e:EnvD)(s:SigD)(c:CodeD)(h vs vc:AX)(w:AQ)(he:EnvV w h e)(hs:SigV w vs s)(hc:CodeV w vc c)(i:e.muts.length=e.globals.length)(j:c.op=272):
  AZ fZ 86 #[h,vs,vc] w (FmP (if c.n=0 then some ([0],[0])else none) w):=by
 have HE:=fQ he;obtain⟨va,vb,vd,rfl,h1,h2,o⟩:=he;obtain⟨r,cs,rfl,_⟩:=h1.len;obtain⟨t,cg,rfl⟩:=h2.shape;obtain⟨u,v,rfl,_⟩:=o;obtain⟨p,q,rfl,k,f⟩:=hs;obtain⟨x,y,rfl⟩:=k.shape;obtain⟨z,A,rfl⟩:=f.shape;have HO:=fQ f.ir;obtain⟨p,q,tt,rfl,l,s1,s2,s3⟩:=hc;obtain⟨B,C,rfl⟩:=s1.shape;obtain⟨D,E,rfl⟩:=s2.shape;obtain⟨G,tc,rfl⟩:=s3.shape;have ao:=fQ l;have aq:=fQ i;have a:=fQ (al3 w (.cells #[.slice r e.sigs.length cs,.int .i64 e.imports,.slice t e.globals.length cg,.slice u e.muts.length v,.bool e.mem] 26) (.cells #[.slice x s.inn.length y,.slice z s.out.length A] 62) (.cells #[.int .i64 c.op,.int .u64 (c.n:Int),.slice B c.args.length C,.slice D c.outs.length E,.slice G c.to.length tc] 86));clear h1 h2 k f s1 s2 s3 l i;have ag:(c.op == 272)=true:=(by simp[j]);have ah:(c.op == 273)=false:=(by simp;omega);have ai:(c.op == 277)=false:=(by simp;omega);have aj:(c.op == 274)=false:=(by simp;omega);have ak:(c.op == 275)=false:=(by simp;omega);have al:(c.op == 276)=false:=(by simp;omega);have ar:(c.op == 27)=false:=(by simp;omega);have an:(c.op == 256)=false:=(by simp;omega);clear j;obtain⟨FF,g⟩:∃ F:Option (List Int×List Int),(if c.n=0 then some ([0],[0])else none)=F:=⟨_,rfl⟩;rw[g];have m:=fQ g;clear g;go_in;by_cases b:c.n=0
 ·have H:=aJh b;have d:=fQ (m.out.symm.trans (if_pos b));clear b;go_wp2_with fail;go_region
  all_goals
   go_wp2;go_ret3
   first
    | (refine FmP.yes d.out (IR.drew (IR.one (Blk.alloc (Blk.newAt _ _ _ ?_) _))) (IR.drew (IR.one (Blk.newAt _ _ _ ?_))) (Av ((a.out.alloc a.out.size _).alloc ?_ _)) <;> ((try simp);(try omega);done))
    | (refine FmP.yes d.out (IR.drew (IR.one (Blk.newAt _ _ _ ?_))) (IR.drew (IR.one (Blk.alloc (Blk.newAt _ _ _ ?_) _))) (Av ((a.out.alloc a.out.size _).alloc ?_ _)) <;> ((try simp);(try omega);done))
 ·have H:=aJi b;have d:=fQ (m.out.symm.trans (if_neg b));clear b;go_wp2_with fail;go_region
  all_goals
   go_wp2;go_ret3
   first
    | (refine FmP.no d.out (IR.drew (IR.one (Blk.alloc (Blk.newAt _ _ _ ?_) _))) (IR.drew (IR.one (Blk.newAt _ _ _ ?_))) (Av ((a.out.alloc a.out.size _).alloc ?_ _)) <;> ((try simp);(try omega);done))
    | (refine FmP.no d.out (IR.drew (IR.one (Blk.newAt _ _ _ ?_))) (IR.drew (IR.one (Blk.alloc (Blk.newAt _ _ _ ?_) _))) (Av ((a.out.alloc a.out.size _).alloc ?_ _)) <;> ((try simp);(try omega);done))
theorem cWu(e:EnvD)(s:SigD)(c:CodeD)(g vs vc:AX)(w:AQ)(he:EnvV w g e)(hs:SigV w vs s)(hc:CodeV w vc c)(h:e.muts.length=e.globals.length)(i:c.op=273):
  AZ fZ 86 #[g,vs,vc] w (FmP (if c.n=0 then some ([],[])else none) w):=by
 have HE:=fQ he;obtain⟨va,vb,vd,rfl,h1,h2,o⟩:=he;obtain⟨r,cs,rfl,_⟩:=h1.len;obtain⟨t,cg,rfl⟩:=h2.shape;obtain⟨u,v,rfl,_⟩:=o;obtain⟨p,q,rfl,j,b⟩:=hs;obtain⟨x,y,rfl⟩:=j.shape;obtain⟨z,A,rfl⟩:=b.shape;have HO:=fQ b.ir;obtain⟨p,q,tt,rfl,k,s1,s2,s3⟩:=hc;obtain⟨B,C,rfl⟩:=s1.shape;obtain⟨D,E,rfl⟩:=s2.shape;obtain⟨G,tc,rfl⟩:=s3.shape;have ao:=fQ k;have aq:=fQ h;have l:=fQ (al3 w (.cells #[.slice r e.sigs.length cs,.int .i64 e.imports,.slice t e.globals.length cg,.slice u e.muts.length v,.bool e.mem] 26) (.cells #[.slice x s.inn.length y,.slice z s.out.length A] 62) (.cells #[.int .i64 c.op,.int .u64 (c.n:Int),.slice B c.args.length C,.slice D c.outs.length E,.slice G c.to.length tc] 86));clear h1 h2 j b s1 s2 s3 k h;have ag:(c.op == 272)=false:=(by simp;omega);have ah:(c.op == 273)=true:=(by simp[i]);have ai:(c.op == 277)=false:=(by simp;omega);have aj:(c.op == 274)=false:=(by simp;omega);have ak:(c.op == 275)=false:=(by simp;omega);have al:(c.op == 276)=false:=(by simp;omega);have ar:(c.op == 27)=false:=(by simp;omega);have an:(c.op == 256)=false:=(by simp;omega);clear i;obtain⟨FF,d⟩:∃ F:Option (List Int×List Int),(if c.n=0 then some ([],[])else none)=F:=⟨_,rfl⟩;rw[d];have m:=fQ d;clear d;go_in;by_cases a:c.n=0
 ·have H:=aJh a;have f:=fQ (m.out.symm.trans (if_pos a));clear a;go_wp2_with fail;go_quiet (fail)
  all_goals
   go_wp2;go_ret3;exact FmP.yes f.out (IR.nil _) (IR.nil _) (fV l.out _)
 ·have H:=aJi a;have f:=fQ (m.out.symm.trans (if_neg a));clear a;go_wp2_with fail;go_quiet (fail)
  all_goals
   go_wp2;go_ret3;exact FmP.no f.out (IR.nil _) (IR.nil _) (fV l.out _)
theorem cWv(e:EnvD)(s:SigD)(c:CodeD)(g vs vc:AX)(w:AQ)(he:EnvV w g e)(hs:SigV w vs s)(hc:CodeV w vc c)(h:e.muts.length=e.globals.length)(i:c.op=277):
  AZ fZ 86 #[g,vs,vc] w (FmP (if c.n=0 then some ([],[])else none) w):=by
 have HE:=fQ he;obtain⟨va,vb,vd,rfl,h1,h2,o⟩:=he;obtain⟨r,cs,rfl,_⟩:=h1.len;obtain⟨t,cg,rfl⟩:=h2.shape;obtain⟨u,v,rfl,_⟩:=o;obtain⟨p,q,rfl,j,b⟩:=hs;obtain⟨x,y,rfl⟩:=j.shape;obtain⟨z,A,rfl⟩:=b.shape;have HO:=fQ b.ir;obtain⟨p,q,tt,rfl,k,s1,s2,s3⟩:=hc;obtain⟨B,C,rfl⟩:=s1.shape;obtain⟨D,E,rfl⟩:=s2.shape;obtain⟨G,tc,rfl⟩:=s3.shape;have ao:=fQ k;have aq:=fQ h;have l:=fQ (al3 w (.cells #[.slice r e.sigs.length cs,.int .i64 e.imports,.slice t e.globals.length cg,.slice u e.muts.length v,.bool e.mem] 26) (.cells #[.slice x s.inn.length y,.slice z s.out.length A] 62) (.cells #[.int .i64 c.op,.int .u64 (c.n:Int),.slice B c.args.length C,.slice D c.outs.length E,.slice G c.to.length tc] 86));clear h1 h2 j b s1 s2 s3 k h;have ag:(c.op == 272)=false:=(by simp;omega);have ah:(c.op == 273)=false:=(by simp;omega);have ai:(c.op == 277)=true:=(by simp[i]);have aj:(c.op == 274)=false:=(by simp;omega);have ak:(c.op == 275)=false:=(by simp;omega);have al:(c.op == 276)=false:=(by simp;omega);have ar:(c.op == 27)=false:=(by simp;omega);have an:(c.op == 256)=false:=(by simp;omega);clear i;obtain⟨FF,d⟩:∃ F:Option (List Int×List Int),(if c.n=0 then some ([],[])else none)=F:=⟨_,rfl⟩;rw[d];have m:=fQ d;clear d;go_in;by_cases a:c.n=0
 ·have H:=aJh a;have f:=fQ (m.out.symm.trans (if_pos a));clear a;go_wp2_with fail;go_quiet (fail)
  all_goals
   go_wp2;go_ret3;exact FmP.yes f.out (IR.nil _) (IR.nil _) (fV l.out _)
 ·have H:=aJi a;have f:=fQ (m.out.symm.trans (if_neg a));clear a;go_wp2_with fail;go_quiet (fail)
  all_goals
   go_wp2;go_ret3;exact FmP.no f.out (IR.nil _) (IR.nil _) (fV l.out _)
theorem cWw(e:EnvD)(s:SigD)(c:CodeD)(h vs vc:AX)(w:AQ)(he:EnvV w h e)(hs:SigV w vs s)(hc:CodeV w vc c)(i:e.muts.length=e.globals.length)(j:c.op=274):
  AZ fZ 86 #[h,vs,vc] w (FmP (if c.n=0 then some ([127],[])else none) w):=by
 have HE:=fQ he;obtain⟨va,vb,vd,rfl,h1,h2,o⟩:=he;obtain⟨r,cs,rfl,_⟩:=h1.len;obtain⟨t,cg,rfl⟩:=h2.shape;obtain⟨u,v,rfl,_⟩:=o;obtain⟨p,q,rfl,k,d⟩:=hs;obtain⟨x,y,rfl⟩:=k.shape;obtain⟨z,A,rfl⟩:=d.shape;have HO:=fQ d.ir;obtain⟨p,q,tt,rfl,l,s1,s2,s3⟩:=hc;obtain⟨B,C,rfl⟩:=s1.shape;obtain⟨D,E,rfl⟩:=s2.shape;obtain⟨G,tc,rfl⟩:=s3.shape;have ao:=fQ l;have aq:=fQ i;have b:=fQ (al3 w (.cells #[.slice r e.sigs.length cs,.int .i64 e.imports,.slice t e.globals.length cg,.slice u e.muts.length v,.bool e.mem] 26) (.cells #[.slice x s.inn.length y,.slice z s.out.length A] 62) (.cells #[.int .i64 c.op,.int .u64 (c.n:Int),.slice B c.args.length C,.slice D c.outs.length E,.slice G c.to.length tc] 86));clear h1 h2 k d s1 s2 s3 l i;have ag:(c.op == 272)=false:=(by simp;omega);have ah:(c.op == 273)=false:=(by simp;omega);have ai:(c.op == 277)=false:=(by simp;omega);have aj:(c.op == 274)=true:=(by simp[j]);have ak:(c.op == 275)=false:=(by simp;omega);have al:(c.op == 276)=false:=(by simp;omega);have ar:(c.op == 27)=false:=(by simp;omega);have an:(c.op == 256)=false:=(by simp;omega);clear j;obtain⟨FF,f⟩:∃ F:Option (List Int×List Int),(if c.n=0 then some ([127],[])else none)=F:=⟨_,rfl⟩;rw[f];have m:=fQ f;clear f;go_in;by_cases a:c.n=0
 ·have H:=aJh a;have g:=fQ (m.out.symm.trans (if_pos a));clear a;go_wp2_with fail;go_region
  all_goals
   go_wp2;go_ret3;exact FmP.yes g.out ((IR.one (Blk.newAt _ _ _ (by simp))).drew) (IR.nil _) ((b.out.alloc b.out.size _).drew)
 ·have H:=aJi a;have g:=fQ (m.out.symm.trans (if_neg a));clear a;go_wp2_with fail;go_region
  all_goals
   go_wp2;go_ret3;exact FmP.no g.out ((IR.one (Blk.newAt _ _ _ (by simp))).drew) (IR.nil _) ((b.out.alloc b.out.size _).drew)
theorem cWx(e:EnvD)(s:SigD)(c:CodeD)(h vs vc:AX)(w:AQ)(he:EnvV w h e)(hs:SigV w vs s)(hc:CodeV w vc c)(i:e.muts.length=e.globals.length)(j:c.op=275):
  AZ fZ 86 #[h,vs,vc] w (FmP (if c.n=0 then some ([127],[])else none) w):=by
 have HE:=fQ he;obtain⟨va,vb,vd,rfl,h1,h2,o⟩:=he;obtain⟨r,cs,rfl,_⟩:=h1.len;obtain⟨t,cg,rfl⟩:=h2.shape;obtain⟨u,v,rfl,_⟩:=o;obtain⟨p,q,rfl,k,d⟩:=hs;obtain⟨x,y,rfl⟩:=k.shape;obtain⟨z,A,rfl⟩:=d.shape;have HO:=fQ d.ir;obtain⟨p,q,tt,rfl,l,s1,s2,s3⟩:=hc;obtain⟨B,C,rfl⟩:=s1.shape;obtain⟨D,E,rfl⟩:=s2.shape;obtain⟨G,tc,rfl⟩:=s3.shape;have ao:=fQ l;have aq:=fQ i;have b:=fQ (al3 w (.cells #[.slice r e.sigs.length cs,.int .i64 e.imports,.slice t e.globals.length cg,.slice u e.muts.length v,.bool e.mem] 26) (.cells #[.slice x s.inn.length y,.slice z s.out.length A] 62) (.cells #[.int .i64 c.op,.int .u64 (c.n:Int),.slice B c.args.length C,.slice D c.outs.length E,.slice G c.to.length tc] 86));clear h1 h2 k d s1 s2 s3 l i;have ag:(c.op == 272)=false:=(by simp;omega);have ah:(c.op == 273)=false:=(by simp;omega);have ai:(c.op == 277)=false:=(by simp;omega);have aj:(c.op == 274)=false:=(by simp;omega);have ak:(c.op == 275)=true:=(by simp[j]);have al:(c.op == 276)=false:=(by simp;omega);have ar:(c.op == 27)=false:=(by simp;omega);have an:(c.op == 256)=false:=(by simp;omega);clear j;obtain⟨FF,f⟩:∃ F:Option (List Int×List Int),(if c.n=0 then some ([127],[])else none)=F:=⟨_,rfl⟩;rw[f];have m:=fQ f;clear f;go_in;by_cases a:c.n=0
 ·have H:=aJh a;have g:=fQ (m.out.symm.trans (if_pos a));clear a;go_wp2_with fail;go_region
  all_goals
   go_wp2;go_ret3;exact FmP.yes g.out ((IR.one (Blk.newAt _ _ _ (by simp))).drew) (IR.nil _) ((b.out.alloc b.out.size _).drew)
 ·have H:=aJi a;have g:=fQ (m.out.symm.trans (if_neg a));clear a;go_wp2_with fail;go_region
  all_goals
   go_wp2;go_ret3;exact FmP.no g.out ((IR.one (Blk.newAt _ _ _ (by simp))).drew) (IR.nil _) ((b.out.alloc b.out.size _).drew)
theorem cWy(e:EnvD)(s:SigD)(c:CodeD)(h vs vc:AX)(w:AQ)(he:EnvV w h e)(hs:SigV w vs s)(hc:CodeV w vc c)(i:e.muts.length=e.globals.length)(j:c.op=276):
  AZ fZ 86 #[h,vs,vc] w (FmP (if c.n=0 then some (s.out,[])else none) w):=by
 have HE:=fQ he;obtain⟨va,vb,vd,rfl,h1,h2,r⟩:=he;obtain⟨t,cs,rfl,_⟩:=h1.len;obtain⟨u,cg,rfl⟩:=h2.shape;obtain⟨v,x,rfl,_⟩:=r;obtain⟨p,q,rfl,k,d⟩:=hs;obtain⟨y,z,rfl⟩:=k.shape;obtain⟨A,B,rfl⟩:=d.shape;have l:=fQ d.ir;obtain⟨p,q,tt,rfl,m,s1,s2,s3⟩:=hc;obtain⟨C,D,rfl⟩:=s1.shape;obtain⟨E,G,rfl⟩:=s2.shape;obtain⟨H,tc,rfl⟩:=s3.shape;have ao:=fQ m;have aq:=fQ i;have b:=fQ (al3 w (.cells #[.slice t e.sigs.length cs,.int .i64 e.imports,.slice u e.globals.length cg,.slice v e.muts.length x,.bool e.mem] 26) (.cells #[.slice y s.inn.length z,.slice A s.out.length B] 62) (.cells #[.int .i64 c.op,.int .u64 (c.n:Int),.slice C c.args.length D,.slice E c.outs.length G,.slice H c.to.length tc] 86));clear h1 h2 k d s1 s2 s3 m i;have ag:(c.op == 272)=false:=(by simp;omega);have ah:(c.op == 273)=false:=(by simp;omega);have ai:(c.op == 277)=false:=(by simp;omega);have aj:(c.op == 274)=false:=(by simp;omega);have ak:(c.op == 275)=false:=(by simp;omega);have al:(c.op == 276)=true:=(by simp[j]);have ar:(c.op == 27)=false:=(by simp;omega);have an:(c.op == 256)=false:=(by simp;omega);clear j;obtain⟨FF,f⟩:∃ F:Option (List Int×List Int),(if c.n=0 then some (s.out,[])else none)=F:=⟨_,rfl⟩;rw[f];have o:=fQ f;clear f;go_in;by_cases a:c.n=0
 ·have I:=aJh a;have g:=fQ (o.out.symm.trans (if_pos a));clear a;go_wp2_with fail;go_quiet (fail)
  all_goals
   go_wp2;go_ret3;exact FmP.yes g.out ((l.out.below b.out (Aq _)).drewN _) (IR.nil _) (fV b.out _)
 ·have I:=aJi a;have g:=fQ (o.out.symm.trans (if_neg a));clear a;go_wp2_with fail;go_quiet (fail)
  all_goals
   go_wp2;go_ret3;exact FmP.no g.out ((l.out.below b.out (Aq _)).drewN _) (IR.nil _) (fV b.out _)
theorem dKe(e:EnvD)(s:SigD)(c:CodeD)(h vs vc:AX)(w:AQ)(he:EnvV w h e)(hs:SigV w vs s)(hc:CodeV w vc c)(i:e.muts.length=e.globals.length)(j:c.op=27):
  AZ fZ 86 #[h,vs,vc] w (FmP (if c.n=0 then some ([0,0,127],[0])else none) w):=by
 have HE:=fQ he;obtain⟨va,vb,vd,rfl,h1,h2,o⟩:=he;obtain⟨r,cs,rfl,_⟩:=h1.len;obtain⟨t,cg,rfl⟩:=h2.shape;obtain⟨u,v,rfl,_⟩:=o;obtain⟨p,q,rfl,k,f⟩:=hs;obtain⟨x,y,rfl⟩:=k.shape;obtain⟨z,A,rfl⟩:=f.shape;have HO:=fQ f.ir;obtain⟨p,q,tt,rfl,l,s1,s2,s3⟩:=hc;obtain⟨B,C,rfl⟩:=s1.shape;obtain⟨D,E,rfl⟩:=s2.shape;obtain⟨G,tc,rfl⟩:=s3.shape;have ao:=fQ l;have aq:=fQ i;have a:=fQ (al3 w (.cells #[.slice r e.sigs.length cs,.int .i64 e.imports,.slice t e.globals.length cg,.slice u e.muts.length v,.bool e.mem] 26) (.cells #[.slice x s.inn.length y,.slice z s.out.length A] 62) (.cells #[.int .i64 c.op,.int .u64 (c.n:Int),.slice B c.args.length C,.slice D c.outs.length E,.slice G c.to.length tc] 86));clear h1 h2 k f s1 s2 s3 l i;have ag:(c.op == 272)=false:=(by simp;omega);have ah:(c.op == 273)=false:=(by simp;omega);have ai:(c.op == 277)=false:=(by simp;omega);have aj:(c.op == 274)=false:=(by simp;omega);have ak:(c.op == 275)=false:=(by simp;omega);have al:(c.op == 276)=false:=(by simp;omega);have ar:(c.op == 27)=true:=(by simp[j]);have an:(c.op == 256)=false:=(by simp;omega);clear j;obtain⟨FF,g⟩:∃ F:Option (List Int×List Int),(if c.n=0 then some ([0,0,127],[0])else none)=F:=⟨_,rfl⟩;rw[g];have m:=fQ g;clear g;go_in;by_cases b:c.n=0
 ·have H:=aJh b;have d:=fQ (m.out.symm.trans (if_pos b));clear b;go_wp2_with fail;go_region
  all_goals
   go_wp2;go_ret3
   first
    | (refine FmP.yes d.out (IR.drew (IR.three (Blk.alloc (Blk.newAt _ _ _ ?_) _))) (IR.drew (IR.one (Blk.newAt _ _ _ ?_))) (Av ((a.out.alloc a.out.size _).alloc ?_ _)) <;> ((try simp);(try omega);done))
    | (refine FmP.yes d.out (IR.drew (IR.three (Blk.newAt _ _ _ ?_))) (IR.drew (IR.one (Blk.alloc (Blk.newAt _ _ _ ?_) _))) (Av ((a.out.alloc a.out.size _).alloc ?_ _)) <;> ((try simp);(try omega);done))
 ·have H:=aJi b;have d:=fQ (m.out.symm.trans (if_neg b));clear b;go_wp2_with fail;go_region
  all_goals
   go_wp2;go_ret3
   first
    | (refine FmP.no d.out (IR.drew (IR.three (Blk.alloc (Blk.newAt _ _ _ ?_) _))) (IR.drew (IR.one (Blk.newAt _ _ _ ?_))) (Av ((a.out.alloc a.out.size _).alloc ?_ _)) <;> ((try simp);(try omega);done))
    | (refine FmP.no d.out (IR.drew (IR.three (Blk.newAt _ _ _ ?_))) (IR.drew (IR.one (Blk.alloc (Blk.newAt _ _ _ ?_) _))) (Av ((a.out.alloc a.out.size _).alloc ?_ _)) <;> ((try simp);(try omega);done))
theorem cWz(e:EnvD)(s:SigD)(c:CodeD)(d vs vc:AX)(w:AQ)(he:EnvV w d e)(hs:SigV w vs s)(hc:CodeV w vc c)(f:e.muts.length=e.globals.length)(g:c.op=256):
  AZ fZ 86 #[d,vs,vc] w (FmP (some ([],[0])) w):=by
 have HE:=fQ he;obtain⟨va,vb,vd,rfl,h1,h2,k⟩:=he;obtain⟨l,cs,rfl,_⟩:=h1.len;obtain⟨m,cg,rfl⟩:=h2.shape;obtain⟨o,r,rfl,_⟩:=k;obtain⟨p,q,rfl,h,a⟩:=hs;obtain⟨t,u,rfl⟩:=h.shape;obtain⟨v,x,rfl⟩:=a.shape;have HO:=fQ a.ir;obtain⟨p,q,tt,rfl,i,s1,s2,s3⟩:=hc;obtain⟨y,z,rfl⟩:=s1.shape;obtain⟨A,B,rfl⟩:=s2.shape;obtain⟨C,tc,rfl⟩:=s3.shape;have ao:=fQ i;have aq:=fQ f;have j:=fQ (al3 w (.cells #[.slice l e.sigs.length cs,.int .i64 e.imports,.slice m e.globals.length cg,.slice o e.muts.length r,.bool e.mem] 26) (.cells #[.slice t s.inn.length u,.slice v s.out.length x] 62) (.cells #[.int .i64 c.op,.int .u64 (c.n:Int),.slice y c.args.length z,.slice A c.outs.length B,.slice C c.to.length tc] 86));clear h1 h2 h a s1 s2 s3 i f;have af:(c.op == 272)=false:=(by simp;omega);have ag:(c.op == 273)=false:=(by simp;omega);have ah:(c.op == 277)=false:=(by simp;omega);have ai:(c.op == 274)=false:=(by simp;omega);have aj:(c.op == 275)=false:=(by simp;omega);have ak:(c.op == 276)=false:=(by simp;omega);have ar:(c.op == 27)=false:=(by simp;omega);have al:(c.op == 256)=true:=(by simp[g]);clear g;obtain⟨FF,b⟩:∃ F:Option (List Int×List Int),(some ([],[0]))=F:=⟨_,rfl⟩;rw[b];have D:=fQ b;clear b;go_in;go_wp2;go_ret3;exact FmP.yes D.out.symm (IR.nil _) (IR.one (Blk.newAt _ _ _ (by simp))) (j.out.alloc j.out.size _)
theorem cYa(e:EnvD)(s:SigD)(c:CodeD)(j vs vc:AX)(w:AQ)(he:EnvV w j e)(hs:SigV w vs s)(hc:CodeV w vc c)(k:e.muts.length=e.globals.length)(l:c.op≠272)(m:c.op≠273)(r:c.op≠277)(t:c.op≠274)(u:c.op≠275)(v:c.op≠276)(a:c.op≠27)(b:c.op≠256):
  AZ fZ 86 #[j,vs,vc] w (FmP (iJ e s c.op c.n) w):=by
 have D:=fQ he;obtain⟨va,vb,vd,rfl,h1,h2,E⟩:=he;obtain⟨G,cs,rfl,_⟩:=h1.len;obtain⟨H,cg,rfl⟩:=h2.shape;obtain⟨I,J,rfl,_⟩:=E;obtain⟨p,q,rfl,x,d⟩:=hs;obtain⟨K,L,rfl⟩:=x.shape;obtain⟨M,N,rfl⟩:=d.shape;have HO:=fQ d.ir;obtain⟨p,q,tt,rfl,y,s1,s2,s3⟩:=hc;obtain⟨O,P,rfl⟩:=s1.shape;obtain⟨Q,R,rfl⟩:=s2.shape;obtain⟨S,tc,rfl⟩:=s3.shape;have T:=fQ y;have U:=fQ k;have f:=fQ (al3 w (.cells #[.slice G e.sigs.length cs,.int .i64 e.imports,.slice H e.globals.length cg,.slice I e.muts.length J,.bool e.mem] 26) (.cells #[.slice K s.inn.length L,.slice M s.out.length N] 62) (.cells #[.int .i64 c.op,.int .u64 (c.n:Int),.slice O c.args.length P,.slice Q c.outs.length R,.slice S c.to.length tc] 86));clear h1 h2 x d s1 s2 s3 y k;have V:=fQ (cWs e s _ c.op c.n T.out.1 _ (D.out.below f.out (Aq _)) U.out b a (by omega));have aw:(c.op == 272)=false:=(by simp[l]);have ax:(c.op == 273)=false:=(by simp[m]);have ay:(c.op == 277)=false:=(by simp[r]);have az:(c.op == 274)=false:=(by simp[t]);have aA:(c.op == 275)=false:=(by simp[u]);have aB:(c.op == 276)=false:=(by simp[v]);have aE:(c.op == 27)=false:=(by simp[a]);have aC:(c.op == 256)=false:=(by simp[b]);clear l m r t u v a b;obtain⟨FF,g⟩:∃ F:Option (List Int×List Int),(iJ e s c.op c.n)=F:=⟨_,rfl⟩;rw[g];have W:=fQ g;clear g;go_in;go_wp2_with fail;have h:=V.out;rw[W.out]at h;refine h.mono ?_;rintro en w1 ⟨X,vo,ok,i,o,rfl,q1,z,A,B,C⟩;have Y:=fQ q1;have Z:=fQ z;have Q3:=fQ A;have Q4:=fQ B;have Q5:=fQ (f.out.trans (C.mono f.out.size));clear q1 z A B C h;go_wp2;go_ret3;exact⟨X,vo,ok,i,o,rfl,Y.out,Z.out,Q3.out,Q4.out,Q5.out⟩
theorem bJw(e:EnvD)(s:SigD)(c:CodeD)(a vs vc:AX)(w:AQ)(he:EnvV w a e)(hs:SigV w vs s)(hc:CodeV w vc c)(b:e.muts.length=e.globals.length):
  AZ fZ 86 #[a,vs,vc] w (FmP (iJ e s c.op c.n) w):=by
 by_cases d:c.op=272
 ·have h:=cWt e s c a vs vc w he hs hc b d;rw[d];exact h
 by_cases f:c.op=273
 ·have h:=cWu e s c a vs vc w he hs hc b f;rw[f];exact h
 by_cases g:c.op=277
 ·have h:=cWv e s c a vs vc w he hs hc b g;rw[g];exact h
 by_cases i:c.op=274
 ·have h:=cWw e s c a vs vc w he hs hc b i;rw[i];exact h
 by_cases j:c.op=275
 ·have h:=cWx e s c a vs vc w he hs hc b j;rw[j];exact h
 by_cases k:c.op=276
 ·have h:=cWy e s c a vs vc w he hs hc b k;rw[k];exact h
 by_cases l:c.op=27
 ·have h:=dKe e s c a vs vc w he hs hc b l;rw[l];exact h
 by_cases m:c.op=256
 ·have h:=cWz e s c a vs vc w he hs hc b m;rw[m];exact h
 exact cYa e s c a vs vc w he hs hc b d f g i j k l m
def uY(c:CodeD):Bool:=if c.op=273\/c.op=274 then decide (c.to.length=1)else if c.op=275 then decide (1<=c.to.length)else decide (c.to.length=0)
theorem dJy{e:EnvD}{r:RowD}{c:CodeD}(he:envOk e=true)(hs:sigOk r.sig=true):codeOk e r c=true ↔
  ((c.args.length<=8/\c.outs.length<=8/\c.to.length<=65)/\∃ i o,iJ e r.sig c.op c.n=some (i,o)/\i.length=c.args.length/\o.length=c.outs.length /\
   lW r.places c.args false=true/\lW r.places c.outs true=true/\lW r.code.length c.to false=true/\uY c=true):=by
 unfold codeOk
 cases hf:iJ e r.sig c.op c.n with
 | none=>simp
 | some x=>
  obtain⟨i,o⟩:=x;have hl:=aZm he hs hf;simp only[Bool.and_eq_true,decide_eq_true_eq,lW,Bool.not_false,Bool.true_or,Bool.and_true,Bool.not_true,Bool.false_or]
  have p:(tY c.op<=c.to.length/\(c.to.length:Int)<=tJ c.op)↔(c.to.length<=65/\uY c=true):=by
   unfold tY tJ uY;by_cases a:c.op=273\/c.op=274
   ·have s:c.op=273\/c.op=274\/c.op=275:=(by omega);rw[if_pos s,if_pos a,if_pos a,decide_eq_true_eq];omega
   ·by_cases b:c.op=275
    ·rw[if_pos (by omega),if_neg a,if_pos b,if_neg a,if_pos b,decide_eq_true_eq];omega
    ·rw[if_neg (by omega),if_neg a,if_neg b,if_neg a,if_neg b,decide_eq_true_eq];omega
  constructor
  ·rintro⟨⟨h1,h2,f,g⟩,h,j,k,l⟩;have d:=p.1 ⟨f,g⟩;exact⟨⟨by omega,by omega,d.1⟩,i,o,rfl,h1.symm,h2.symm,h,⟨j,k⟩,l,d.2⟩
  ·rintro⟨⟨h1,h2,f⟩,i',o',m,g,h,j,⟨k,l⟩,d,t⟩;injection m with m;injection m with u e2;subst u;subst e2;have q:=p.2 ⟨f,t⟩;exact⟨⟨g.symm,h.symm,q.1,q.2⟩,j,k,l,d⟩
def eZr(b:Bool)(w:AQ)(en:Ending)(w':AQ):Prop:=en = .returned (.bool b)/\Below w.heap.size w w'
theorem cWm(e:EnvD)(r:RowD)(c:CodeD)(i:Nat)(Z t:AX)(w:AQ)(he:EnvV w Z e)(hr:RowV w t r)(hi:r.code[i]? = some c)(y:envOk e=true)(hS:sigOk r.sig=true)(aE:r.code.length<=4096):
  AZ fZ 81 #[Z,t,.int .i64 (i:Int)] w (eZr (codeOk e r c) w):=by
 have z:=fQ (dJy (c:=c) (r:=r) y hS)
 have az:=fQ (show e.muts.length=e.globals.length by
  unfold envOk at y;simp only[Bool.and_eq_true,decide_eq_true_eq]at y
  exact y.1.2.2.2)
 obtain⟨g,an⟩:∃ b,codeOk e r c=b:=⟨_,rfl⟩;rw[an]at z ⊢;have HE:=fQ he;have HR:=fQ hr;obtain⟨va,vb,R,rfl,h1,h2,h3⟩:=he;obtain⟨vp,vq,t,vs,rfl,S,T,h6,U⟩:=hr;obtain⟨B,C,rfl⟩:=S.shape;obtain⟨D,E,rfl⟩:=T.shape;obtain⟨Ac,V,rfl,_⟩:=U.len;have aF:i<r.code.length:=(List.getElem?_eq_some_iff.1 hi).1;have aA:(i:Int)<(r.code.length:Int):=(by omega);obtain⟨A,go,p,q,tt,rfl,aG,g0,g1,g2,g3,g4,s0,s1,s2,s3⟩:=U.code hi;obtain⟨F,G,rfl⟩:=s1.shape;obtain⟨H,I,rfl⟩:=s2.shape;obtain⟨J,tc,rfl⟩:=s3.shape;have aH:A<w.heap.size+1+1:=(by omega);have aB:A<w.heap.size+1:=(by omega);have aC:=fQ (show SigV w (.agg #[.slice B r.sig.inn.length C,.slice D r.sig.out.length E]) r.sig from⟨_,_,rfl,S,T⟩);have aD:=fQ (show CodeV w (.agg #[.int .i64 c.op,.int .u64 (c.n:Int),.slice F c.args.length G,.slice H c.outs.length I,.slice J c.to.length tc]) c from⟨_,_,_,rfl,s0,s1,s2,s3⟩);have HA:=fQ s1.ir;have HO:=fQ s2.ir;have HT:=fQ s3.ir;have m:=fQ (al3 w (.cells #[va,.int .i64 e.imports,vb,R,.bool e.mem] 26) (.cells #[.slice B r.sig.inn.length C,.slice D r.sig.out.length E,.int .i64 r.places,t,.slice (some ⟨A,go,none⟩) r.code.length V] 89) (.cells #[.int .i64 c.op,.int .u64 (c.n:Int),.slice F c.args.length G,.slice H c.outs.length I,.slice J c.to.length tc] 86));clear h1 h2 h3 S T h6 U hi s0 s1 s2 s3 an y hS;go_in
 have no:=fun(h:¬(c.args.length<=8/\c.outs.length<=8/\c.to.length<=65))=>(show g=false by
  cases g with
  | false=>rfl
  | true=>exact absurd (z.out.1 rfl).1 h)
 have K:=fQ no;clear no;by_cases W:c.args.length<=8
 ·have u1:decide ((8:Int)<(c.args.length:Int))=false:=(by simp;omega);have ao:decide (8<c.args.length)=false:=(by simp;omega);by_cases k2:c.outs.length<=8
  ·have u2:decide ((8:Int)<(c.outs.length:Int))=false:=(by simp;omega);have aq:decide (8<c.outs.length)=false:=(by simp;omega);by_cases X:c.to.length<=65
   ·have u3:decide ((65:Int)<(c.to.length:Int))=false:=(by simp;omega);have ar:decide (65<c.to.length)=false:=(by simp;omega);go_wp2_with fail;have au:=fQ (Blk.alloc (Blk.newAt (w.alloc (.cells #[va,.int .i64 e.imports,vb,R,.bool e.mem] 26)) (N:=w.heap.size+1) 89 #[.slice B r.sig.inn.length C,.slice D r.sig.out.length E,.int .i64 r.places,t,.slice (some ⟨A,go,none⟩) r.code.length V] (by simp)) (.cells #[.int .i64 c.op,.int .u64 (c.n:Int),.slice F c.args.length G,.slice H c.outs.length I,.slice J c.to.length tc] 86));have aw:=fQ (Blk.newAt ((w.alloc (.cells #[va,.int .i64 e.imports,vb,R,.bool e.mem] 26)).alloc (.cells #[.slice B r.sig.inn.length C,.slice D r.sig.out.length E,.int .i64 r.places,t,.slice (some ⟨A,go,none⟩) r.code.length V] 89)) (N:=w.heap.size+1+1) 86 #[.int .i64 c.op,.int .u64 (c.n:Int),.slice F c.args.length G,.slice H c.outs.length I,.slice J c.to.length tc] (by simp));refine(bJw e r.sig c _ _ _ _ (HE.out.below m.out (Aq _)) (aC.out.below m.out (Aq _)) (aD.out.below m.out (Aq _)) az.out).mono ?_;rintro en w1 ⟨vi,vo,ok,ii,u,rfl,q1,q2,q3,q4,L⟩;obtain⟨Ai,ci,rfl⟩:=q1.shape;obtain⟨Ao,co,rfl⟩:=q2.shape;have f:=fQ (m.out.trans (L.mono m.out.size));have ax:=fQ (au.out.below L au.out.lt);have ay:=fQ (aw.out.below L aw.out.lt);have Q3:=fQ q3;have Q4:=fQ q4;have M:=fQ (show c.args.length<=8/\c.outs.length<=8/\c.to.length<=65 from⟨W,k2,X⟩);clear q1 q2 q3 q4 L u1 ao u2 aq u3 ar g0 g1 g2 g3 g4 K
    cases hf:iJ e r.sig c.op c.n with
    | none=>
     have Y:=Q3.out hf;subst Y
     have a:=fQ (show g=false by
      cases g with
      | false=>rfl
      | true=>obtain⟨_,_,_,h,_⟩:=z.out.1 rfl;rw[hf]at h;cases h)
     clear hf;go_wp2;go_ret;exact⟨by rw[a.out];rfl,f.out⟩
    | some x=>
     obtain⟨Y,hx⟩:=Q4.out x hf;subst Y;subst hx;have HV:=fQ hf
     have af:=fQ (show g=true↔(ii.length=c.args.length/\u.length=c.outs.length/\lW r.places c.args false=true/\lW r.places c.outs true=true/\lW r.code.length c.to false=true/\uY c=true) by
      rw[z.out];constructor
      ·rintro⟨_,i',o',h,h2⟩;rw[hf]at h;injection h with h;injection h with e1 e2;subst e1;subst e2;exact h2
      ·intro h
       exact⟨M.out,ii,u,hf,h⟩)
     clear hf z Q3 Q4
     have v:=fQ (fun(h:¬(ii.length=c.args.length/\u.length=c.outs.length/\lW r.places c.args false=true/\lW r.places c.outs true=true/\lW r.code.length c.to false=true/\uY c=true))=>(show g=false by
      cases g with
      | false=>rfl
      | true=>exact absurd (af.out.1 rfl) h))
     obtain⟨c0,c1,c2,c3,c4⟩:=gJ ay.out;obtain⟨r0,r1,r2,r3,r4⟩:=gJ ax.out;have y1:=ay.out.lt;have y2:=ax.out.lt;by_cases m1:ii.length=c.args.length
     ·have v1:((ii.length:Int) != (c.args.length:Int))=false:=(by simp;omega);have M1:=fQ m1;clear m1;by_cases m2:u.length=c.outs.length
      ·have v2:((u.length:Int) != (c.outs.length:Int))=false:=(by simp;omega);have M2:=fQ m2;clear m2;go_wp2_with fail;refine(aZt false r.places _ c.args _ (HA.out.below f.out (Aq _)) (by have:=M.out;omega)).mono ?_;rintro en w2 ⟨rfl,m2,rfl⟩
       cases O:lW r.places c.args false with
       | false=>
        have a:=fQ (v.out (fun h=>by have h:=h.2.2.1;rw[O]at h;cases h));clear O;go_wp2;go_ret;exact⟨by rw[a.out];rfl,fV f.out _⟩
       | true=>
        have P2:=fQ O;clear O;go_wp2_with fail;refine(aZt true r.places _ c.outs _ ((HO.out.below f.out (Aq _)).drewN _) (by have:=M.out;omega)).mono ?_;rintro en w3 ⟨rfl,m3,rfl⟩
        cases P:lW r.places c.outs true with
        | false=>
         have a:=fQ (v.out (fun h=>by have h:=h.2.2.2.1;rw[P]at h;cases h));clear P;go_wp2;go_ret;exact⟨by rw[a.out];rfl,fV f.out _⟩
        | true=>
         have P3:=fQ P;clear P;go_wp2_with fail;refine(aZt false (r.code.length:Int) _ c.to _ ((HT.out.below f.out (Aq _)).drewN _) (by have:=M.out;omega)).mono ?_;rintro en w4 ⟨rfl,m4,rfl⟩
         cases Q:lW (r.code.length:Int) c.to false with
         | false=>
          have a:=fQ (v.out (fun h=>by have h:=h.2.2.2.2.1;rw[Q]at h;cases h));clear Q;go_wp2;go_ret;exact⟨by rw[a.out];rfl,fV f.out _⟩
         | true=>
          have P4:=fQ Q;clear Q
          have o:=fQ (show g=uY c by
           cases ht:uY c with
           | true=>exact af.out.2 ⟨M1.out,M2.out,P2.out,P3.out,P4.out,ht⟩
           | false=>exact v.out (fun h=>by have h:=h.2.2.2.2.2;rw[ht]at h;cases h))
          by_cases j:c.op=273
          ·have z1:(c.op == 273)=true:=(by simp[j]);by_cases d:c.to.length=1
           ·have s:((c.to.length:Int) == 1)=true:=beq_iff_eq.2 (by omega);have a:=fQ (show g=true by rw[o.out];simp[uY,j,d]);clear j d;go_wp2;go_ret;exact⟨by rw[a.out];rfl,fV f.out _⟩
           ·have s:((c.to.length:Int) == 1)=false:=beq_eq_false_iff_ne.2 (by omega);have a:=fQ (show g=false by rw[o.out];simp[uY,j,d]);clear j d;go_wp2;go_ret;exact⟨by rw[a.out];rfl,fV f.out _⟩
          have z1:(c.op == 273)=false:=(by simp[j]);by_cases k:c.op=274
          ·have z2:(c.op == 274)=true:=(by simp[k]);by_cases d:c.to.length=1
           ·have s:((c.to.length:Int) == 1)=true:=beq_iff_eq.2 (by omega);have a:=fQ (show g=true by rw[o.out];simp[uY,k,d]);clear j k d;go_wp2;go_ret;exact⟨by rw[a.out];rfl,fV f.out _⟩
           ·have s:((c.to.length:Int) == 1)=false:=beq_eq_false_iff_ne.2 (by omega);have a:=fQ (show g=false by rw[o.out];simp[uY,k,d]);clear j k d;go_wp2;go_ret;exact⟨by rw[a.out];rfl,fV f.out _⟩
          have z2:(c.op == 274)=false:=(by simp[k]);by_cases l:c.op=275
          ·have z3:(c.op == 275)=true:=(by simp[l]);by_cases d:1<=c.to.length
           ·have s:decide ((1:Int)<=(c.to.length:Int))=true:=decide_eq_true (by omega);have z5:decide (1<=c.to.length)=true:=decide_eq_true (by omega);have z6:decide (0<c.to.length)=true:=decide_eq_true (by omega);have a:=fQ (show g=true by rw[o.out];unfold uY;rw[if_neg (by omega),if_pos l];exact decide_eq_true d);clear j k l d;go_wp2;go_ret;exact⟨by rw[a.out];rfl,fV f.out _⟩
           ·have s:decide ((1:Int)<=(c.to.length:Int))=false:=decide_eq_false (by omega);have z5:decide (1<=c.to.length)=false:=decide_eq_false (by omega);have z6:decide (0<c.to.length)=false:=decide_eq_false (by omega);have a:=fQ (show g=false by rw[o.out];unfold uY;rw[if_neg (by omega),if_pos l];exact decide_eq_false d);clear j k l d;go_wp2;go_ret;exact⟨by rw[a.out];rfl,fV f.out _⟩
          have z3:(c.op == 275)=false:=(by simp[l]);by_cases d:c.to.length=0
          ·have s:((c.to.length:Int) == 0)=true:=beq_iff_eq.2 (by omega);have a:=fQ (show g=true by rw[o.out];unfold uY;rw[if_neg (by omega),if_neg l];exact decide_eq_true d);clear j k l d;go_wp2;go_ret;exact⟨by rw[a.out];rfl,fV f.out _⟩
          ·have s:((c.to.length:Int) == 0)=false:=beq_eq_false_iff_ne.2 (by omega);have a:=fQ (show g=false by rw[o.out];unfold uY;rw[if_neg (by omega),if_neg l];exact decide_eq_false d);clear j k l d;go_wp2;go_ret;exact⟨by rw[a.out];rfl,fV f.out _⟩
      ·have v2:((u.length:Int) != (c.outs.length:Int))=true:=(by simp;omega);have a:=fQ (v.out (fun h=>m2 h.2.1));clear m2;go_wp2;go_ret;exact⟨by rw[a.out];rfl,f.out⟩
     ·have v1:((ii.length:Int) != (c.args.length:Int))=true:=(by simp;omega);have a:=fQ (v.out (fun h=>m1 h.1));clear m1;go_wp2;go_ret;exact⟨by rw[a.out];rfl,f.out⟩
   ·have u3:decide ((65:Int)<(c.to.length:Int))=true:=(by simp;omega);have ar:decide (65<c.to.length)=true:=(by simp;omega);have a:=fQ (K.out (fun h=>X h.2.2));clear X;go_wp2;go_ret;exact⟨by rw[a.out];rfl,m.out⟩
  ·have u2:decide ((8:Int)<(c.outs.length:Int))=true:=(by simp;omega);have aq:decide (8<c.outs.length)=true:=(by simp;omega);have a:=fQ (K.out (fun h=>k2 h.2.1));clear k2;go_wp2;go_ret;exact⟨by rw[a.out];rfl,m.out⟩
 ·have u1:decide ((8:Int)<(c.args.length:Int))=true:=(by simp;omega);have ao:decide (8<c.args.length)=true:=(by simp;omega);have a:=fQ (K.out (fun h=>W h.1));clear W;go_wp2;go_ret;exact⟨by rw[a.out];rfl,m.out⟩
end Go.Proofs.YtabibkpfgmolkaaGreatDoor

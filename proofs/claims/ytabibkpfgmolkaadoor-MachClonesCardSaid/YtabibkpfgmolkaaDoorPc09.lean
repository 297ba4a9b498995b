/- Lemmas for the claim, part 9. Conditions: none. -/
import Derived.Test.YtabibkpfgmolkaaDoorPc08
import Derived.Deep.Cut
import Derived.LoopIn
import Derived.LoopNIn
import Derived.OwnWalkIn
import Derived.RangeFuncBound
import Derived.RangeFuncNested
import Derived.Shelf.RegionOpen
import Derived.StillTailTactics
set_option maxRecDepth 100000
set_option maxHeartbeats 16000000
set_option linter.unusedVariables false
set_option linter.unusedSimpArgs false
open Go.Lib renaming hid→cQ
open Go.Proofs.Tryd renaming prog→cZ
open Go.Proofs.Tryd
open Go.RowKit
open Nat renaming le_refl→Aj,lt_of_lt_of_le→Av,div_div_eq_div_mul→AQ,lt_of_le_of_lt→AK,add_sub_cancel→AW,div_le_self→Ad,reduceAdd→Ae,reduceSub→Af,pow_succ→Ag,zero_add→Ah,zero_le→Ai
open Go.RowKit.Below renaming refl→Aq,heap_setCell→AV
open List renaming replicate→Ax,getD_eq_getElem?_getD→Aw,getElem?_eq_getElem→Ay,length_cons→AJ,length_nil→AX,append_toArray→AZ,size_toArray→AY,push_toArray→Aa,cons_append→Ab,nil_append→Ac
open UInt8 renaming toNat→Az
open Int renaming eq_ofNat_of_zero_le→Ak
open Go renaming World→Bj,Value→Bq
open Go.RowKit renaming Below→Bx
namespace Go.Proofs.YtabibkpfgmolkaaDoor
variable {w:Bj}{v x0 x1 x2 x3 x4 x5:Bq}{g base n:Nat}{e t:TypeId}
theorem vZ(A:Option Addr)(n c addr en:Nat)(w:Bj)(hn:n<=140737488355328):
  Calls cZ 38 #[.slice A n c,.int .u64 addr,.int .u64 en] w fun e w'=>e = .returned (.bool (oK n addr en))/\w=w':=by
 by_cases h1:addr<=1099511627776
 ·have b:decide ((addr:Int)<=1099511627776)=true:=(by simp;omega);by_cases h2:en<=1099511627776
  ·have d:decide ((en:Int)<=1099511627776)=true:=(by simp;omega);have a:=cQ (show oK n addr en=decide (addr+en<=n) by simp[oK,h1,h2]);go_in;go_wp2;go_ret;rw[a.out];refine⟨?_,rfl⟩;show Ending.returned (.bool (decide ((addr:Int)+(en:Int)<=(n:Int))))=_
   congr 2
   rw[Bool.eq_iff_iff];simp;omega
  ·have d:decide ((en:Int)<=1099511627776)=false:=(by simp;omega);have a:=cQ (show oK n addr en=false by simp[oK,h1,h2]);clear h1 h2;go_in;go_wp2;go_ret;rw[a.out];exact⟨rfl,rfl⟩
 ·have b:decide ((addr:Int)<=1099511627776)=false:=(by simp;omega);have a:=cQ (show oK n addr en=false by simp[oK,h1]);clear h1;go_in;go_wp2;go_ret;rw[a.out];exact⟨rfl,rfl⟩
theorem uK(A:Option Addr)(n c addr off:Nat)(k wd:Int)(st h:Bool)(w:Bj)(hn:n<=140737488355328)(i:0<=wd)(ad:wd<=8)(ha:addr<18446744073709551616)(ho:off<18446744073709551616):
  Calls cZ 71 #[.slice A n c,.agg #[.int .i64 k,.int .i64 wd,.bool st,.bool h],.int .u64 addr,.int .u64 off] w fun e w'=>
   e = .returned (.tuple #[.int .i64 (fJ n wd addr off).1,.int .i64 (fJ n wd addr off).2])/\Bx w.heap.size w w':=by
 have f:Bx w.heap.size w (w.alloc (.cells #[.int .i64 k,.int .i64 wd,.bool st,.bool h] 129)):=(Aq _ _).alloc (Aj _) _;obtain⟨a,rfl⟩:=Ak i;by_cases h1:4294967295<addr
 ·have j:decide ((4294967295:Int)<(addr:Int))=true:=(by simp;omega);have b:=cQ (show fJ n a addr off=(0,1) by simp[fJ,h1]);clear h1;go_in;go_wp2;go_ret2;rw[b.out];exact⟨rfl,f⟩
 ·have j:decide ((4294967295:Int)<(addr:Int))=false:=(by simp;omega);by_cases h2:4294967295<off
  ·have l:decide ((4294967295:Int)<(off:Int))=true:=(by simp;omega);have b:=cQ (show fJ n a addr off=(0,1) by simp[fJ,h2]);clear h2;go_in;go_wp2;go_ret2;rw[b.out];exact⟨rfl,f⟩
  ·have l:decide ((4294967295:Int)<(off:Int))=false:=by simp;omega
   cases d:oK n (addr+off) a with
   | true=>
    have b:=cQ (show fJ n a addr off=(((addr+off:Nat):Int),0) by simp[fJ,h1,h2,d]);have g:=cQ d;have hle:addr+off<=n:=(by simp[oK]at d;omega);clear d;go_in;go_wp2_with fail;rw[show((addr:Int)+(off:Int))=((addr+off:Nat):Int)from by omega];refine(vZ A n c (addr+off) a _ hn).mono ?_;rintro e m ⟨rfl,rfl⟩;rw[g.out];go_wp2_with fail;go_ret2;rw[b.out];refine⟨?_,f⟩;simp
   | false=>
    have b:=cQ (show fJ n a addr off=(0,35) by simp[fJ,h1,h2,d]);have g:=cQ d;clear d;go_in;go_wp2_with fail;rw[show((addr:Int)+(off:Int))=((addr+off:Nat):Int)from by omega];refine(vZ A n c (addr+off) a _ hn).mono ?_;rintro e m ⟨rfl,rfl⟩;rw[g.out];go_wp2_with fail;go_ret2;rw[b.out];exact⟨rfl,f⟩
section
open Go.Shelf
attribute [local go_sem] Oper.semAt_some
abbrev Pl:=Nat×UInt8
def plV(x:Pl):Array Bq:=#[.int .i64 (x.1:Int),.int .u8 (x.2.toNat:Int)]
def came(f:Nat->Pl)(k:Nat):List Pl:=(List.range k).map f
theorem aVy(f:Nat->Pl)(k:Nat):came f (k+1)=came f k ++ [f k]:=by simp[came,List.range_succ]
theorem bXb(f:Nat->Pl)(k:Nat):(came f k).length=k:=by simp[came]
def Kb(b a:Nat)(A B:Bj):Prop:=Bx b A B/\B.cell? ⟨a,0,none⟩=A.cell? ⟨a,0,none⟩
theorem Kb.refl(a b:Nat)(A:Bj):Kb a b A A:=⟨Aq _ _,rfl⟩
theorem Kb.trans{a b:Nat}{A B C:Bj}(h:Kb a b A B)(c:Kb a b B C):Kb a b A C:=⟨h.1.trans c.1,c.2.trans h.2⟩
theorem Kb.put{c a:Nat}(hn:c<=w.heap.size)(hB:a<w.heap.size)(W:Bj)(l:Nat)(o b:Obj)(d:w.heap.size<=l)(h:W.heap[l]? = some o)(h1:o.isCells=false)(h2:o.isWalk=false):Kb c a W (W.putObj l b):=by
 refine⟨belowK_b hn W l o b d h h1 h2,World.cell?_of_block (w:=W) ?_⟩;show(W.heap.setIfInBounds l b)[a]? = W.heap[a]?;rw[Array.getElem?_setIfInBounds_ne (by omega)]
theorem cQp(F:Fence)(n:Nat)(u:F.fn 84)(w:F.round=none)(hn:1<=n)(l c d b off len cap:Nat)(f:Nat->UInt8)(aa:len<=140737488355328)(y:b<d)(J m:List Pl->Bj->Prop)
    (o:∀ pre x W,J pre W->pre.length<len->YieldAt F (n - 1) cZ l (plV x) W fun e a=>
      (e = .returned (.bool true)/\J (pre ++ [x]) a/\Kb d c W a)\/(e = .returned (.bool false)/\m (pre ++ [x]) a))
    (W:Bj) (z:W.cell? ⟨c,0,none⟩=some (.slice (some ⟨b,off,none⟩) len cap)) (hc:∀ j,j<len->W.cell? ⟨b,off+j,none⟩=some (.int .u8 ((f j).toNat:Int))) (A:J [] W) :
    CallsIn F n cZ 84 #[.func (.yield l) #[] #[],.pointer (some ⟨c,0,none⟩)] W fun e a=>(∃ v,e = .returned v) /\
      ((∃ q,q=came (fun j=>(len - 1 - j,f (len - 1 - j))) len/\J q a)\/(∃ pre,(∃ k,k<=len/\pre=came (fun j=>(len - 1 - j,f (len - 1 - j))) k)/\m pre a)):=by
  refine callsIn_of_wp func84 rfl u ?_ w;simp only[ntmps84,AY,AJ,AX,Ae,Af,Array.replicate_succ,Array.replicate_zero,Aa,AZ,Ac,Ab];have B:=cQ hc;have C:=cQ o;clear hc o
  gi_wp2
  gi_loopw [3] (fun i wr=>∃ k:Nat,k<=len/\i = .int .i64 ((len:Int) - 1 - k)/\J (came (fun j=>(len - 1 - j,f (len - 1 - j))) k) wr/\Kb d c W wr)
    (fun i _=>(intOf i+1).toNat)
  case atStart=>exact⟨0,Ai _,by simp,A,Kb.refl _ _ _⟩
  case round=>
    obtain⟨k,hk,rfl,r,g⟩:=hrel;have aq:wr.cell? ⟨c,0,none⟩=some (.slice (some ⟨b,off,none⟩) len cap):=g.2.trans z;by_cases D:k<len
    · obtain⟨j,s⟩:=cX (len - 1 - k)
      have h:(len:Int) - 1 - k=(j:Int):=(by omega);have E:j<len:=(by omega);obtain⟨fn,tmps,assign,body,G,H⟩:=C.out _ (j,f j) wr r (by rw[bXb];exact D);simp only[plV]at G;have ar:wr.cell? ⟨b,off+j,none⟩=some (.int .u8 ((f j).toNat:Int)):=(g.1.cell (p:=⟨b,off+j,none⟩) y).trans (B.out j E);rw[h];have t:=cQ s;have I:=cQ h;clear s h
      gi_wp2
      refine H.mono ?_;rintro e W3 (⟨rfl,K,L⟩ | ⟨rfl,M⟩)
      · gi_wp2
        go_roundw
        case rel=>exact⟨k+1,by omega,by have:=I.out;go_num,by rw[aVy,t.out];exact K,g.trans L⟩
        case measure=>simp[intOf]
      · gi_wp2
        refine bodyPost_ret (results_none rfl _ _ _) rfl ?_;exact⟨⟨_,rfl⟩,.inr ⟨_,⟨k+1,by omega,by rw[aVy,t.out]⟩,M⟩⟩
    · obtain rfl:k=len:=by omega
      gi_wp2
      go_end0;exact⟨⟨_,rfl⟩,.inl ⟨_,rfl,r⟩⟩
theorem aYt(a:Option Addr)(len cap:Nat)(w:Bj):
  Calls cZ 72 #[.slice a len cap] w fun e w'=>e = .returned (.func (.func 84) #[] #[.pointer (some ⟨w.heap.size,0,none⟩)])/\w.alloc (.cells #[.slice a len cap] 31)=w':=by
 go_in;go_wp2;go_ret;exact⟨rfl,rfl⟩
def xJ(l:List UInt8):List Pl:=came (fun j=>(l.length - 1 - j,l.getD (l.length - 1 - j) 0)) l.length
theorem bJh(F:Fence)(n:Nat)(i:F.fn 84)(k:F.round=none)(hn:1<=n)(a d b off cap:Nat)(l:List UInt8)(m:l.length<=140737488355328)(w:Bj)(o:a<w.heap.size)(r:d<=w.heap.size)
  (hc:w.cell? ⟨a,0,none⟩=some (.slice (some ⟨b,off,none⟩) l.length cap)) (f:b<d) (s:∀ j,j<l.length->w.cell? ⟨b,off+j,none⟩=some (.int .u8 ((l.getD j 0).toNat:Int))) :
  SeqStopsK F n cZ 84 #[.pointer (some ⟨a,0,none⟩)] plV (Kb d a) (fun g=>g=xJ l) (fun _=>True) l.length w:=fun q J t W h _ _ u v=>by
 have x:=(h.cell (p:=⟨a,0,none⟩) o).trans hc;refine(cQp F n i k hn q a d b off l.length cap (fun j=>l.getD j 0) m f J t u W x (fun j c=>(h.cell (p:=⟨b,off+j,none⟩) (Av f r)).trans (s j c)) v).mono ?_;rintro e W' ⟨he,⟨g,rfl,c⟩ | ⟨pre,_,c⟩⟩
 ·exact⟨he,.inl ⟨_,rfl,c⟩⟩
 ·exact⟨he,.inr ⟨_,trivial,c⟩⟩
end
section
open Go.Shelf
attribute [local go_sem] Oper.semAt_some
def tY(a:List Pl):Int:=a.foldl (fun q x=>bits .or .u64 (IntKind.u64.wrap (q*256)) (x.2.toNat:Int)) 0
theorem bJi(a:List Pl)(x:Pl):tY (a ++ [x])=bits .or .u64 (IntKind.u64.wrap (tY a*256)) (x.2.toNat:Int):=by simp[tY]
theorem bXq(W:Bj)(v:Bq)(t:TypeId):(W.alloc (.cells #[v] t)).cell? ⟨W.heap.size,0,none⟩=some v/\(W.alloc (.cells #[v] t)).frozen? ⟨W.heap.size,0,none⟩=false:=
 ⟨cell_of_row _ W.heap.size 0 #[v] t (0,0) (heap_alloc_new W _),frozen_of_row _ W.heap.size 0 #[v] t (heap_alloc_new W _)⟩
theorem cQr{W:Bj}{a:Addr}(o:Obj)(h:W.cell? a=some v/\W.frozen? a=false):(W.alloc o).cell? a=some v/\(W.alloc o).frozen? a=false:=
 ⟨cell_kept h.1 (World.grownBy_alloc W o none) (fun r e=>by cases e),(frozen_kept h.1 (World.grownBy_alloc W o none) (fun r e=>by cases e)).trans h.2⟩
theorem cZm(b o n c addr off at_ d:Nat)(op k:Int)(g:Bool)(l:List UInt8)(w:Bj)(z:acc op=some (k,(d:Int),false,g))(hn:n<=140737488355328)
    (ha:addr<18446744073709551616) (T:off<18446744073709551616) (U:b<w.heap.size) (ay:n<=c) (hp:fJ n d addr off=((at_:Int),0))
    (G:l.length=d) (az:at_+d<=n) (H:∀ j,j<d->w.cell? ⟨b,o+at_+j,none⟩=some (.int .u8 ((l.getD j 0).toNat:Int))) :
    CallsIn Fence.wide 10 cZ 57 #[.slice (some ⟨b,o,none⟩) n c,.int .i64 op,.int .u64 addr,.int .u64 off] w fun e w'=>e = .returned (.tuple #[.int .u64 (tW k d g (tY (xJ l))),.int .i64 0])/\Bx w.heap.size w w':=by
  obtain⟨I,J,_,_⟩:=jX z;have aA:1<=d:=(by omega);have aB:d<=8:=(by omega);have aC:=nW z;have L:=cQ hp;have M:=cQ H;have C:=cQ G;have HK:=cQ I;have aD:=cQ J;clear hp H z G I J;refine callsIn_of_wp_marks func57 rfl trivial ?_ rfl;simp only[ntmps57,AY,AJ,AX,Ae,Af,Array.replicate_succ,Array.replicate_zero,Aa,AZ,Ac,Ab]
  gi_wp2_with fail
  refine⟨trivial,?_⟩;refine(callsIn_wide.2 (fY _)).mono ?_;rintro e a ⟨rfl,rfl⟩
  gi_wp2_with fail
  refine⟨trivial,?_⟩;refine(callsIn_wide.2 (uK _ n c addr off k d false g _ hn (by omega) (by omega) ha T)).mono ?_;rintro e a ⟨rfl,m⟩;rw[L.out];obtain⟨r,V⟩:=bXw m;have aE:w.heap.size+1+1<=a.heap.size:=(by have:=m.size;simpa using this);have N:=cQ (show Bx w.heap.size w a from(((Aq _ _).alloc (Aj _) _).alloc (by simp) _).trans (m.mono (by simp;omega)));clear m;have E:w.heap.size+1<a.heap.size:=(by omega);have an:at_+d - at_=d:=(by omega);have ao:¬c=at_:=(by omega)
  gi_wp2_with fail
  refine⟨trivial,?_⟩;refine(callsIn_wide.2 (aYt _ d (c - at_) _)).mono ?_;rintro e w2 ⟨rfl,rfl⟩
  gi_wp2_with fail
  have O:=cQ (show Bx w.heap.size w ((a.alloc (.cells #[.int .u64 0] 62)).alloc (.cells #[.slice (some ⟨b,o+at_,none⟩) d (c - at_)] 31))from(N.out.alloc (by omega) _).alloc (by simp;omega) _);have P:=bXq a (.int .u64 0) 62;have c1:=bXq (a.alloc (.cells #[.int .u64 0] 62)) (.slice (some ⟨b,o+at_,none⟩) d (c - at_)) 31;simp only[World.size_alloc]at c1
  apply wpIn_rangeFunc_ownF rfl (by omega) (gf:=84) (lb:=#[.pointer (some ⟨a.heap.size+1,0,none⟩)]) rfl trivial (enters_of func84 (by kernel_rfl) rfl)
    (bJh Fence.wide (10 - 1) trivial rfl (by omega) (a.heap.size+1) a.heap.size b (o+at_) (c - at_) l (by rw[C.out];omega) _ (by simp) (by simp;omega) (by rw[C.out];exact c1.1) (by omega)
      (fun j X=>(O.out.cell (p:=⟨b,o+at_+j,none⟩) U).trans (M.out j (by rw[<-C.out];exact X)))) Kb.trans (Kb.put (by simp;omega) (by simp)) (Aq _ _) (fun _=>rfl)
    (fun pre W=>(W.cell? ⟨a.heap.size,0,none⟩=some (.int .u64 (tY pre))/\W.frozen? ⟨a.heap.size,0,none⟩=false)/\Bx a.heap.size a W)
    (fun _ _ _=>False)
    (OwnFrom.and (Own.from (fun s A B row hs hg Q=>⟨cell_kept hs.1 hg Q,(frozen_kept hs.1 hg Q).trans hs.2⟩) _) (ownFrom_below (Aj _) (by simp;omega)))
    (fun _ _ _ _ _ hs _ _=>hs)
    ⟨cQr _ P,((Aq _ _).alloc (Aj _) _).alloc (by simp) _⟩
  case hassign=>
    intro l x W K F;simp only[plV]
    gi_wp2
    exact F
  case hbody=>
    rintro l pre x W ⟨⟨hc,hf⟩,f⟩ _
    gi_wp2
    have aF:(x.2.toNat:Int)<256:=(by have:=x.2.toNat_lt;omega);refine⟨KeepsOthers.setCell _ _ _,⟨(Aq a.heap.size W).setCell (p:=⟨a.heap.size,0,none⟩) (Aj _) _,?_⟩,⟨?_,by rw[World.frozen?_setCell];exact hf⟩,f.setCell (p:=⟨a.heap.size,0,none⟩) (Aj _) _⟩
    · apply World.cell?_setCell_other;simp
    · rw[bJi,show IntKind.u64.wrap (x.2.toNat:Int)=(x.2.toNat:Int)from jQ (by omega)]
      exact World.cell?_setCell_same' _ _ _ (by rw[hc];rfl)
  case hdone=>
    rintro D ys W R rfl ⟨⟨hc,hf⟩,f⟩ F;have Y:=(f.cell (p:=⟨w.heap.size+1,0,none⟩) E).trans (r (w.heap.size+1) 0 (by simp));have Z:=(f.cell (p:=⟨w.heap.size+1,1,none⟩) E).trans (r (w.heap.size+1) 1 (by simp));have au:=(f.cell (p:=⟨w.heap.size+1,3,none⟩) E).trans (r (w.heap.size+1) 3 (by simp));simp at Y Z au;have aG:a.heap.size+1+1<=D:=(by simpa using R);have v:=cQ (show Bx w.heap.size w W from N.out.trans (f.mono (by omega)));clear r V P c1 O R f L M
    have fin:∀ (i:Bj) (q:Int) (y:Array Bq),KeepsOthers W i->Bx w.heap.size w i->y.getD 8 undef = .int .u64 q->y.getD 9 undef = .int .i64 0->q=tW k d g (tY (xJ l)) ->
        bodyPostM Fence.wide 10 cZ Tryd.f57 (fun e w'=>e = .returned (.tuple #[.int .u64 (tW k d g (tY (xJ l))),.int .i64 0])/\Bx w.heap.size w w') Exit.ret { tmps:=y,defers:=[{ target:=.collected D,args:=#[] }] } i:=by
      intro i q y aw ax h8 h9 hq;have S:=aw.same D _ F rfl;refine⟨by simp,.inl ⟨_,_,rfl,run_takeDeferred S,?_⟩⟩;refine⟨_,results_tmp2 (t:=8) (u:=9) rfl _ _ _,by rw[h8,h9,hq],ax.trans (belowK_b (w:=w) (Aj _) i D _ _ (by omega) S rfl rfl)⟩
    gi_wp2
    · rename_i h1 h2
      refine fin _ _ _ ((KeepsOthers.setCell _ _ _).trans (KeepsOthers.setCell _ _ _)) ((v.out.setCell (p:=⟨a.heap.size,0,none⟩) (by simp;omega) _).setCell (p:=⟨a.heap.size,0,none⟩) (by simp;omega) _) rfl rfl ?_;rw[h1,tW,aKx,if_pos (eq_of_beq h2),if_pos rfl,sxV]
    · rename_i h1 h2
      refine fin _ _ _ (KeepsOthers.setCell _ _ _) (v.out.setCell (p:=⟨a.heap.size,0,none⟩) (by simp;omega) _) rfl rfl ?_;rw[h1,tW,aKx,if_neg (ne_of_beq_false h2),if_pos rfl,sxV]
    · rename_i h1 h2
      refine fin _ _ _ (KeepsOthers.setCell _ _ _) (v.out.setCell (p:=⟨a.heap.size,0,none⟩) (by simp;omega) _) rfl rfl ?_;rw[h1,tW,aKx,if_pos (eq_of_beq h2),if_neg (by decide)]
    · rename_i h1 h2
      refine fin _ _ _ (KeepsOthers.refl _) v.out rfl rfl ?_;rw[h1,tW,aKx,if_neg (ne_of_beq_false h2),if_neg (by decide)]
  case hstop=>
    rintro D c pre W _ _ h _;exact h.elim
theorem aWn(l:List UInt8):(xJ l).map (·.2)=l.reverse:=by
 unfold xJ came;apply List.ext_getElem?;intro i;by_cases hi:i<l.length
 ·have a:l.length - 1 - i<l.length:=(by omega);simp[hi,Aw,a]
 ·simp[Nat.not_lt.1 hi]
theorem cQs(a:List Pl):tY a=(a.map (·.2)).foldl (fun q x=>bits .or .u64 (IntKind.u64.wrap (q*256)) (x.toNat:Int)) 0:=by
 rw[tY,List.foldl_map]
theorem bJj:∀ l:List UInt8,l.length<=8->tY (xJ l)=(leN (l.map Az):Int):=by
 intro l c;rw[cQs,aWn]
 induction l with
 | nil=>rfl
 | cons b l d=>
  have e:l.length<=7:=(by simpa using c);rw[List.reverse_cons,List.foldl_append,d (by omega)];have h1:=aYn (l.map Az) (fun x a=>by simp at a;obtain⟨y,_,rfl⟩:=a;exact y.toNat_lt);have h2:256 ^ (l.map Az).length<=256 ^ 7:=Nat.pow_le_pow_right (by omega) (by simpa using e);have hb:=b.toNat_lt;have h3:(leN (l.map Az):Nat)<72057594037927936:=Av h1 h2;simp only[List.foldl_cons,List.foldl_nil,List.map_cons,leN];rw[show((leN (l.map Az):Int)*256)=((leN (l.map Az)*256:Nat):Int)from by simp,jQ (by omega)]
  rw[bQa (by omega) (by omega),show leN (l.map Az)*256 ||| b.toNat=b.toNat+256*leN (l.map Az)from by
   rw[show(256:Nat)=2 ^ 8 from rfl,Nat.mul_comm,<-Nat.two_pow_add_eq_or_of_lt (by omega)];omega]
theorem cQt(A:Option Addr)(n c addr off:Nat)(op:Int)(m:List Nat)(w:Bj)(hs:Src w A n (bys m))(i:AllB m)(v:n<=c)(hn:n<=140737488355328)
  (ha:addr<18446744073709551616) (l:off<18446744073709551616) :
  Calls cZ 57 #[.slice A n c,.int .i64 op,.int .u64 addr,.int .u64 off] w fun e w'=>e = .returned (.tuple #[.int .u64 (mX m op addr off).1,.int .i64 (mX m op addr off).2])/\Bx w.heap.size w w':=by
 have d:m.length=n:=by have:=hs.1;rwa[yV]at this
 cases a:acc op with
 | none=>
  have f:=cQ (show mX m op addr off=(0,1) by simp[mX,a]);have p:=aQz a;clear a hs d;go_in;go_wp2_with fail;refine(fY _).mono ?_;rintro e h ⟨rfl,rfl⟩;go_wp2;go_ret2;rw[f.out];exact⟨rfl,((Aq _ _).alloc (Aj _) _).alloc (by simp) _⟩
 | some r=>
  obtain⟨k,wd,st,q⟩:=r;obtain⟨hk,ak,_,_⟩:=jX a
  cases st with
  | true=>
   have f:=cQ (show mX m op addr off=(0,1) by simp[mX,a]);have p:=nW a;clear a hs d;go_in;go_wp2_with fail;refine(fY _).mono ?_;rintro e h ⟨rfl,rfl⟩;go_wp2;go_ret2;rw[f.out];exact⟨rfl,((Aq _ _).alloc (Aj _) _).alloc (by simp) _⟩
  | false=>
   by_cases hp:(fJ n wd addr off).2=0
   ·obtain⟨y,s,_,_⟩:=aVo hp;obtain⟨g,rfl⟩:=Ak (show 0<=wd by omega);simp only[Int.toNat_natCast]at s;obtain⟨b,o,rfl,z,_⟩:=hs.2 (by omega);have t:(((m.drop (addr+off)).take g).map UInt8.ofNat).length=g:=(by simp;omega);have B:AllB ((m.drop (addr+off)).take g):=fun x u=>i x (List.mem_of_mem_drop (List.mem_of_mem_take u));refine((callsIn_wide (n:=10)).1 (cZm b o n c addr off (addr+off) g op k q _ w a hn ha l z v y t s ?_)).mono ?_
    ·intro j C;have:=hs.at_ (k:=addr+off+j) (by omega);rw[show o+(addr+off)+j=o+(addr+off+j)from by omega,this,bXe];have u:=i.get (k:=addr+off+j) (by omega);simp[C,Aw,show addr+off+j<m.length from by omega];omega
    ·rintro e w' ⟨rfl,D⟩;refine⟨?_,D⟩;rw[bJj _ (by rw[t];omega),cZh B];simp[mX,a,d,hp]
   ·have f:=cQ (show mX m op addr off=(0,(fJ n wd addr off).2) by simp[mX,a,d,hp]);have al:((fJ n wd addr off).2 != 0)=true:=(by simpa using hp);have p:=nW a;clear a hs d hp;go_in;go_wp2_with fail;refine(fY _).mono ?_;rintro e h ⟨rfl,rfl⟩;go_wp2_with fail;refine(uK _ n c addr off k wd false q _ hn (by omega) (by omega) ha l).mono ?_;rintro e h ⟨rfl,E⟩;go_wp2;go_ret2;rw[f.out];exact⟨rfl,(((Aq _ _).alloc (Aj _) _).alloc (by simp) _).trans (E.mono (by simp;omega))⟩
end
section
open Go.Shelf
attribute [local go_sem] Oper.semAt_some
theorem aYu:(cZ.info? 5).map (fun i=>(i.zero,i.size,i.bytes))=some (some (.int .u8 0),1,1):=by kernel_rfl
theorem oY(A:Option Addr)(n c:Nat)(m:List Nat)(w:Bj)(hs:Src w A n (bys m))(d:A=none->n=0/\c=0)(hn:n<=140737488355328):
  Calls cZ 34 #[.slice A n c] w fun e w'=>∃ v,e = .returned v/\w'.ownsRow w.heap.size 5 1 v n (bys m)/\Bx w.heap.size w w':=by
 have aa:∀ (w:Bj) (a:Option Addr) (n c f g:Nat),(binOp .eql 31 (.slice a n c) (.slice none f g)).run cZ w = .ok (.bool a.isNone) w:=fun w a n c f g=>Lib.run_eql_slice_nil w 31 5 a n c f g underlying31;rcases A with _ | ⟨b,o,sp⟩
 ·obtain⟨rfl,rfl⟩:=d rfl;have j:m = []:=(by have:=hs.1;simpa[bys]using this);subst j;clear d hs;go_in;go_wp2;go_ret;exact⟨_,rfl,World.ownsRow_nil _ _ _ _,Aq _ _⟩
 ·have k:=cQ (hs.below (w':=w.alloc (.cells #[] 5)) ((Aq _ _).alloc (Aj _) _) (Aj _));clear hs d;go_in;go_wp2_with (at_builtin;refine rZ _ rfl _ (.tmp 6) 31 rfl w.heap.size 5 _ 1 underlying31 aYu rfl _ 0 [] rfl (World.ownsRow_lit w #[] 0 (Aj _) (by unfold maxLen;omega) rfl) _ n c _ rfl k.out (bXd _) (by unfold maxLen;omega) (by omega) (by simp) ?_);rintro v' w' h i;have l:=cQ h;have p:=cQ i;clear h i;go_wp2;go_ret;exact⟨_,rfl,l.out,((Aq _ _).alloc (Aj _) _).trans p.out⟩
theorem cQq(A:Option Addr)(n c:Nat)(m:List Nat)(most:Int)(a:Nat)(w:Bj)(hs:Src w A n (bys m))(z:A=none->n=0/\c=0)(hn:n<=140737488355328)
  (aj : -9223372036854775808<=most) (ak:most<=9223372036854775807) (hp:a<18446744073709551616) :
  Calls cZ 54 #[.slice A n c,.int .i64 most,.int .u64 a] w fun e w'=>∃ j k,e = .returned (.tuple #[.slice j (gZ m most a).length k,.int .u64 (oZ n most a)]) /\
   w'.ownsRow w.heap.size 5 1 (.slice j (gZ m most a).length k) (gZ m most a).length (bys (gZ m most a))/\Bx w.heap.size w w':=by
 have B:m.length=n:=(by have:=hs.1;rwa[yV]at this);have l:=cQ hs;have o:=cQ z;have p:=cQ B;clear hs z B;by_cases hg:uZ n most a=true
 ·have HG:=cQ hg;have q:=cQ (show gZ m most a=m++Ax (256*a) 0 by simp[gZ,p.out,hg]);have s:=cQ (show oZ n most a=n / 256 by simp[oZ,hg]);simp only[uZ,decide_eq_true_eq]at hg;obtain⟨h1,h2⟩:=hg;have D:(n:Int)+256*a<=most:=(by omega);have h4:n+256*a<=4096:=(by omega);clear h2;have h5:(n:Int) % 256=0:=(by omega)
  have fin:∀ (h:Bj) (v:Bq) (i:Array Bq),h.ownsRow w.heap.size 5 1 v (n+256*a) (bys m++Ax (256*a) (.int .u8 0))->Bx w.heap.size w h->i.getD 6 undef=v->i.getD 7 undef = .int .u64 ((n / 256:Nat):Int) ->
    bodyPost cZ Tryd.f54 (fun e w'=>∃ j k,e = .returned (.tuple #[.slice j (gZ m most a).length k,.int .u64 (oZ n most a)]) /\
     w'.ownsRow w.heap.size 5 1 (.slice j (gZ m most a).length k) (gZ m most a).length (bys (gZ m most a))/\Bx w.heap.size w w') Exit.ret { tmps:=i,defers:=[] } h:=by
   intro h v i f g t u;refine bodyPost_ret (results_tmp2 rfl _ _ _) rfl ?_;obtain⟨j,k,rfl,_⟩:=cJ f;have C:(gZ m most a).length=n+256*a:=(by rw[q.out];simp[p.out]);refine⟨j,k,?_,?_,g⟩
   ·rw[C,s.out];show Ending.returned (.tuple #[i.getD 6 undef,i.getD 7 undef])=_;rw[t,u]
   ·rw[C,q.out,cXk,show bys (Ax (256*a) 0)=Ax (256*a) (.int .u8 0)from by simp[bys]];exact f
  rcases Int.lt_or_le most 4096 with E | E
  ·go_in;go_wp2_with fail;refine(oY A n c m _ l.out o.out hn).mono ?_;rintro e h ⟨v,rfl,b,d⟩;have f:=cQ b;have g:=cQ d;clear b d;go_wp2_with (at_builtin;refine aXy _ rfl _ (.tmp 38) 31 3 rfl w.heap.size 5 (.int .u8 0) 1 .i64 underlying31 underlying3 aYu rfl rfl _ n (bys m) rfl f.out .i64 (256*a) _ (by omega) rfl (by unfold maxLen;omega) (by omega) g.out.size ?_)
   all_goals
    rintro v' w' b d;have x:=cQ b;have y:=cQ d;clear b d f;go_wp2;refine fin _ _ _ x.out (g.out.trans y.out) rfl ?_;show Value.int .u64 _ = .int .u64 _
    first | rfl | (congr 1;omega)
  ·go_in;go_wp2_with fail;refine(oY A n c m _ l.out o.out hn).mono ?_;rintro e h ⟨v,rfl,b,d⟩;have f:=cQ b;have g:=cQ d;clear b d;go_wp2_with (at_builtin;refine aXy _ rfl _ (.tmp 38) 31 3 rfl w.heap.size 5 (.int .u8 0) 1 .i64 underlying31 underlying3 aYu rfl rfl _ n (bys m) rfl f.out .i64 (256*a) _ (by omega) rfl (by unfold maxLen;omega) (by omega) g.out.size ?_)
   all_goals
    rintro v' w' b d;have x:=cQ b;have y:=cQ d;clear b d f;go_wp2;refine fin _ _ _ x.out (g.out.trans y.out) rfl ?_;show Value.int .u64 _ = .int .u64 _
    first | rfl | (congr 1;omega)
 ·have r:uZ n most a=false:=(by simpa using hg);have q:=cQ (show gZ m most a=m by simp[gZ,p.out,r]);have s:=cQ (show oZ n most a=4294967295 by simp[oZ,r])
  have F:n % 256≠0\/((n % 256=0/\min most 4096<(n:Int))\/(n % 256=0/\(n:Int)<=min most 4096/\min most 4096<(n:Int)+256*a)):=by
   simp[uZ]at r;omega
  clear hg r
  have fin:∀ (h:Bj) (v:Bq) (i:Array Bq),h.ownsRow w.heap.size 5 1 v n (bys m)->Bx w.heap.size w h->i.getD 6 undef=v->i.getD 7 undef = .int .u64 4294967295 ->
    bodyPost cZ Tryd.f54 (fun e w'=>∃ j k,e = .returned (.tuple #[.slice j (gZ m most a).length k,.int .u64 (oZ n most a)]) /\
     w'.ownsRow w.heap.size 5 1 (.slice j (gZ m most a).length k) (gZ m most a).length (bys (gZ m most a))/\Bx w.heap.size w w') Exit.ret { tmps:=i,defers:=[] } h:=by
   intro h v i f g t u;refine bodyPost_ret (results_tmp2 rfl _ _ _) rfl ?_;obtain⟨j,k,rfl,_⟩:=cJ f;refine⟨j,k,?_,?_,g⟩
   ·rw[q.out,s.out,p.out];show Ending.returned (.tuple #[i.getD 6 undef,i.getD 7 undef])=_;rw[t,u];rfl
   ·rw[q.out,p.out];exact f
  rcases F with h1 | ⟨h1,h2⟩ | ⟨h1,h2,D⟩
  ·go_in;go_wp2_with fail;refine(oY A n c m _ l.out o.out hn).mono ?_;rintro e h ⟨v,rfl,b,d⟩;have f:=cQ b;have g:=cQ d;clear b d;go_wp2_with fail
   all_goals first | exact fin _ _ _ f.out g.out rfl rfl | (exfalso;omega) | skip
  ·go_in;go_wp2_with fail;refine(oY A n c m _ l.out o.out hn).mono ?_;rintro e h ⟨v,rfl,b,d⟩;have f:=cQ b;have g:=cQ d;clear b d;go_wp2_with fail
   all_goals first | exact fin _ _ _ f.out g.out rfl rfl | (exfalso;omega) | skip
  ·go_in;go_wp2_with fail;refine(oY A n c m _ l.out o.out hn).mono ?_;rintro e h ⟨v,rfl,b,d⟩;have f:=cQ b;have g:=cQ d;clear b d;go_wp2_with fail
   all_goals first | exact fin _ _ _ f.out g.out rfl rfl | (exfalso;omega) | skip
end
section
open Go.Shelf
attribute [local go_sem] Oper.semAt_some
def cXj(w0:Bj)(base g n c b:Nat)(m:List Nat)(a N:Nat)(d i:Bq)(wr:Bj):Prop:=
 ∃ k:Nat,k<=b/\i = .int .i64 k/\d = .int .u64 ((N / 256 ^ k:Nat):Int)/\Hid (wr.ownsRow base 5 1 (.slice (some ⟨g,0,none⟩) n c) n (bys (xX m a N k)))/\Hid (Bx base w0 wr)
theorem cQu(A:Option Addr)(n c addr off N a:Nat)(op k:Int)(C:Bool)(m:List Nat)(w:Bj)(D:acc op=some (k,(a:Int),true,C))(hs:Src w A n (bys m))(M:A=none->n=0/\c=0)(hn:n<=140737488355328)
  (ha:addr<=4294967295) (ho:off<=4294967295) (hN:N<18446744073709551616) (aI:addr+off+a<=n) (hp:fJ n a addr off=(((addr+off:Nat):Int),0)) (O:¬(k=127/\4294967295<N)) :
  Calls cZ 55 #[.slice A n c,.int .i64 op,.int .u64 addr,.int .u64 off,.int .u64 N] w fun e w'=>∃ P Q,e = .returned (.tuple #[.slice P n Q,.int .i64 0])/\w'.ownsRow w.heap.size 5 1 (.slice P n Q) n (bys (xX m (addr+off) N a))/\Bx w.heap.size w w':=by
 obtain⟨V,W,_,_⟩:=jX D;have aJ:1<=a:=(by omega);have aK:a<=8:=(by omega);have aL:=nW D;have R:m.length=n:=(by have:=hs.1;rwa[yV]at this);have HM:=cQ R;have S:=cQ hs;have T:=cQ M;have U:=cQ hp;have aM:=cQ O
 have key:(k == 127)=false\/((k == 127)=true/\decide (4294967295<(N:Int))=false):=by
  by_cases h:k=127
  ·exact .inr ⟨by simp[h],by simp;omega⟩
  ·exact .inl (by simp[h])
 clear D hs M hp O V W R;rcases key with X | ⟨X,aN⟩
 ·go_in;go_wp2_with fail;refine(fY _).mono ?_;rintro e b ⟨rfl,rfl⟩;go_wp2_with fail;refine(uK _ n c addr off k a true C _ hn (by omega) (by omega) (by omega) (by omega)).mono ?_;rintro e b ⟨rfl,f⟩;rw[U.out];obtain⟨t,E⟩:=bXw f;have Y:w.heap.size+1+1<=b.heap.size:=(by have:=f.size;simpa using this);have l:=cQ (show Bx w.heap.size w b from(((Aq _ _).alloc (Aj _) _).alloc (by simp) _).trans (f.mono (by simp;omega)));clear f;have F:=cQ (S.out.below l.out (Aj _));have u:w.heap.size+1<b.heap.size:=(by omega);go_wp2_with fail;refine(oY A n c m _ F.out T.out hn).mono ?_;rintro e w2 ⟨v,rfl,q,r⟩;obtain⟨g,G,rfl,Z,H,_⟩:=lV q (by omega);have y:=(r.cell (p:=⟨w.heap.size+1,1,none⟩) u).trans (t (w.heap.size+1) 1 (by simp));simp at y;have z:=cQ q;have I:=cQ (Aq b.heap.size w2);have J:=cQ r;clear q r t E;go_wp2_with fail;go_loopw [4,17,55] (fun K _ i wr=>cXj w2 b.heap.size g n G a m (addr+off) N K i wr) (fun _ _ i _=>a+1 - (intOf i).toNat)
  case atStart=>exact⟨0,by omega,rfl,by simp,z,I⟩
  case round=>
   clear z;obtain⟨j,hj,rfl,rfl,d,s⟩:=hrel;have ax:=(s.out.cell (p:=⟨w.heap.size+1,1,none⟩) u).trans y;by_cases L:j<a
   ·have az:decide ((j:Int)<(a:Int))=true:=(by simpa using L);have aA:wr.frozen? ⟨g,addr+off+j,none⟩=false:=d.out.frozenAt _
    obtain⟨v,hcell⟩:∃ v,wr.cell? ⟨g,addr+off+j,none⟩=some v:=by
     have hl:=d.out.1;rw[d.out.cellAt (addr+off+j) (by omega)];exact⟨_,Ay (by omega)⟩
    obtain⟨x,o⟩:=cX (N / 256 ^ j);have aH:x<18446744073709551616:=(by rw[<-o];exact AK (Ad _ _) hN);rw[o];have B:=cQ o;clear o;go_wp2;refine⟨⟨j+1,by omega,by simp,?_,?_,cQ (s.out.setCell (p:=⟨g,addr+off+j,none⟩) H _)⟩,by simp[intOf];omega⟩
    ·rw[Ag,<-AQ,B.out];rfl
    ·refine cQ ?_;rw[xX,B.out,<-bXf];exact(d.out.stored (addr+off+j) (.int .u8 ((x % 256:Nat):Int))).1
   ·obtain rfl:j=a:=(by omega);go_wp2;go_ret2;exact⟨_,_,rfl,eQ d.out l.out.size,l.out.trans ((J.out.trans s.out).mono l.out.size)⟩
 ·go_in;go_wp2_with fail;refine(fY _).mono ?_;rintro e b ⟨rfl,rfl⟩;go_wp2_with fail;refine(uK _ n c addr off k a true C _ hn (by omega) (by omega) (by omega) (by omega)).mono ?_;rintro e b ⟨rfl,f⟩;rw[U.out];obtain⟨t,E⟩:=bXw f;have Y:w.heap.size+1+1<=b.heap.size:=(by have:=f.size;simpa using this);have l:=cQ (show Bx w.heap.size w b from(((Aq _ _).alloc (Aj _) _).alloc (by simp) _).trans (f.mono (by simp;omega)));clear f;have F:=cQ (S.out.below l.out (Aj _));have u:w.heap.size+1<b.heap.size:=(by omega);go_wp2_with fail;refine(oY A n c m _ F.out T.out hn).mono ?_;rintro e w2 ⟨v,rfl,q,r⟩;obtain⟨g,G,rfl,Z,H,_⟩:=lV q (by omega);have y:=(r.cell (p:=⟨w.heap.size+1,1,none⟩) u).trans (t (w.heap.size+1) 1 (by simp));simp at y;have z:=cQ q;have I:=cQ (Aq b.heap.size w2);have J:=cQ r;clear q r t E;go_wp2_with fail;go_loopw [4,17,55] (fun K _ i wr=>cXj w2 b.heap.size g n G a m (addr+off) N K i wr) (fun _ _ i _=>a+1 - (intOf i).toNat)
  case atStart=>exact⟨0,by omega,rfl,by simp,z,I⟩
  case round=>
   clear z;obtain⟨j,hj,rfl,rfl,d,s⟩:=hrel;have ax:=(s.out.cell (p:=⟨w.heap.size+1,1,none⟩) u).trans y;by_cases L:j<a
   ·have az:decide ((j:Int)<(a:Int))=true:=(by simpa using L);have aA:wr.frozen? ⟨g,addr+off+j,none⟩=false:=d.out.frozenAt _
    obtain⟨v,hcell⟩:∃ v,wr.cell? ⟨g,addr+off+j,none⟩=some v:=by
     have hl:=d.out.1;rw[d.out.cellAt (addr+off+j) (by omega)];exact⟨_,Ay (by omega)⟩
    obtain⟨x,o⟩:=cX (N / 256 ^ j);have aH:x<18446744073709551616:=(by rw[<-o];exact AK (Ad _ _) hN);rw[o];have B:=cQ o;clear o;go_wp2;refine⟨⟨j+1,by omega,by simp,?_,?_,cQ (s.out.setCell (p:=⟨g,addr+off+j,none⟩) H _)⟩,by simp[intOf];omega⟩
    ·rw[Ag,<-AQ,B.out];rfl
    ·refine cQ ?_;rw[xX,B.out,<-bXf];exact(d.out.stored (addr+off+j) (.int .u8 ((x % 256:Nat):Int))).1
   ·obtain rfl:j=a:=(by omega);go_wp2;go_ret2;exact⟨_,_,rfl,eQ d.out l.out.size,l.out.trans ((J.out.trans s.out).mono l.out.size)⟩
theorem bVx(A:Option Addr)(n c addr off N:Nat)(op:Int)(m:List Nat)(w:Bj)(hs:Src w A n (bys m))(i:A=none->n=0/\c=0)(hn:n<=140737488355328)
  (ha:addr<18446744073709551616) (z:off<18446744073709551616) (hN:N<18446744073709551616) :
  Calls cZ 55 #[.slice A n c,.int .i64 op,.int .u64 addr,.int .u64 off,.int .u64 N] w fun e w'=>∃ j l,e = .returned (.tuple #[.slice j (gQ m op addr off N).length l,.int .i64 (jJ n op addr off N)]) /\
   w'.ownsRow w.heap.size 5 1 (.slice j (gQ m op addr off N).length l) (gQ m op addr off N).length (bys (gQ m op addr off N))/\Bx w.heap.size w w':=by
 have b:m.length=n:=by have:=hs.1;rwa[yV]at this
 have bad:∀ E:Int,E≠0->jJ n op addr off N=E->∀ (w':Bj) (g:Array Bq),g.getD 10 undef = .slice none 0 0->g.getD 11 undef = .int .i64 E->Bx w.heap.size w w' ->
   bodyPost cZ Tryd.f55 (fun e w'=>∃ j l,e = .returned (.tuple #[.slice j (gQ m op addr off N).length l,.int .i64 (jJ n op addr off N)]) /\
    w'.ownsRow w.heap.size 5 1 (.slice j (gQ m op addr off N).length l) (gQ m op addr off N).length (bys (gQ m op addr off N))/\Bx w.heap.size w w') Exit.ret { tmps:=g,defers:=[] } w':=by
  intro E p v w' g B e2 C;have o:gQ m op addr off N = []:=(by rw[gQ,b,v,if_neg p]);refine bodyPost_ret (results_tmp2 (t:=10) (u:=11) rfl _ _ _) rfl ⟨none,0,?_,?_,C⟩
  ·rw[o,v];show Ending.returned (.tuple #[g.getD 10 undef,g.getD 11 undef])=_;rw[B,e2];rfl
  ·rw[o];exact World.ownsRow_nil _ _ _ _
 cases a:acc op with
 | none=>
  have d:=cQ (show jJ n op addr off N=1 by simp[jJ,a]);have s:=aQz a;clear a hs b i;go_in;go_wp2_with fail;refine(fY _).mono ?_;rintro e q ⟨rfl,rfl⟩;go_wp2;exact bad 1 (by decide) d.out _ _ rfl rfl (((Aq _ _).alloc (Aj _) _).alloc (by simp) _)
 | some r=>
  obtain⟨k,wd,st,x⟩:=r;obtain⟨hk,an,_,_⟩:=jX a
  cases st with
  | false=>
   have d:=cQ (show jJ n op addr off N=1 by simp[jJ,a]);have s:=nW a;clear a hs b i;go_in;go_wp2_with fail;refine(fY _).mono ?_;rintro e q ⟨rfl,rfl⟩;go_wp2;exact bad 1 (by decide) d.out _ _ rfl rfl (((Aq _ _).alloc (Aj _) _).alloc (by simp) _)
  | true=>
   by_cases f:k=127/\4294967295<N
   ·have d:=cQ (show jJ n op addr off N=1 by simp[jJ,a,f]);have s:=nW a;have g1:(k == 127)=true:=(by simp[f.1]);have g2:decide (4294967295<(N:Int))=true:=(by simp;omega);clear a hs b i f;go_in;go_wp2_with fail;refine(fY _).mono ?_;rintro e q ⟨rfl,rfl⟩;go_wp2;exact bad 1 (by decide) d.out _ _ rfl rfl (((Aq _ _).alloc (Aj _) _).alloc (by simp) _)
   ·by_cases hp:(fJ n wd addr off).2=0
    ·obtain⟨D,F,G,H⟩:=aVo hp;have p:jJ n op addr off N=0:=(by simp[jJ,a,f,hp]);obtain⟨y,rfl⟩:=Ak (show 0<=wd by omega);have o:gQ m op addr off N=xX m (addr+off) N y:=(by simp[gQ,b,p,cJv,a]);have I:(gQ m op addr off N).length=n:=(by rw[o,aQk,b]);rw[I,o,p];exact cQu A n c addr off N y op k x m w a hs i hn G H hN (by simpa using F) D f
    ·have d:=cQ (show jJ n op addr off N=(fJ n wd addr off).2 by simp[jJ,a,f]);have ao:((fJ n wd addr off).2 != 0)=true:=(by simpa using hp);have s:=nW a;have J:=cQ hp
     have key:(k == 127)=false\/((k == 127)=true/\decide (4294967295<(N:Int))=false):=by
      by_cases h:k=127
      ·exact .inr ⟨by simp[h],by simp;omega⟩
      ·exact .inl (by simp[h])
     clear a hs b hp i f;rcases key with K | ⟨K,aq⟩
     all_goals
      go_in;go_wp2_with fail;refine(fY _).mono ?_;rintro e q ⟨rfl,rfl⟩;go_wp2_with fail;refine(uK _ n c addr off k wd true x _ hn (by omega) (by omega) ha z).mono ?_;rintro e q ⟨rfl,L⟩;go_wp2;exact bad _ J.out d.out _ _ rfl rfl ((((Aq _ _).alloc (Aj _) _).alloc (by simp) _).trans (L.mono (by simp;omega)))
end
def aYc:Nat->Nat->List Nat->List Nat
 | 0,_,V=>V
 | m+1,o,V=>aYc m (o+1) (V.set o 0)
theorem aYd:∀ (m o:Nat) (V:List Nat),o+m<=V.length->aYc m o (aXn o V)=aXn (o+m) V
 | 0,o,V,_=>rfl
 | m+1,o,V,h=>by
  rw[aYc,bVq (by omega),aYd m (o+1) V (by omega)]
  congr 1
  omega
theorem bZo(V:List Nat):aYc (min 8 V.length) 0 V=zeroV 8 V:=by
 have:=aYd (min 8 V.length) 0 V (by omega);rw[bVp]at this;rw[this,Ah];exact bVr rfl
theorem aYe(w:Bj):(zeroValue 62).run cZ w = .ok (.int .u64 0) w:=by kernel_rfl
theorem KRef.zero{C:KaC}{f:FrD}{rest:List FrD}{pg c n:Nat}{vs:List Bq}:∀ (m o:Nat) {X:KaS} {w:Bj} (V:List Nat),KRef C X w->X.x.st={ f with V:=V } :: rest->X.ps = .slice (some ⟨pg,0,none⟩) n c :: vs->V.length=n ->
  KRef C (mY X f rest (aYc m o V)) (w.setCells pg o (Ax m (.int .u64 0)))/\(w.setCells pg o (Ax m (.int .u64 0))).heap.size=w.heap.size
 | 0,o,X,w,V,h,a,b,hn=>by
  refine⟨?_,rfl⟩
  have e:mY X f rest V=X:=by
   unfold mY;cases X;rename_i x _ _ _ _ _ _ _;cases x;simp at a ⊢;exact a.symm
  show KRef C (mY X f rest V) w;rw[e];exact h
 | m+1,o,X,w,V,h,a,b,hn=>by
  have h1:=h.cYs (f:={ f with V:=V }) (rest:=rest) a (g:=pg) (c:=c) (vs:=vs) (by subst hn;exact b) o 0;have h2:=KRef.zero m (o+1) (X:={ X with x:={ X.x with st:={ f with V:=V.set o 0 } :: rest } }) (V.set o 0) h1 rfl b (by rw[List.length_set];exact hn);refine⟨h2.1,?_⟩;show((w.setCell ⟨pg,o,none⟩ (.int .u64 0)).setCells pg (o+1) (Ax m (.int .u64 0))).heap.size=_;exact h2.2.trans (by simp[World.setCell])
theorem wV{k pg:Nat}:∀ (vs:List Bq) (o:Nat) (w:Bj),k≠pg->(w.setCells pg o vs).heap[k]? = w.heap[k]?
 | [],_,_,_=>rfl
 | v :: vs,o,w,h=>(wV vs (o+1) _ h).trans (AV _ _ _ _ h)
theorem aKs(w:Bj)(a:TypeId)(A:Option Addr)(c:Nat):(Builtin.clear_ #[30] a #[.slice A 0 c]).run cZ w = .ok (.tuple #[]) w:=by
 cases A <;> simp[Builtin.clear_,run_underlying underlying30,aYe,Builtin.zeroCells,storeCells]
theorem bKm{a:Nat}{b:List Bq}(h:w.ownsRow base e a v n b):n<=maxLen:=by
 rcases h.2 with⟨_,h2⟩ | ⟨_,_,_,_,_,_,c,d,_⟩
 ·rw[h2];exact Ai _
 ·exact Nat.le_trans c d
theorem yY{pg m:Nat}:∀ (vs:List Bq) (o:Nat) (w:Bj),(w.drewN m).setCells pg o vs=(w.setCells pg o vs).drewN m
 | [],_,_=>rfl
 | v :: vs,o,w=>yY vs (o+1) (w.setCell ⟨pg,o,none⟩ v)
theorem KK.cells{x z:KaS}{w0:Bj}{pg:Nat}(a:x.lab pg≠0):∀ (vs:List Bq) (o:Nat) {w:Bj},KK z x w0 w->KK z x w0 (w.setCells pg o vs)
 | [],_,_,h=>h
 | v :: vs,o,w,h=>KK.cells a vs (o+1) (h.set (y:=x) o v (.inl a) rfl)
theorem bYk(C:KaC)(X:KaS)(f:FrD)(rest:List FrD)(T:Bq)(l:List Nat)(w:Bj)(h:KRef C X w)(N:KC C)(O:X.x.st=f :: rest)(G:UR w T l)(hf:∀ k,T.ownBlock=some k->X.lab k=8)(U:ChainOk (f :: rest))(W:∀ g∈rest,FrOk C.p g)(hl:l.length=f.r.sig.out.length)(hd:rest.length<=16):
  Calls cZ 37 #[.pointer (some ⟨C.mm,0,none⟩),T] w (aXf C X (yX X.x l rest) w):=by
 obtain⟨g,cS,bg,bh,Y,bj,aA,_,_,_,_,hg,bk,_,_⟩:=KRef.top h.toKRest O;have m0:=h.cWt;have bm:w.cell? ⟨C.cb,12,none⟩=some (.slice (some ⟨g,0,none⟩) (rest.length+1) cS):=(by rw[h.cell 12];simp[kCells,Y]);have f12:=frz h.cb 12;have yb:=h.cb.lt;have ym:=h.mm.lt;have d:=(h.dQd O Y).drew;have H:=((KK.refl X w).set (y:={ X with sv:=.slice (some ⟨g,0,none⟩) rest.length cS,ps:=X.ps.tail,x:={ X.x with st:=rest } }) (g:=C.cb) 12 (.slice (some ⟨g,0,none⟩) rest.length cS) (.inl (KRef.lcb h.toKRest)) rfl).drew;obtain⟨A,c,rfl⟩:=G.shape
 have Z:UR (w.setCell ⟨C.cb,12,none⟩ (.slice (some ⟨g,0,none⟩) rest.length cS)).drew (.slice A l.length c) l:=G.heap H.size (fun k I bn=>AV _ _ _ _ (fun e=>by
  have e:k=C.cb:=e;have:=hf k I;rw[e,h.cl]at this
  cases this))
 obtain⟨B,ay⟩:=cX ((w.setCell ⟨C.cb,12,none⟩ (.slice (some ⟨g,0,none⟩) rest.length cS)).drew);rw[ay]at d H Z;have aB:=cQ ay;have HR:=cQ d;have HK:=cQ H;have HU:=cQ Z;have HF:=cQ hf;have m1:=d.cWt;have aH:B.cell? ⟨C.cb,12,none⟩=some (.slice (some ⟨g,0,none⟩) rest.length cS):=d.cell 12;have bo:=d.cb.lt;have bp:=d.mm.lt;have bq:g<B.heap.size:=Av hg H.size;have br:=cQ N;have HL:=cQ hl;have bs:=cQ W;have bt:=cQ U;have bu:¬cS=0:=(by omega);have ad:=W;have af:=U;clear ay Z hf hl W U Y;rcases rest with _ | ⟨q,b⟩
 ·have HE:=cQ (show yX X.x l []=jV X.x X.x.s l 0 from rfl);clear d H h O G aA ad af;simp only[AX]at *;go_in;go_wp2_with fail;go_region;rw[aB.out];go_wp2_with fail;refine(aQh C _ _ l 0 _ HR.out HU.out HF.out).mono ?_;rintro e w2 ⟨rfl,X',h1,h2,h3⟩;have H1:=cQ h1;have H2:=cQ h2;have H3:=cQ h3;clear h1 h2 h3;go_wp2;go_end0;exact⟨rfl,X',H1.out,HK.out.trans H2.out,H3.out⟩
 ·obtain⟨P,aI,aC,aJ⟩:=ad q (List.mem_cons_self ..);obtain⟨⟨Q,L,bw,aK,ah⟩,_⟩:=af;obtain⟨g',bx,pv,aL,i,e2,e3,e4,e5,e6,e7,e8,e9,e10,aD⟩:=KRef.top d.toKRest (f:=q) (rest:=b) rfl;have i:Value.slice (some ⟨g,0,none⟩) (b.length+1) cS=_:=i;injection i with i _ aM;injection i with i;injection i with i;subst i;subst aM;obtain⟨k,I⟩:∃ k,q.k=k+1:=⟨q.k - 1,by omega⟩;obtain⟨n,hn⟩:=cX q.V.length;rw[hn]at e10;obtain⟨A1,R,rfl,bz⟩:=cJ e10;obtain⟨t,aE⟩:=cX (min 8 n);have aN:min (8:Int) (n:Int)=(t:Int):=(by omega);have aO:(0:Int)<=(t:Int):=(by omega);have aP:(t:Int)<=(R:Int):=(by omega);have bA:n<=9223372036854775807:=(by have:=bKm e10;unfold maxLen at this;omega)
  obtain⟨wc,HC⟩:∃ wc,Hid ((∀ m J,(Builtin.clear_ #[30] J #[.slice A1 t R]).run cZ (B.drewN m) = .ok (.tuple #[]) (wc.drewN m))/\KRef C (mY { X with sv:=.slice (some ⟨g,0,none⟩) (b.length+1) cS,ps:=X.ps.tail,x:={ X.x with st:=q :: b } } q b (zeroV 8 q.V)) wc/\KK X X w wc/\UR wc (.slice A l.length c) l):=by
   by_cases h0:n=0
   ·subst h0;have h8:t=0:=(by omega);subst h8;have hV:q.V = []:=List.eq_nil_of_length_eq_zero hn;refine⟨B,cQ ⟨fun m J=>aKs _ _ _ _,?_,HK.out.to rfl,HU.out⟩⟩
    have hq:mY { X with sv:=.slice (some ⟨g,0,none⟩) (b.length+1) cS,ps:=X.ps.tail,x:={ X.x with st:=q :: b } } q b (zeroV 8 q.V)={ X with sv:=.slice (some ⟨g,0,none⟩) (b.length+1) cS,ps:=X.ps.tail,x:={ X.x with st:=q :: b } }:=by
     unfold mY;rw[hV,show zeroV 8 [] = []from rfl];cases q;simp at hV;subst hV;rfl
    rw[hq];exact d
   ·obtain⟨pg,pc,az,bB,bC,bD⟩:=lV e10 (by omega);injection az with az _ aQ;subst az;subst aQ;have hz:=KRef.zero (f:=q) (rest:=b) t 0 q.V d rfl e3 hn
    have ai:∀ m J,(Builtin.clear_ #[30] J #[.slice (some ⟨pg,0,none⟩) t R]).run cZ (B.drewN m) = .ok (.tuple #[]) ((B.setCells pg 0 (Ax t (.int .u64 0))).drewN m):=fun m J=>by
     rw[<-yY];exact Lib.run_clear_slice (B.drewN m) 30 62 J (.int .u64 0) underlying30 aYe rfl rfl pg 0 t R (by omega) (fun j E=>by obtain⟨v,hv⟩:=aQa e10 (k:=j) (by omega);have hv:(B.drewN m).cell? _=_:=hv;rw[Ah,hv];rfl) (fun j E=>e10.frozenAt _)
    have hb:=bZo q.V;rw[hn,aE]at hb;rw[hb]at hz;have K:=aD pg rfl;refine⟨_,cQ ⟨ai,hz.1,(KK.cells (x:=X) (by have K:X.lab pg=_:=K;rw[K];omega) _ _ (HK.out.to rfl)),HU.out.heap (Nat.le_of_eq hz.2.symm) (fun j E _=>wV _ _ _ (fun e=>?_))⟩⟩;have E:=HF.out j E;have K:X.lab pg=_:=K;rw[e,K]at E;omega
  obtain⟨ai,M,aF,aG⟩:=HC.out;have aR:(zeroV 8 q.V).length=n:=(uY 8 q.V).trans hn;obtain⟨g2,bE,bF,aS,u,d2,d3,d4,S,d6,d7,d8,d9,d10,d11⟩:=KRef.top M.toKRest (f:={ q with V:=zeroV 8 q.V }) (rest:=b) rfl;have u:Value.slice (some ⟨g,0,none⟩) (b.length+1) cS=_:=u;injection u with u _ aT;injection u with u;injection u with u;subst u;subst aT;obtain⟨ra,rb,rp,rd,y0,y1,y2,y3,y4,y5,_,_,_,y9⟩:=N.row M.bel P;rw[I,AW]at L;obtain⟨dA,dn,dc,aU⟩:∃ A n c,rd=Value.slice A n c:=(by obtain⟨A,c,e,_⟩:=y9.len;exact⟨A,_,c,e⟩);subst aU;obtain⟨aV,aW,bb,co,x2,x3,x4,aX,z,z0,z1,z2,z3,z4,z5⟩:=KC.code M.bel y9 L;subst aX;have aY:(k:Int)<(dn:Int):=(by omega);have aZ:(k:Int)<=4096:=(by have:=(N.ok.row _ _ P).1.n2;omega);have S:wc.cell? ⟨g,b.length*3+1,none⟩=some (.int .i64 (q.k:Int)):=S;rw[I]at S;have bG:((k+1:Nat):Int) - 1=(k:Int):=(by omega);have bH:IntKind.i64.wrap (k:Int)=(k:Int):=IntWalk.i64_in _ (by omega);have ak:=cQ M;have al:=cQ aF;have an:=cQ aG;have a1:=cQ z5;have a6:=cQ L;have a7:=cQ ah;have a8:=cQ I;have HN:=cQ hn;have ba:=cQ aC;have ao:=(N.ok.row _ _ P).1.code Q (List.mem_of_getElem? L);have bc:=cQ ao;have t0:(((b.length+1:Nat):Int) == 0)=false:=(by simp;omega);have t1:((b.length+1:Nat):Int) - 1=(b.length:Int):=(by omega);have t2:(b.length:Int)<((b.length+1:Nat):Int):=(by omega);clear d H h O G aA ad HC P aI aC aJ L aK ah M aF aG y9 z5 I hn ao e10 aD d10 d11 aE aR d2 e2 e3 d3 aV;simp only[AJ]at *;go_in;go_wp2_with fail;go_region;rw[aB.out];go_wp2_with fail;go_quiet (fail);go_wp2_with fail;go_region;go_wp2_with fail;obtain⟨F,D⟩:=cX (wc.drewN (nq+1));have HD:=cQ (show KRef C _ F.drew from D ▸ (ak.out.drewN (nq+1)).drew);have bd:=cQ (show KK X X w F.drew from D ▸ (al.out.below (dV (Aq _ _) (nq+1))).drew);have be:=cQ (show UR F.drew (.slice A l.length c) l from D ▸ (show UR (wc.drewN (nq+1)).drew _ l from an.out))
  have q0:∀ a,F.cell? a=wc.cell? a:=fun a=>by rw[<-D];rfl
  rw[<-q0]at d4 S d6 y1 y2 y3 y4 y5 z0 z1 z2 z3 z4;rw[D];have y0:C.zf<F.heap.size:=(by rw[<-D];exact y0);have z:bb<F.heap.size:=(by rw[<-D];exact z);clear D q0 ak al an;go_still_tail 16,(by kernel_rfl);change wpList _ _ _ _ _ F.drew;go_wp2_with fail;refine(jZ C _ { q with V:=zeroV 8 q.V } b g cS _ Q _ l _ HD.out rfl rfl a1.out be.out ?_ ?_ ?_).mono ?_
  ·intro j E;have:=HF.out j E;show X.lab j≠_;omega
  ·intro o G;obtain⟨_,_,_,_,_,_,_,_,_,h8,_⟩:=cY bc.out;have:=h8 o G;show 0<=o/\o<((zeroV 8 q.V).length:Int);rw[uY,ba.out];omega
  ·rw[HL.out,a7.out];exact Aj _
  rintro e w2 ⟨rfl,h1,h2⟩;have H1:=cQ h1;have H2:=cQ h2;clear h1 h2;go_wp2;go_end0;refine⟨rfl,_,H1.out,bd.out.trans (KK.trans (KK.refl _ _) (H2.out.from rfl)),?_⟩;have bf:((q.r.code[q.k - 1]?).getD aYj)=Q:=(by rw[a8.out,AW,a6.out];rfl);show({ X.x with st:={ q with V:=putV Q.outs l (zeroV 8 q.V) } :: b }:MaD)={ X.x with st:={ q with V:=putV ((q.r.code[q.k - 1]?).getD aYj).outs l (zeroV 8 q.V) } :: b };rw[bf]
end Go.Proofs.YtabibkpfgmolkaaDoor
namespace Go.Proofs.YtabibkpfgmolkaaDoor
variable {w:Bj}{v x0 x1 x2 x3 x4 x5:Bq}{g base n:Nat}{e t:TypeId}
theorem cQl:(cZ.info? 5).map (fun i=>(i.zero,i.size,i.bytes))=some (some (.int .u8 0),1,1):=by kernel_rfl
structure CpB (w:Bj) (x0 x1 x2 x3 x4 x5:Bq) (wr:Bj):Prop where
 k:Blk wr w.heap.size 33 #[x0,x1,x2,x3,x4,x5]
 z:Blk wr (w.heap.size+1) 33 #[.slice none 0 0,.int .i64 0,.slice none 0 0,.int .i64 0,.slice none 0 0,.slice none 0 0]
 b:Bx w.heap.size w wr
theorem CpB.next{a c d e f g:Bq}{wr w':Bj}(h:CpB w x0 x1 x2 x3 x4 x5 wr)(hg:wr.grownBy w' none)(i:Nat)(v:Bq)(hi:(#[x0,x1,x2,x3,x4,x5]:Array Bq).setIfInBounds i v=#[a,c,d,e,f,g]):CpB w a c d e f g (w'.setCell ⟨w.heap.size,i,none⟩ v):=by
 have l:=dY (h.k.grown hg (by intro h;cases h)) i v;rw[hi]at l;have hs:=h.b.size;refine⟨l,iW (h.z.grown hg (by intro h;cases h)) (by omega),?_⟩;exact(tV h.b hg hs (fun j m=>by cases m)).setCell (p:=⟨w.heap.size,i,none⟩) (Aj _) _
theorem fX{i:Nat}{u:Bq}{a:List Bq}{cs:Array Bq}(h:w.ownsRow base e 1 v n a)(b:Blk w g t cs)(c:e≠t):(w.setCell ⟨g,i,none⟩ u).ownsRow base e 1 v n a:=iV h (fV h b c)
def cJt(s:RawS)(w:Bj)(en:Ending)(w':Bj):Prop:=∃ a g i l,en = .returned (.agg #[a,.int .i64 s.most,g,.int .i64 s.fuel,i,l])/\w'.ownsRow w.heap.size 5 1 a s.mem.length (bys s.mem)/\w'.ownsRow w.heap.size 62 1 g s.globals.length (u64V s.globals)/\w'.ownsRow w.heap.size 62 1 i s.input.length (u64V s.input)/\w'.ownsRow w.heap.size 62 1 l s.log.length (u64V s.log)/\Bx w.heap.size w w' /\
 (∀ k,g.ownBlock=some k->l.ownBlock≠some k/\i.ownBlock≠some k/\a.ownBlock≠some k)/\(∀ k,l.ownBlock=some k->i.ownBlock≠some k/\a.ownBlock≠some k)
theorem aQj(i:Blk w g t #[x0,x1,x2,x3,x4,x5])(a b c d e f:Bq):Blk ((((((w.setCell ⟨g,0,none⟩ a).setCell ⟨g,1,none⟩ b).setCell ⟨g,2,none⟩ c).setCell ⟨g,3,none⟩ d).setCell ⟨g,4,none⟩ e).setCell ⟨g,5,none⟩ f) g t #[a,b,c,d,e,f]:=by
 have h:=dY (dY (dY (dY (dY (dY i 0 a) 1 b) 2 c) 3 d) 4 e) 5 f
 simpa using h
theorem aKe{B:Nat}{w':Bj}(h:Bx B w w')(hg:B<=g)(a b c d e f:Bq):Bx B w ((((((w'.setCell ⟨g,0,none⟩ a).setCell ⟨g,1,none⟩ b).setCell ⟨g,2,none⟩ c).setCell ⟨g,3,none⟩ d).setCell ⟨g,4,none⟩ e).setCell ⟨g,5,none⟩ f):=
 (((((h.setCell (p:=⟨g,0,none⟩) hg _).setCell (p:=⟨g,1,none⟩) hg _).setCell (p:=⟨g,2,none⟩) hg _).setCell (p:=⟨g,3,none⟩) hg _).setCell (p:=⟨g,4,none⟩) hg _).setCell (p:=⟨g,5,none⟩) hg _
theorem eY{i:List Bq}(h:w.ownsRow base e 1 v n i)(j:Blk w g t #[x0,x1,x2,x3,x4,x5])(k:e≠t)(a b c d e' f:Bq):((((((w.setCell ⟨g,0,none⟩ a).setCell ⟨g,1,none⟩ b).setCell ⟨g,2,none⟩ c).setCell ⟨g,3,none⟩ d).setCell ⟨g,4,none⟩ e').setCell ⟨g,5,none⟩ f).ownsRow base e 1 v n i:=by
 have q:=fV h j k;exact iV (iV (iV (iV (iV (iV h q) q) q) q) q) q
end Go.Proofs.YtabibkpfgmolkaaDoor

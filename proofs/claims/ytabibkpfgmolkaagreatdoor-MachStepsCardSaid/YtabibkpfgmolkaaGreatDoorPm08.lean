/- Lemmas for the claim, part 8. Conditions: none. -/
import Derived.Test.YtabibkpfgmolkaaGreatDoorPm07
import Derived.LoopIn
import Derived.LoopNIn
import Derived.OwnWalkIn
import Derived.RangeFuncBound
import Derived.RangeFuncNested
import Derived.Shelf.RegionOpen
import Derived.StillTailTactics
set_option maxRecDepth 100000
set_option maxHeartbeats 16000000
set_option linter.unusedVariables false
set_option linter.unusedSimpArgs false
open Go.Lib renaming hid→fQ
open Go.Proofs.Tryz renaming prog→fZ
open Go.Proofs.Tryz
open Go.RowKit
open Nat renaming lt_of_lt_of_le→Aj,le_refl→Aq,le_trans→Aw,div_div_eq_div_mul→Ab,lt_of_le_of_lt→Ag,add_sub_cancel→Ah,le_of_eq→Bq,div_le_self→Bv,reduceAdd→By,reduceSub→BJ,pow_succ→BQ,zero_add→BX,zero_le→BZ
open Go.RowKit.Below renaming heap_setCell→Ax,refl→Az
open Go.World renaming setCell→Ak,ownsRow_nil→AW,grownBy_alloc→Af
open List renaming replicate→Ay,getElem?_eq_getElem→AJ,length_drop→AQ,getD_eq_getElem?_getD→AV,length_cons→AY,drop_eq_nil_of_le→Ac,length_nil→Ad,append_toArray→Ae,size_toArray→Ai,push_toArray→Bj,cons_append→Bx,length_take→Bz,nil_append→Bk,length_set→Bw
open UInt8 renaming toNat→AX
open Int renaming eq_ofNat_of_zero_le→AZ
open Go.Value renaming slice→AK,int→BK
open Go renaming World→BV,Value→BW
open Go.RowKit renaming Below→BY
namespace Go.Proofs.YtabibkpfgmolkaaGreatDoor
variable {w w' w0 wB wr:BV}{n g k c a:Nat}{v:BW}{l:List Nat}
theorem aZy(A:Option Addr)(n c addr en:Nat)(w:BV)(hn:n<=140737488355328):
  Calls fZ 59 #[.slice A n c,.int .u64 addr,.int .u64 en] w fun e w'=>e = .returned (.bool (pK n addr en))/\w=w':=by
 by_cases h1:addr<=1099511627776
 ·have b:decide ((addr:Int)<=1099511627776)=true:=(by simp;omega);by_cases h2:en<=1099511627776
  ·have d:decide ((en:Int)<=1099511627776)=true:=(by simp;omega);have a:=fQ (show pK n addr en=decide (addr+en<=n) by simp[pK,h1,h2]);go_in;go_wp2;go_ret;rw[a.out];refine⟨?_,rfl⟩;show Ending.returned (.bool (decide ((addr:Int)+(en:Int)<=(n:Int))))=_
   congr 2
   rw[Bool.eq_iff_iff];simp;omega
  ·have d:decide ((en:Int)<=1099511627776)=false:=(by simp;omega);have a:=fQ (show pK n addr en=false by simp[pK,h1,h2]);clear h1 h2;go_in;go_wp2;go_ret;rw[a.out];exact⟨rfl,rfl⟩
 ·have b:decide ((addr:Int)<=1099511627776)=false:=(by simp;omega);have a:=fQ (show pK n addr en=false by simp[pK,h1]);clear h1;go_in;go_wp2;go_ret;rw[a.out];exact⟨rfl,rfl⟩
theorem aZp(A:Option Addr)(n c addr off:Nat)(k wd:Int)(st h:Bool)(w:BV)(hn:n<=140737488355328)(i:0<=wd)(ad:wd<=8)(ha:addr<18446744073709551616)(ho:off<18446744073709551616):
  Calls fZ 120 #[.slice A n c,.agg #[.int .i64 k,.int .i64 wd,.bool st,.bool h],.int .u64 addr,.int .u64 off] w fun e w'=>
   e = .returned (.tuple #[.int .i64 (mZ n wd addr off).1,.int .i64 (mZ n wd addr off).2])/\BY w.heap.size w w':=by
 have f:BY w.heap.size w (w.alloc (.cells #[.int .i64 k,.int .i64 wd,.bool st,.bool h] 171)):=(Az _ _).alloc (Aq _) _;obtain⟨a,rfl⟩:=AZ i;by_cases h1:4294967295<addr
 ·have j:decide ((4294967295:Int)<(addr:Int))=true:=(by simp;omega);have b:=fQ (show mZ n a addr off=(0,1) by simp[mZ,h1]);clear h1;go_in;go_wp2;go_ret2;rw[b.out];exact⟨rfl,f⟩
 ·have j:decide ((4294967295:Int)<(addr:Int))=false:=(by simp;omega);by_cases h2:4294967295<off
  ·have l:decide ((4294967295:Int)<(off:Int))=true:=(by simp;omega);have b:=fQ (show mZ n a addr off=(0,1) by simp[mZ,h2]);clear h2;go_in;go_wp2;go_ret2;rw[b.out];exact⟨rfl,f⟩
  ·have l:decide ((4294967295:Int)<(off:Int))=false:=by simp;omega
   cases d:pK n (addr+off) a with
   | true=>
    have b:=fQ (show mZ n a addr off=(((addr+off:Nat):Int),0) by simp[mZ,h1,h2,d]);have g:=fQ d;have hle:addr+off<=n:=(by simp[pK]at d;omega);clear d;go_in;go_wp2_with fail;rw[show((addr:Int)+(off:Int))=((addr+off:Nat):Int)from by omega];refine(aZy A n c (addr+off) a _ hn).mono ?_;rintro e m ⟨rfl,rfl⟩;rw[g.out];go_wp2_with fail;go_ret2;rw[b.out];refine⟨?_,f⟩;simp
   | false=>
    have b:=fQ (show mZ n a addr off=(0,35) by simp[mZ,h1,h2,d]);have g:=fQ d;clear d;go_in;go_wp2_with fail;rw[show((addr:Int)+(off:Int))=((addr+off:Nat):Int)from by omega];refine(aZy A n c (addr+off) a _ hn).mono ?_;rintro e m ⟨rfl,rfl⟩;rw[g.out];go_wp2_with fail;go_ret2;rw[b.out];exact⟨rfl,f⟩
section
open Go.Shelf
attribute [local go_sem] Oper.semAt_some
abbrev Pl:=Nat×UInt8
def plV(x:Pl):Array BW:=#[.int .i64 (x.1:Int),.int .u8 (x.2.toNat:Int)]
def came(f:Nat->Pl)(k:Nat):List Pl:=(List.range k).map f
theorem bKv(f:Nat->Pl)(k:Nat):came f (k+1)=came f k ++ [f k]:=by simp[came,List.range_succ]
theorem cXf(f:Nat->Pl)(k:Nat):(came f k).length=k:=by simp[came]
def Kb(b a:Nat)(A B:BV):Prop:=BY b A B/\B.cell? ⟨a,0,none⟩=A.cell? ⟨a,0,none⟩
theorem Kb.refl(a b:Nat)(A:BV):Kb a b A A:=⟨Az _ _,rfl⟩
theorem Kb.trans{a b:Nat}{A B C:BV}(h:Kb a b A B)(c:Kb a b B C):Kb a b A C:=⟨h.1.trans c.1,c.2.trans h.2⟩
theorem Kb.put(hn:c<=w.heap.size)(hB:a<w.heap.size)(W:BV)(l:Nat)(o b:Obj)(d:w.heap.size<=l)(h:W.heap[l]? = some o)(h1:o.isCells=false)(h2:o.isWalk=false):Kb c a W (W.putObj l b):=by
 refine⟨belowK_b hn W l o b d h h1 h2,World.cell?_of_block (w:=W) ?_⟩;show(W.heap.setIfInBounds l b)[a]? = W.heap[a]?;rw[Array.getElem?_setIfInBounds_ne (by omega)]
theorem dWh(F:Fence)(n:Nat)(u:F.fn 145)(w:F.round=none)(hn:1<=n)(l c d b off len cap:Nat)(f:Nat->UInt8)(aa:len<=140737488355328)(y:b<d)(J m:List Pl->BV->Prop)
    (o:∀ pre x W,J pre W->pre.length<len->YieldAt F (n - 1) fZ l (plV x) W fun e a=>
      (e = .returned (.bool true)/\J (pre ++ [x]) a/\Kb d c W a)\/(e = .returned (.bool false)/\m (pre ++ [x]) a))
    (W:BV) (z:W.cell? ⟨c,0,none⟩=some (.slice (some ⟨b,off,none⟩) len cap)) (hc:∀ j,j<len->W.cell? ⟨b,off+j,none⟩=some (.int .u8 ((f j).toNat:Int))) (A:J [] W) :
    CallsIn F n fZ 145 #[.func (.yield l) #[] #[],.pointer (some ⟨c,0,none⟩)] W fun e a=>(∃ v,e = .returned v) /\
      ((∃ q,q=came (fun j=>(len - 1 - j,f (len - 1 - j))) len/\J q a)\/(∃ pre,(∃ k,k<=len/\pre=came (fun j=>(len - 1 - j,f (len - 1 - j))) k)/\m pre a)):=by
  refine callsIn_of_wp func145 rfl u ?_ w;simp only[ntmps145,Ai,AY,Ad,By,BJ,Array.replicate_succ,Array.replicate_zero,Bj,Ae,Bk,Bx];have B:=fQ hc;have C:=fQ o;clear hc o
  gi_wp2
  gi_loopw [3] (fun i wr=>∃ k:Nat,k<=len/\i = .int .i64 ((len:Int) - 1 - k)/\J (came (fun j=>(len - 1 - j,f (len - 1 - j))) k) wr/\Kb d c W wr)
    (fun i _=>(intOf i+1).toNat)
  case atStart=>exact⟨0,BZ _,by simp,A,Kb.refl _ _ _⟩
  case round=>
    obtain⟨k,hk,rfl,r,g⟩:=hrel;have aq:wr.cell? ⟨c,0,none⟩=some (.slice (some ⟨b,off,none⟩) len cap):=g.2.trans z;by_cases D:k<len
    · obtain⟨j,s⟩:=fX (len - 1 - k)
      have h:(len:Int) - 1 - k=(j:Int):=(by omega);have E:j<len:=(by omega);obtain⟨fn,tmps,assign,body,G,H⟩:=C.out _ (j,f j) wr r (by rw[cXf];exact D);simp only[plV]at G;have ar:wr.cell? ⟨b,off+j,none⟩=some (.int .u8 ((f j).toNat:Int)):=(g.1.cell (p:=⟨b,off+j,none⟩) y).trans (B.out j E);rw[h];have t:=fQ s;have I:=fQ h;clear s h
      gi_wp2
      refine H.mono ?_;rintro e W3 (⟨rfl,K,L⟩ | ⟨rfl,M⟩)
      · gi_wp2
        go_roundw
        case rel=>exact⟨k+1,by omega,by have:=I.out;go_num,by rw[bKv,t.out];exact K,g.trans L⟩
        case measure=>simp[intOf]
      · gi_wp2
        refine bodyPost_ret (results_none rfl _ _ _) rfl ?_;exact⟨⟨_,rfl⟩,.inr ⟨_,⟨k+1,by omega,by rw[bKv,t.out]⟩,M⟩⟩
    · obtain rfl:k=len:=by omega
      gi_wp2
      go_end0;exact⟨⟨_,rfl⟩,.inl ⟨_,rfl,r⟩⟩
theorem bYm(a:Option Addr)(len cap:Nat)(w:BV):
  Calls fZ 121 #[.slice a len cap] w fun e w'=>e = .returned (.func (.func 145) #[] #[.pointer (some ⟨w.heap.size,0,none⟩)])/\w.alloc (.cells #[.slice a len cap] 31)=w':=by
 go_in;go_wp2;go_ret;exact⟨rfl,rfl⟩
def aJt(l:List UInt8):List Pl:=came (fun j=>(l.length - 1 - j,l.getD (l.length - 1 - j) 0)) l.length
theorem cJx(F:Fence)(n:Nat)(i:F.fn 145)(k:F.round=none)(hn:1<=n)(a d b off cap:Nat)(l:List UInt8)(m:l.length<=140737488355328)(w:BV)(o:a<w.heap.size)(r:d<=w.heap.size)
  (hc:w.cell? ⟨a,0,none⟩=some (.slice (some ⟨b,off,none⟩) l.length cap)) (f:b<d) (s:∀ j,j<l.length->w.cell? ⟨b,off+j,none⟩=some (.int .u8 ((l.getD j 0).toNat:Int))) :
  SeqStopsK F n fZ 145 #[.pointer (some ⟨a,0,none⟩)] plV (Kb d a) (fun g=>g=aJt l) (fun _=>True) l.length w:=fun q J t W h _ _ u v=>by
 have x:=(h.cell (p:=⟨a,0,none⟩) o).trans hc;refine(dWh F n i k hn q a d b off l.length cap (fun j=>l.getD j 0) m f J t u W x (fun j c=>(h.cell (p:=⟨b,off+j,none⟩) (Aj f r)).trans (s j c)) v).mono ?_;rintro e W' ⟨he,⟨g,rfl,c⟩ | ⟨pre,_,c⟩⟩
 ·exact⟨he,.inl ⟨_,rfl,c⟩⟩
 ·exact⟨he,.inr ⟨_,trivial,c⟩⟩
end
section
open Go.Shelf
attribute [local go_sem] Oper.semAt_some
def aZk(a:List Pl):Int:=a.foldl (fun q x=>bits .or .u64 (IntKind.u64.wrap (q*256)) (x.2.toNat:Int)) 0
theorem cJy(a:List Pl)(x:Pl):aZk (a ++ [x])=bits .or .u64 (IntKind.u64.wrap (aZk a*256)) (x.2.toNat:Int):=by simp[aZk]
theorem cXw(W:BV)(v:BW)(t:TypeId):(W.alloc (.cells #[v] t)).cell? ⟨W.heap.size,0,none⟩=some v/\(W.alloc (.cells #[v] t)).frozen? ⟨W.heap.size,0,none⟩=false:=
 ⟨cell_of_row _ W.heap.size 0 #[v] t (0,0) (heap_alloc_new W _),frozen_of_row _ W.heap.size 0 #[v] t (heap_alloc_new W _)⟩
theorem dWj{W:BV}{a:Addr}(o:Obj)(h:W.cell? a=some v/\W.frozen? a=false):(W.alloc o).cell? a=some v/\(W.alloc o).frozen? a=false:=
 ⟨cell_kept h.1 (Af W o none) (fun r e=>by cases e),(frozen_kept h.1 (Af W o none) (fun r e=>by cases e)).trans h.2⟩
theorem eQp(b o n c addr off at_ d:Nat)(op k:Int)(g:Bool)(l:List UInt8)(w:BV)(z:acc op=some (k,(d:Int),false,g))(hn:n<=140737488355328)
    (ha:addr<18446744073709551616) (T:off<18446744073709551616) (U:b<w.heap.size) (ay:n<=c) (hp:mZ n d addr off=((at_:Int),0))
    (G:l.length=d) (az:at_+d<=n) (H:∀ j,j<d->w.cell? ⟨b,o+at_+j,none⟩=some (.int .u8 ((l.getD j 0).toNat:Int))) :
    CallsIn Fence.wide 10 fZ 92 #[.slice (some ⟨b,o,none⟩) n c,.int .i64 op,.int .u64 addr,.int .u64 off] w fun e w'=>e = .returned (.tuple #[.int .u64 (uQ k d g (aZk (aJt l))),.int .i64 0])/\BY w.heap.size w w':=by
  obtain⟨I,J,_,_⟩:=lZ z;have aA:1<=d:=(by omega);have aB:d<=8:=(by omega);have aC:=yX z;have L:=fQ hp;have M:=fQ H;have C:=fQ G;have HK:=fQ I;have aD:=fQ J;clear hp H z G I J;refine callsIn_of_wp_marks func92 rfl trivial ?_ rfl;simp only[ntmps92,Ai,AY,Ad,By,BJ,Array.replicate_succ,Array.replicate_zero,Bj,Ae,Bk,Bx]
  gi_wp2_with fail
  refine⟨trivial,?_⟩;refine(callsIn_wide.2 (oW _)).mono ?_;rintro e a ⟨rfl,rfl⟩
  gi_wp2_with fail
  refine⟨trivial,?_⟩;refine(callsIn_wide.2 (aZp _ n c addr off k d false g _ hn (by omega) (by omega) ha T)).mono ?_;rintro e a ⟨rfl,m⟩;rw[L.out];obtain⟨r,V⟩:=cZd m;have aE:w.heap.size+1+1<=a.heap.size:=(by have:=m.size;simpa using this);have N:=fQ (show BY w.heap.size w a from(((Az _ _).alloc (Aq _) _).alloc (by simp) _).trans (m.mono (by simp;omega)));clear m;have E:w.heap.size+1<a.heap.size:=(by omega);have an:at_+d - at_=d:=(by omega);have ao:¬c=at_:=(by omega)
  gi_wp2_with fail
  refine⟨trivial,?_⟩;refine(callsIn_wide.2 (bYm _ d (c - at_) _)).mono ?_;rintro e w2 ⟨rfl,rfl⟩
  gi_wp2_with fail
  have O:=fQ (show BY w.heap.size w ((a.alloc (.cells #[.int .u64 0] 52)).alloc (.cells #[.slice (some ⟨b,o+at_,none⟩) d (c - at_)] 31))from(N.out.alloc (by omega) _).alloc (by simp;omega) _);have P:=cXw a (.int .u64 0) 52;have c1:=cXw (a.alloc (.cells #[.int .u64 0] 52)) (.slice (some ⟨b,o+at_,none⟩) d (c - at_)) 31;simp only[World.size_alloc]at c1
  apply wpIn_rangeFunc_ownF rfl (by omega) (gf:=145) (lb:=#[.pointer (some ⟨a.heap.size+1,0,none⟩)]) rfl trivial (enters_of func145 (by kernel_rfl) rfl)
    (cJx Fence.wide (10 - 1) trivial rfl (by omega) (a.heap.size+1) a.heap.size b (o+at_) (c - at_) l (by rw[C.out];omega) _ (by simp) (by simp;omega) (by rw[C.out];exact c1.1) (by omega)
      (fun j X=>(O.out.cell (p:=⟨b,o+at_+j,none⟩) U).trans (M.out j (by rw[<-C.out];exact X)))) Kb.trans (Kb.put (by simp;omega) (by simp)) (Az _ _) (fun _=>rfl)
    (fun pre W=>(W.cell? ⟨a.heap.size,0,none⟩=some (.int .u64 (aZk pre))/\W.frozen? ⟨a.heap.size,0,none⟩=false)/\BY a.heap.size a W)
    (fun _ _ _=>False)
    (OwnFrom.and (Own.from (fun s A B row hs hg Q=>⟨cell_kept hs.1 hg Q,(frozen_kept hs.1 hg Q).trans hs.2⟩) _) (ownFrom_below (Aq _) (by simp;omega)))
    (fun _ _ _ _ _ hs _ _=>hs)
    ⟨dWj _ P,((Az _ _).alloc (Aq _) _).alloc (by simp) _⟩
  case hassign=>
    intro l x W K F;simp only[plV]
    gi_wp2
    exact F
  case hbody=>
    rintro l pre x W ⟨⟨hc,hf⟩,f⟩ _
    gi_wp2
    have aF:(x.2.toNat:Int)<256:=(by have:=x.2.toNat_lt;omega);refine⟨KeepsOthers.setCell _ _ _,⟨(Az a.heap.size W).setCell (p:=⟨a.heap.size,0,none⟩) (Aq _) _,?_⟩,⟨?_,by rw[World.frozen?_setCell];exact hf⟩,f.setCell (p:=⟨a.heap.size,0,none⟩) (Aq _) _⟩
    · apply World.cell?_setCell_other;simp
    · rw[cJy,show IntKind.u64.wrap (x.2.toNat:Int)=(x.2.toNat:Int)from pZ (by omega)]
      exact World.cell?_setCell_same' _ _ _ (by rw[hc];rfl)
  case hdone=>
    rintro D ys W R rfl ⟨⟨hc,hf⟩,f⟩ F;have Y:=(f.cell (p:=⟨w.heap.size+1,0,none⟩) E).trans (r (w.heap.size+1) 0 (by simp));have Z:=(f.cell (p:=⟨w.heap.size+1,1,none⟩) E).trans (r (w.heap.size+1) 1 (by simp));have au:=(f.cell (p:=⟨w.heap.size+1,3,none⟩) E).trans (r (w.heap.size+1) 3 (by simp));simp at Y Z au;have aG:a.heap.size+1+1<=D:=(by simpa using R);have v:=fQ (show BY w.heap.size w W from N.out.trans (f.mono (by omega)));clear r V P c1 O R f L M
    have fin:∀ (i:BV) (q:Int) (y:Array BW),KeepsOthers W i->BY w.heap.size w i->y.getD 8 undef = .int .u64 q->y.getD 9 undef = .int .i64 0->q=uQ k d g (aZk (aJt l)) ->
        bodyPostM Fence.wide 10 fZ Tryz.f92 (fun e w'=>e = .returned (.tuple #[.int .u64 (uQ k d g (aZk (aJt l))),.int .i64 0])/\BY w.heap.size w w') Exit.ret { tmps:=y,defers:=[{ target:=.collected D,args:=#[] }] } i:=by
      intro i q y aw ax h8 h9 hq;have S:=aw.same D _ F rfl;refine⟨by simp,.inl ⟨_,_,rfl,run_takeDeferred S,?_⟩⟩;refine⟨_,results_tmp2 (t:=8) (u:=9) rfl _ _ _,by rw[h8,h9,hq],ax.trans (belowK_b (w:=w) (Aq _) i D _ _ (by omega) S rfl rfl)⟩
    gi_wp2
    · rename_i h1 h2
      refine fin _ _ _ ((KeepsOthers.setCell _ _ _).trans (KeepsOthers.setCell _ _ _)) ((v.out.setCell (p:=⟨a.heap.size,0,none⟩) (by simp;omega) _).setCell (p:=⟨a.heap.size,0,none⟩) (by simp;omega) _) rfl rfl ?_;rw[h1,uQ,aZr,if_pos (eq_of_beq h2),if_pos rfl,sxV]
    · rename_i h1 h2
      refine fin _ _ _ (KeepsOthers.setCell _ _ _) (v.out.setCell (p:=⟨a.heap.size,0,none⟩) (by simp;omega) _) rfl rfl ?_;rw[h1,uQ,aZr,if_neg (ne_of_beq_false h2),if_pos rfl,sxV]
    · rename_i h1 h2
      refine fin _ _ _ (KeepsOthers.setCell _ _ _) (v.out.setCell (p:=⟨a.heap.size,0,none⟩) (by simp;omega) _) rfl rfl ?_;rw[h1,uQ,aZr,if_pos (eq_of_beq h2),if_neg (by decide)]
    · rename_i h1 h2
      refine fin _ _ _ (KeepsOthers.refl _) v.out rfl rfl ?_;rw[h1,uQ,aZr,if_neg (ne_of_beq_false h2),if_neg (by decide)]
  case hstop=>
    rintro D c pre W _ _ h _;exact h.elim
theorem bVr(l:List UInt8):(aJt l).map (·.2)=l.reverse:=by
 unfold aJt came;apply List.ext_getElem?;intro i;by_cases hi:i<l.length
 ·have a:l.length - 1 - i<l.length:=(by omega);simp[hi,AV,a]
 ·simp[Nat.not_lt.1 hi]
theorem dWk(a:List Pl):aZk a=(a.map (·.2)).foldl (fun q x=>bits .or .u64 (IntKind.u64.wrap (q*256)) (x.toNat:Int)) 0:=by
 rw[aZk,List.foldl_map]
theorem cJz:∀ l:List UInt8,l.length<=8->aZk (aJt l)=(leN (l.map AX):Int):=by
 intro l c;rw[dWk,bVr]
 induction l with
 | nil=>rfl
 | cons b l d=>
  have e:l.length<=7:=(by simpa using c);rw[List.reverse_cons,List.foldl_append,d (by omega)];have h1:=aWr (l.map AX) (fun x a=>by simp at a;obtain⟨y,_,rfl⟩:=a;exact y.toNat_lt);have h2:256 ^ (l.map AX).length<=256 ^ 7:=Nat.pow_le_pow_right (by omega) (by simpa using e);have hb:=b.toNat_lt;have h3:(leN (l.map AX):Nat)<72057594037927936:=Aj h1 h2;simp only[List.foldl_cons,List.foldl_nil,List.map_cons,leN];rw[show((leN (l.map AX):Int)*256)=((leN (l.map AX)*256:Nat):Int)from by simp,pZ (by omega)]
  rw[aKj (by omega) (by omega),show leN (l.map AX)*256 ||| b.toNat=b.toNat+256*leN (l.map AX)from by
   rw[show(256:Nat)=2 ^ 8 from rfl,Nat.mul_comm,<-Nat.two_pow_add_eq_or_of_lt (by omega)];omega]
theorem dWl(A:Option Addr)(n c addr off:Nat)(op:Int)(m:List Nat)(w:BV)(hs:Src w A n (bys m))(i:AllB m)(v:n<=c)(hn:n<=140737488355328)
  (ha:addr<18446744073709551616) (l:off<18446744073709551616) :
  Calls fZ 92 #[.slice A n c,.int .i64 op,.int .u64 addr,.int .u64 off] w fun e w'=>e = .returned (.tuple #[.int .u64 (mW m op addr off).1,.int .i64 (mW m op addr off).2])/\BY w.heap.size w w':=by
 have d:m.length=n:=by have:=hs.1;rwa[aQy]at this
 cases a:acc op with
 | none=>
  have f:=fQ (show mW m op addr off=(0,1) by simp[mW,a]);have p:=aWc a;clear a hs d;go_in;go_wp2_with fail;refine(oW _).mono ?_;rintro e h ⟨rfl,rfl⟩;go_wp2;go_ret2;rw[f.out];exact⟨rfl,((Az _ _).alloc (Aq _) _).alloc (by simp) _⟩
 | some r=>
  obtain⟨k,wd,st,q⟩:=r;obtain⟨hk,ak,_,_⟩:=lZ a
  cases st with
  | true=>
   have f:=fQ (show mW m op addr off=(0,1) by simp[mW,a]);have p:=yX a;clear a hs d;go_in;go_wp2_with fail;refine(oW _).mono ?_;rintro e h ⟨rfl,rfl⟩;go_wp2;go_ret2;rw[f.out];exact⟨rfl,((Az _ _).alloc (Aq _) _).alloc (by simp) _⟩
  | false=>
   by_cases hp:(mZ n wd addr off).2=0
   ·obtain⟨y,s,_,_⟩:=aKe hp;obtain⟨g,rfl⟩:=AZ (show 0<=wd by omega);simp only[Int.toNat_natCast]at s;obtain⟨b,o,rfl,z,_⟩:=hs.2 (by omega);have t:(((m.drop (addr+off)).take g).map UInt8.ofNat).length=g:=(by simp;omega);have B:AllB ((m.drop (addr+off)).take g):=fun x u=>i x (List.mem_of_mem_drop (List.mem_of_mem_take u));refine((callsIn_wide (n:=10)).1 (eQp b o n c addr off (addr+off) g op k q _ w a hn ha l z v y t s ?_)).mono ?_
    ·intro j C;have:=hs.at_ (k:=addr+off+j) (by omega);rw[show o+(addr+off)+j=o+(addr+off+j)from by omega,this,cXi];have u:=i.get (k:=addr+off+j) (by omega);simp[C,AV,show addr+off+j<m.length from by omega];omega
    ·rintro e w' ⟨rfl,D⟩;refine⟨?_,D⟩;rw[cJz _ (by rw[t];omega),eQe B];simp[mW,a,d,hp]
   ·have f:=fQ (show mW m op addr off=(0,(mZ n wd addr off).2) by simp[mW,a,d,hp]);have al:((mZ n wd addr off).2 != 0)=true:=(by simpa using hp);have p:=yX a;clear a hs d hp;go_in;go_wp2_with fail;refine(oW _).mono ?_;rintro e h ⟨rfl,rfl⟩;go_wp2_with fail;refine(aZp _ n c addr off k wd false q _ hn (by omega) (by omega) ha l).mono ?_;rintro e h ⟨rfl,E⟩;go_wp2;go_ret2;rw[f.out];exact⟨rfl,(((Az _ _).alloc (Aq _) _).alloc (by simp) _).trans (E.mono (by simp;omega))⟩
end
section
open Go.Shelf
attribute [local go_sem] Oper.semAt_some
theorem bYn:(fZ.info? 5).map (fun i=>(i.zero,i.size,i.bytes))=some (some (.int .u8 0),1,1):=by kernel_rfl
theorem aQf(A:Option Addr)(n c:Nat)(m:List Nat)(w:BV)(hs:Src w A n (bys m))(d:A=none->n=0/\c=0)(hn:n<=140737488355328):
  Calls fZ 47 #[.slice A n c] w fun e w'=>∃ v,e = .returned v/\w'.ownsRow w.heap.size 5 1 v n (bys m)/\BY w.heap.size w w':=by
 have aa:∀ (w:BV) (a:Option Addr) (n c f g:Nat),(binOp .eql 31 (.slice a n c) (.slice none f g)).run fZ w = .ok (.bool a.isNone) w:=fun w a n c f g=>Lib.run_eql_slice_nil w 31 5 a n c f g underlying31;rcases A with _ | ⟨b,o,sp⟩
 ·obtain⟨rfl,rfl⟩:=d rfl;have j:m = []:=(by have:=hs.1;simpa[bys]using this);subst j;clear d hs;go_in;go_wp2;go_ret;exact⟨_,rfl,AW _ _ _ _,Az _ _⟩
 ·have k:=fQ (hs.below (w':=w.alloc (.cells #[] 5)) ((Az _ _).alloc (Aq _) _) (Aq _));clear hs d;go_in;go_wp2_with (at_builtin;refine aXh _ rfl _ (.tmp 6) 31 rfl w.heap.size 5 _ 1 underlying31 bYn rfl _ 0 [] rfl (World.ownsRow_lit w #[] 0 (Aq _) (by unfold maxLen;omega) rfl) _ n c _ rfl k.out (aQh _) (by unfold maxLen;omega) (by omega) (by simp) ?_);rintro v' w' h i;have l:=fQ h;have p:=fQ i;clear h i;go_wp2;go_ret;exact⟨_,rfl,l.out,((Az _ _).alloc (Aq _) _).trans p.out⟩
theorem dWi(A:Option Addr)(n c:Nat)(m:List Nat)(most:Int)(a:Nat)(w:BV)(hs:Src w A n (bys m))(z:A=none->n=0/\c=0)(hn:n<=140737488355328)
  (aj : -9223372036854775808<=most) (ak:most<=9223372036854775807) (hp:a<18446744073709551616) :
  Calls fZ 89 #[.slice A n c,.int .i64 most,.int .u64 a] w fun e w'=>∃ j k,e = .returned (.tuple #[.slice j (kY m most a).length k,.int .u64 (qK n most a)]) /\
   w'.ownsRow w.heap.size 5 1 (.slice j (kY m most a).length k) (kY m most a).length (bys (kY m most a))/\BY w.heap.size w w':=by
 have B:m.length=n:=(by have:=hs.1;rwa[aQy]at this);have l:=fQ hs;have o:=fQ z;have p:=fQ B;clear hs z B;by_cases hg:wJ n most a=true
 ·have HG:=fQ hg;have q:=fQ (show kY m most a=m++Ay (256*a) 0 by simp[kY,p.out,hg]);have s:=fQ (show qK n most a=n / 256 by simp[qK,hg]);simp only[wJ,decide_eq_true_eq]at hg;obtain⟨h1,h2⟩:=hg;have D:(n:Int)+256*a<=most:=(by omega);have h4:n+256*a<=4096:=(by omega);clear h2;have h5:(n:Int) % 256=0:=(by omega)
  have fin:∀ (h:BV) (v:BW) (i:Array BW),h.ownsRow w.heap.size 5 1 v (n+256*a) (bys m++Ay (256*a) (.int .u8 0))->BY w.heap.size w h->i.getD 6 undef=v->i.getD 7 undef = .int .u64 ((n / 256:Nat):Int) ->
    bodyPost fZ Tryz.f89 (fun e w'=>∃ j k,e = .returned (.tuple #[.slice j (kY m most a).length k,.int .u64 (qK n most a)]) /\
     w'.ownsRow w.heap.size 5 1 (.slice j (kY m most a).length k) (kY m most a).length (bys (kY m most a))/\BY w.heap.size w w') Exit.ret { tmps:=i,defers:=[] } h:=by
   intro h v i f g t u;refine bodyPost_ret (results_tmp2 rfl _ _ _) rfl ?_;obtain⟨j,k,rfl,_⟩:=fJ f;have C:(kY m most a).length=n+256*a:=(by rw[q.out];simp[p.out]);refine⟨j,k,?_,?_,g⟩
   ·rw[C,s.out];show Ending.returned (.tuple #[i.getD 6 undef,i.getD 7 undef])=_;rw[t,u]
   ·rw[C,q.out,cXh,show bys (Ay (256*a) 0)=Ay (256*a) (.int .u8 0)from by simp[bys]];exact f
  rcases Int.lt_or_le most 4096 with E | E
  ·go_in;go_wp2_with fail;refine(aQf A n c m _ l.out o.out hn).mono ?_;rintro e h ⟨v,rfl,b,d⟩;have f:=fQ b;have g:=fQ d;clear b d;go_wp2_with (at_builtin;refine aXt _ rfl _ (.tmp 38) 31 3 rfl w.heap.size 5 (.int .u8 0) 1 .i64 underlying31 underlying3 bYn rfl rfl _ n (bys m) rfl f.out .i64 (256*a) _ (by omega) rfl (by unfold maxLen;omega) (by omega) g.out.size ?_)
   all_goals
    rintro v' w' b d;have x:=fQ b;have y:=fQ d;clear b d f;go_wp2;refine fin _ _ _ x.out (g.out.trans y.out) rfl ?_;show BK .u64 _ = .int .u64 _
    first | rfl | (congr 1;omega)
  ·go_in;go_wp2_with fail;refine(aQf A n c m _ l.out o.out hn).mono ?_;rintro e h ⟨v,rfl,b,d⟩;have f:=fQ b;have g:=fQ d;clear b d;go_wp2_with (at_builtin;refine aXt _ rfl _ (.tmp 38) 31 3 rfl w.heap.size 5 (.int .u8 0) 1 .i64 underlying31 underlying3 bYn rfl rfl _ n (bys m) rfl f.out .i64 (256*a) _ (by omega) rfl (by unfold maxLen;omega) (by omega) g.out.size ?_)
   all_goals
    rintro v' w' b d;have x:=fQ b;have y:=fQ d;clear b d f;go_wp2;refine fin _ _ _ x.out (g.out.trans y.out) rfl ?_;show BK .u64 _ = .int .u64 _
    first | rfl | (congr 1;omega)
 ·have r:wJ n most a=false:=(by simpa using hg);have q:=fQ (show kY m most a=m by simp[kY,p.out,r]);have s:=fQ (show qK n most a=4294967295 by simp[qK,r])
  have F:n % 256≠0\/((n % 256=0/\min most 4096<(n:Int))\/(n % 256=0/\(n:Int)<=min most 4096/\min most 4096<(n:Int)+256*a)):=by
   simp[wJ]at r;omega
  clear hg r
  have fin:∀ (h:BV) (v:BW) (i:Array BW),h.ownsRow w.heap.size 5 1 v n (bys m)->BY w.heap.size w h->i.getD 6 undef=v->i.getD 7 undef = .int .u64 4294967295 ->
    bodyPost fZ Tryz.f89 (fun e w'=>∃ j k,e = .returned (.tuple #[.slice j (kY m most a).length k,.int .u64 (qK n most a)]) /\
     w'.ownsRow w.heap.size 5 1 (.slice j (kY m most a).length k) (kY m most a).length (bys (kY m most a))/\BY w.heap.size w w') Exit.ret { tmps:=i,defers:=[] } h:=by
   intro h v i f g t u;refine bodyPost_ret (results_tmp2 rfl _ _ _) rfl ?_;obtain⟨j,k,rfl,_⟩:=fJ f;refine⟨j,k,?_,?_,g⟩
   ·rw[q.out,s.out,p.out];show Ending.returned (.tuple #[i.getD 6 undef,i.getD 7 undef])=_;rw[t,u];rfl
   ·rw[q.out,p.out];exact f
  rcases F with h1 | ⟨h1,h2⟩ | ⟨h1,h2,D⟩
  ·go_in;go_wp2_with fail;refine(aQf A n c m _ l.out o.out hn).mono ?_;rintro e h ⟨v,rfl,b,d⟩;have f:=fQ b;have g:=fQ d;clear b d;go_wp2_with fail
   all_goals first | exact fin _ _ _ f.out g.out rfl rfl | (exfalso;omega) | skip
  ·go_in;go_wp2_with fail;refine(aQf A n c m _ l.out o.out hn).mono ?_;rintro e h ⟨v,rfl,b,d⟩;have f:=fQ b;have g:=fQ d;clear b d;go_wp2_with fail
   all_goals first | exact fin _ _ _ f.out g.out rfl rfl | (exfalso;omega) | skip
  ·go_in;go_wp2_with fail;refine(aQf A n c m _ l.out o.out hn).mono ?_;rintro e h ⟨v,rfl,b,d⟩;have f:=fQ b;have g:=fQ d;clear b d;go_wp2_with fail
   all_goals first | exact fin _ _ _ f.out g.out rfl rfl | (exfalso;omega) | skip
end
section
open Go.Shelf
attribute [local go_sem] Oper.semAt_some
def dYi(w0:BV)(base g n c b:Nat)(m:List Nat)(a N:Nat)(d i:BW)(wr:BV):Prop:=
 ∃ k:Nat,k<=b/\i = .int .i64 k/\d = .int .u64 ((N / 256 ^ k:Nat):Int)/\Hid (wr.ownsRow base 5 1 (.slice (some ⟨g,0,none⟩) n c) n (bys (aQu m a N k)))/\Hid (BY base w0 wr)
theorem dWm(A:Option Addr)(n c addr off N a:Nat)(op k:Int)(C:Bool)(m:List Nat)(w:BV)(D:acc op=some (k,(a:Int),true,C))(hs:Src w A n (bys m))(M:A=none->n=0/\c=0)(hn:n<=140737488355328)
  (ha:addr<=4294967295) (ho:off<=4294967295) (hN:N<18446744073709551616) (aI:addr+off+a<=n) (hp:mZ n a addr off=(((addr+off:Nat):Int),0)) (O:¬(k=127/\4294967295<N)) :
  Calls fZ 90 #[.slice A n c,.int .i64 op,.int .u64 addr,.int .u64 off,.int .u64 N] w fun e w'=>∃ P Q,e = .returned (.tuple #[.slice P n Q,.int .i64 0])/\w'.ownsRow w.heap.size 5 1 (.slice P n Q) n (bys (aQu m (addr+off) N a))/\BY w.heap.size w w':=by
 obtain⟨V,W,_,_⟩:=lZ D;have aJ:1<=a:=(by omega);have aK:a<=8:=(by omega);have aL:=yX D;have R:m.length=n:=(by have:=hs.1;rwa[aQy]at this);have HM:=fQ R;have S:=fQ hs;have T:=fQ M;have U:=fQ hp;have aM:=fQ O
 have key:(k == 127)=false\/((k == 127)=true/\decide (4294967295<(N:Int))=false):=by
  by_cases h:k=127
  ·exact .inr ⟨by simp[h],by simp;omega⟩
  ·exact .inl (by simp[h])
 clear D hs M hp O V W R;rcases key with X | ⟨X,aN⟩
 ·go_in;go_wp2_with fail;refine(oW _).mono ?_;rintro e b ⟨rfl,rfl⟩;go_wp2_with fail;refine(aZp _ n c addr off k a true C _ hn (by omega) (by omega) (by omega) (by omega)).mono ?_;rintro e b ⟨rfl,f⟩;rw[U.out];obtain⟨t,E⟩:=cZd f;have Y:w.heap.size+1+1<=b.heap.size:=(by have:=f.size;simpa using this);have l:=fQ (show BY w.heap.size w b from(((Az _ _).alloc (Aq _) _).alloc (by simp) _).trans (f.mono (by simp;omega)));clear f;have F:=fQ (S.out.below l.out (Aq _));have u:w.heap.size+1<b.heap.size:=(by omega);go_wp2_with fail;refine(aQf A n c m _ F.out T.out hn).mono ?_;rintro e w2 ⟨v,rfl,q,r⟩;obtain⟨g,G,rfl,Z,H,_⟩:=lQ q (by omega);have y:=(r.cell (p:=⟨w.heap.size+1,1,none⟩) u).trans (t (w.heap.size+1) 1 (by simp));simp at y;have z:=fQ q;have I:=fQ (Az b.heap.size w2);have J:=fQ r;clear q r t E;go_wp2_with fail;go_loopw [4,17,55] (fun K _ i wr=>dYi w2 b.heap.size g n G a m (addr+off) N K i wr) (fun _ _ i _=>a+1 - (intOf i).toNat)
  case atStart=>exact⟨0,by omega,rfl,by simp,z,I⟩
  case round=>
   clear z;obtain⟨j,hj,rfl,rfl,d,s⟩:=hrel;have ax:=(s.out.cell (p:=⟨w.heap.size+1,1,none⟩) u).trans y;by_cases L:j<a
   ·have az:decide ((j:Int)<(a:Int))=true:=(by simpa using L);have aA:wr.frozen? ⟨g,addr+off+j,none⟩=false:=d.out.frozenAt _
    obtain⟨v,hcell⟩:∃ v,wr.cell? ⟨g,addr+off+j,none⟩=some v:=by
     have hl:=d.out.1;rw[d.out.cellAt (addr+off+j) (by omega)];exact⟨_,AJ (by omega)⟩
    obtain⟨x,o⟩:=fX (N / 256 ^ j);have aH:x<18446744073709551616:=(by rw[<-o];exact Ag (Bv _ _) hN);rw[o];have B:=fQ o;clear o;go_wp2;refine⟨⟨j+1,by omega,by simp,?_,?_,fQ (s.out.setCell (p:=⟨g,addr+off+j,none⟩) H _)⟩,by simp[intOf];omega⟩
    ·rw[BQ,<-Ab,B.out];rfl
    ·refine fQ ?_;rw[aQu,B.out,<-bZp];exact(d.out.stored (addr+off+j) (.int .u8 ((x % 256:Nat):Int))).1
   ·obtain rfl:j=a:=(by omega);go_wp2;go_ret2;exact⟨_,_,rfl,jQ d.out l.out.size,l.out.trans ((J.out.trans s.out).mono l.out.size)⟩
 ·go_in;go_wp2_with fail;refine(oW _).mono ?_;rintro e b ⟨rfl,rfl⟩;go_wp2_with fail;refine(aZp _ n c addr off k a true C _ hn (by omega) (by omega) (by omega) (by omega)).mono ?_;rintro e b ⟨rfl,f⟩;rw[U.out];obtain⟨t,E⟩:=cZd f;have Y:w.heap.size+1+1<=b.heap.size:=(by have:=f.size;simpa using this);have l:=fQ (show BY w.heap.size w b from(((Az _ _).alloc (Aq _) _).alloc (by simp) _).trans (f.mono (by simp;omega)));clear f;have F:=fQ (S.out.below l.out (Aq _));have u:w.heap.size+1<b.heap.size:=(by omega);go_wp2_with fail;refine(aQf A n c m _ F.out T.out hn).mono ?_;rintro e w2 ⟨v,rfl,q,r⟩;obtain⟨g,G,rfl,Z,H,_⟩:=lQ q (by omega);have y:=(r.cell (p:=⟨w.heap.size+1,1,none⟩) u).trans (t (w.heap.size+1) 1 (by simp));simp at y;have z:=fQ q;have I:=fQ (Az b.heap.size w2);have J:=fQ r;clear q r t E;go_wp2_with fail;go_loopw [4,17,55] (fun K _ i wr=>dYi w2 b.heap.size g n G a m (addr+off) N K i wr) (fun _ _ i _=>a+1 - (intOf i).toNat)
  case atStart=>exact⟨0,by omega,rfl,by simp,z,I⟩
  case round=>
   clear z;obtain⟨j,hj,rfl,rfl,d,s⟩:=hrel;have ax:=(s.out.cell (p:=⟨w.heap.size+1,1,none⟩) u).trans y;by_cases L:j<a
   ·have az:decide ((j:Int)<(a:Int))=true:=(by simpa using L);have aA:wr.frozen? ⟨g,addr+off+j,none⟩=false:=d.out.frozenAt _
    obtain⟨v,hcell⟩:∃ v,wr.cell? ⟨g,addr+off+j,none⟩=some v:=by
     have hl:=d.out.1;rw[d.out.cellAt (addr+off+j) (by omega)];exact⟨_,AJ (by omega)⟩
    obtain⟨x,o⟩:=fX (N / 256 ^ j);have aH:x<18446744073709551616:=(by rw[<-o];exact Ag (Bv _ _) hN);rw[o];have B:=fQ o;clear o;go_wp2;refine⟨⟨j+1,by omega,by simp,?_,?_,fQ (s.out.setCell (p:=⟨g,addr+off+j,none⟩) H _)⟩,by simp[intOf];omega⟩
    ·rw[BQ,<-Ab,B.out];rfl
    ·refine fQ ?_;rw[aQu,B.out,<-bZp];exact(d.out.stored (addr+off+j) (.int .u8 ((x % 256:Nat):Int))).1
   ·obtain rfl:j=a:=(by omega);go_wp2;go_ret2;exact⟨_,_,rfl,jQ d.out l.out.size,l.out.trans ((J.out.trans s.out).mono l.out.size)⟩
theorem dXp(A:Option Addr)(n c addr off N:Nat)(op:Int)(m:List Nat)(w:BV)(hs:Src w A n (bys m))(i:A=none->n=0/\c=0)(hn:n<=140737488355328)
  (ha:addr<18446744073709551616) (z:off<18446744073709551616) (hN:N<18446744073709551616) :
  Calls fZ 90 #[.slice A n c,.int .i64 op,.int .u64 addr,.int .u64 off,.int .u64 N] w fun e w'=>∃ j l,e = .returned (.tuple #[.slice j (kV m op addr off N).length l,.int .i64 (kZ n op addr off N)]) /\
   w'.ownsRow w.heap.size 5 1 (.slice j (kV m op addr off N).length l) (kV m op addr off N).length (bys (kV m op addr off N))/\BY w.heap.size w w':=by
 have b:m.length=n:=by have:=hs.1;rwa[aQy]at this
 have bad:∀ E:Int,E≠0->kZ n op addr off N=E->∀ (w':BV) (g:Array BW),g.getD 10 undef = .slice none 0 0->g.getD 11 undef = .int .i64 E->BY w.heap.size w w' ->
   bodyPost fZ Tryz.f90 (fun e w'=>∃ j l,e = .returned (.tuple #[.slice j (kV m op addr off N).length l,.int .i64 (kZ n op addr off N)]) /\
    w'.ownsRow w.heap.size 5 1 (.slice j (kV m op addr off N).length l) (kV m op addr off N).length (bys (kV m op addr off N))/\BY w.heap.size w w') Exit.ret { tmps:=g,defers:=[] } w':=by
  intro E p v w' g B e2 C;have o:kV m op addr off N = []:=(by rw[kV,b,v,if_neg p]);refine bodyPost_ret (results_tmp2 (t:=10) (u:=11) rfl _ _ _) rfl ⟨none,0,?_,?_,C⟩
  ·rw[o,v];show Ending.returned (.tuple #[g.getD 10 undef,g.getD 11 undef])=_;rw[B,e2];rfl
  ·rw[o];exact AW _ _ _ _
 cases a:acc op with
 | none=>
  have d:=fQ (show kZ n op addr off N=1 by simp[kZ,a]);have s:=aWc a;clear a hs b i;go_in;go_wp2_with fail;refine(oW _).mono ?_;rintro e q ⟨rfl,rfl⟩;go_wp2;exact bad 1 (by decide) d.out _ _ rfl rfl (((Az _ _).alloc (Aq _) _).alloc (by simp) _)
 | some r=>
  obtain⟨k,wd,st,x⟩:=r;obtain⟨hk,an,_,_⟩:=lZ a
  cases st with
  | false=>
   have d:=fQ (show kZ n op addr off N=1 by simp[kZ,a]);have s:=yX a;clear a hs b i;go_in;go_wp2_with fail;refine(oW _).mono ?_;rintro e q ⟨rfl,rfl⟩;go_wp2;exact bad 1 (by decide) d.out _ _ rfl rfl (((Az _ _).alloc (Aq _) _).alloc (by simp) _)
  | true=>
   by_cases f:k=127/\4294967295<N
   ·have d:=fQ (show kZ n op addr off N=1 by simp[kZ,a,f]);have s:=yX a;have g1:(k == 127)=true:=(by simp[f.1]);have g2:decide (4294967295<(N:Int))=true:=(by simp;omega);clear a hs b i f;go_in;go_wp2_with fail;refine(oW _).mono ?_;rintro e q ⟨rfl,rfl⟩;go_wp2;exact bad 1 (by decide) d.out _ _ rfl rfl (((Az _ _).alloc (Aq _) _).alloc (by simp) _)
   ·by_cases hp:(mZ n wd addr off).2=0
    ·obtain⟨D,F,G,H⟩:=aKe hp;have p:kZ n op addr off N=0:=(by simp[kZ,a,f,hp]);obtain⟨y,rfl⟩:=AZ (show 0<=wd by omega);have o:kV m op addr off N=aQu m (addr+off) N y:=(by simp[kV,b,p,dVp,a]);have I:(kV m op addr off N).length=n:=(by rw[o,aQv,b]);rw[I,o,p];exact dWm A n c addr off N y op k x m w a hs i hn G H hN (by simpa using F) D f
    ·have d:=fQ (show kZ n op addr off N=(mZ n wd addr off).2 by simp[kZ,a,f]);have ao:((mZ n wd addr off).2 != 0)=true:=(by simpa using hp);have s:=yX a;have J:=fQ hp
     have key:(k == 127)=false\/((k == 127)=true/\decide (4294967295<(N:Int))=false):=by
      by_cases h:k=127
      ·exact .inr ⟨by simp[h],by simp;omega⟩
      ·exact .inl (by simp[h])
     clear a hs b hp i f;rcases key with K | ⟨K,aq⟩
     all_goals
      go_in;go_wp2_with fail;refine(oW _).mono ?_;rintro e q ⟨rfl,rfl⟩;go_wp2_with fail;refine(aZp _ n c addr off k wd true x _ hn (by omega) (by omega) ha z).mono ?_;rintro e q ⟨rfl,L⟩;go_wp2;exact bad _ J.out d.out _ _ rfl rfl ((((Az _ _).alloc (Aq _) _).alloc (by simp) _).trans (L.mono (by simp;omega)))
end
def bWk:Nat->Nat->List Nat->List Nat
 | 0,_,V=>V
 | m+1,o,V=>bWk m (o+1) (V.set o 0)
theorem bWl:∀ (m o:Nat) (V:List Nat),o+m<=V.length->bWk m o (aZd o V)=aZd (o+m) V
 | 0,o,V,_=>rfl
 | m+1,o,V,h=>by
  rw[bWk,bKn (by omega),bWl m (o+1) V (by omega)]
  congr 1
  omega
theorem cZz(V:List Nat):bWk (min 8 V.length) 0 V=zeroV 8 V:=by
 have:=bWl (min 8 V.length) 0 V (by omega);rw[bKm]at this;rw[this,BX];exact bKo rfl
theorem bWm(w:BV):(zeroValue 52).run fZ w = .ok (.int .u64 0) w:=by kernel_rfl
theorem KRef.zero{C:KaC}{f:FrD}{rest:List FrD}{pg c n:Nat}{vs:List BW}:∀ (m o:Nat) {X:KaS} {w:BV} (V:List Nat),KRef C X w->X.x.st={ f with V:=V } :: rest->X.ps = .slice (some ⟨pg,0,none⟩) n c :: vs->V.length=n ->
  KRef C (vW X f rest (bWk m o V)) (w.setCells pg o (Ay m (.int .u64 0)))/\(w.setCells pg o (Ay m (.int .u64 0))).heap.size=w.heap.size
 | 0,o,X,w,V,h,a,b,hn=>by
  refine⟨?_,rfl⟩
  have e:vW X f rest V=X:=by
   unfold vW;cases X;rename_i x _ _ _ _ _ _ _;cases x;simp at a ⊢;exact a.symm
  show KRef C (vW X f rest V) w;rw[e];exact h
 | m+1,o,X,w,V,h,a,b,hn=>by
  have h1:=h.fXb (f:={ f with V:=V }) (rest:=rest) a (g:=pg) (c:=c) (vs:=vs) (by subst hn;exact b) o 0;have h2:=KRef.zero m (o+1) (X:={ X with x:={ X.x with st:={ f with V:=V.set o 0 } :: rest } }) (V.set o 0) h1 rfl b (by rw[Bw];exact hn);refine⟨h2.1,?_⟩;show((w.setCell ⟨pg,o,none⟩ (.int .u64 0)).setCells pg (o+1) (Ay m (.int .u64 0))).heap.size=_;exact h2.2.trans (by simp[Ak])
theorem aJj{k pg:Nat}:∀ (vs:List BW) (o:Nat) (w:BV),k≠pg->(w.setCells pg o vs).heap[k]? = w.heap[k]?
 | [],_,_,_=>rfl
 | v :: vs,o,w,h=>(aJj vs (o+1) _ h).trans (Ax _ _ _ _ h)
theorem bJa(w:BV)(a:TypeId)(A:Option Addr)(c:Nat):(Builtin.clear_ #[30] a #[.slice A 0 c]).run fZ w = .ok (.tuple #[]) w:=by
 cases A <;> simp[Builtin.clear_,run_underlying underlying30,bWm,Builtin.zeroCells,storeCells]
theorem cYj{base:Nat}{e:TypeId}{b:List BW}(h:w.ownsRow base e a v n b):n<=maxLen:=by
 rcases h.2 with⟨_,h2⟩ | ⟨_,_,_,_,_,_,c,d,_⟩
 ·rw[h2];exact BZ _
 ·exact Aw c d
theorem aKp{pg m:Nat}:∀ (vs:List BW) (o:Nat) (w:BV),(w.drewN m).setCells pg o vs=(w.setCells pg o vs).drewN m
 | [],_,_=>rfl
 | v :: vs,o,w=>aKp vs (o+1) (w.setCell ⟨pg,o,none⟩ v)
theorem KK.cells{x z:KaS}{w0:BV}{pg:Nat}(a:x.lab pg≠0):∀ (vs:List BW) (o:Nat) {w:BV},KK z x w0 w->KK z x w0 (w.setCells pg o vs)
 | [],_,_,h=>h
 | v :: vs,o,w,h=>KK.cells a vs (o+1) (h.set (y:=x) o v (.inl a) rfl)
theorem dKk(C:KaC)(X:KaS)(f:FrD)(rest:List FrD)(vo:BW)(l:List Nat)(w:BV)(h:KRef C X w)(N:KC C)(O:X.x.st=f :: rest)(G:UR w vo l)(hf:∀ k,vo.ownBlock=some k->X.lab k=8)(T:ChainOk (f :: rest))(U:∀ g∈rest,FrOk C.p g)(hl:l.length=f.r.sig.out.length)(hd:rest.length<=16):
  Calls fZ 58 #[.pointer (some ⟨C.mm,0,none⟩),vo] w (aWj C X (aVn X.x l rest) w):=by
 obtain⟨g,cS,bg,bh,W,bj,aA,_,_,_,_,hg,bk,_,_⟩:=KRef.top h.toKRest O;have m0:=h.eYx;have bm:w.cell? ⟨C.cb,12,none⟩=some (.slice (some ⟨g,0,none⟩) (rest.length+1) cS):=(by rw[h.cell 12];simp[kCells,W]);have f12:=frz h.cb 12;have yb:=h.cb.lt;have ym:=h.mm.lt;have d:=(h.fXl O W).drew;have H:=((KK.refl X w).set (y:={ X with sv:=.slice (some ⟨g,0,none⟩) rest.length cS,ps:=X.ps.tail,x:={ X.x with st:=rest } }) (g:=C.cb) 12 (.slice (some ⟨g,0,none⟩) rest.length cS) (.inl (KRef.lcb h.toKRest)) rfl).drew;obtain⟨A,c,rfl⟩:=G.shape
 have Y:UR (w.setCell ⟨C.cb,12,none⟩ (.slice (some ⟨g,0,none⟩) rest.length cS)).drew (.slice A l.length c) l:=G.heap H.size (fun k I bn=>Ax _ _ _ _ (fun e=>by
  have e:k=C.cb:=e;have:=hf k I;rw[e,h.cl]at this
  cases this))
 obtain⟨B,Z⟩:=fX ((w.setCell ⟨C.cb,12,none⟩ (.slice (some ⟨g,0,none⟩) rest.length cS)).drew);rw[Z]at d H Y;have aB:=fQ Z;have HR:=fQ d;have HK:=fQ H;have HU:=fQ Y;have HF:=fQ hf;have m1:=d.eYx;have aH:B.cell? ⟨C.cb,12,none⟩=some (.slice (some ⟨g,0,none⟩) rest.length cS):=d.cell 12;have bo:=d.cb.lt;have bp:=d.mm.lt;have bq:g<B.heap.size:=Aj hg H.size;have br:=fQ N;have HL:=fQ hl;have bs:=fQ U;have bt:=fQ T;have bu:¬cS=0:=(by omega);have ad:=U;have af:=T;clear Z Y hf hl U T W;rcases rest with _ | ⟨q,b⟩
 ·have HE:=fQ (show aVn X.x l []=sV X.x X.x.s l 0 from rfl);clear d H h O G aA ad af;simp only[Ad]at *;go_in;go_wp2_with fail;go_region;rw[aB.out];go_wp2_with fail;refine(aVl C _ _ l 0 _ HR.out HU.out HF.out).mono ?_;rintro e w2 ⟨rfl,X',h1,h2,h3⟩;have H1:=fQ h1;have H2:=fQ h2;have H3:=fQ h3;clear h1 h2 h3;go_wp2;go_end0;exact⟨rfl,X',H1.out,HK.out.trans H2.out,H3.out⟩
 ·obtain⟨P,aI,aC,aJ⟩:=ad q (List.mem_cons_self ..);obtain⟨⟨Q,L,bw,aK,ah⟩,_⟩:=af;obtain⟨g',bx,pv,aL,i,e2,e3,e4,e5,e6,e7,e8,e9,e10,aD⟩:=KRef.top d.toKRest (f:=q) (rest:=b) rfl;have i:AK (some ⟨g,0,none⟩) (b.length+1) cS=_:=i;injection i with i _ aM;injection i with i;injection i with i;subst i;subst aM;obtain⟨k,I⟩:∃ k,q.k=k+1:=⟨q.k - 1,by omega⟩;obtain⟨n,hn⟩:=fX q.V.length;rw[hn]at e10;obtain⟨A1,R,rfl,bz⟩:=fJ e10;obtain⟨t,aE⟩:=fX (min 8 n);have aN:min (8:Int) (n:Int)=(t:Int):=(by omega);have aO:(0:Int)<=(t:Int):=(by omega);have aP:(t:Int)<=(R:Int):=(by omega);have bA:n<=9223372036854775807:=(by have:=cYj e10;unfold maxLen at this;omega)
  obtain⟨wc,HC⟩:∃ wc,Hid ((∀ m J,(Builtin.clear_ #[30] J #[.slice A1 t R]).run fZ (B.drewN m) = .ok (.tuple #[]) (wc.drewN m))/\KRef C (vW { X with sv:=.slice (some ⟨g,0,none⟩) (b.length+1) cS,ps:=X.ps.tail,x:={ X.x with st:=q :: b } } q b (zeroV 8 q.V)) wc/\KK X X w wc/\UR wc (.slice A l.length c) l):=by
   by_cases h0:n=0
   ·subst h0;have h8:t=0:=(by omega);subst h8;have hV:q.V = []:=List.eq_nil_of_length_eq_zero hn;refine⟨B,fQ ⟨fun m J=>bJa _ _ _ _,?_,HK.out.to rfl,HU.out⟩⟩
    have hq:vW { X with sv:=.slice (some ⟨g,0,none⟩) (b.length+1) cS,ps:=X.ps.tail,x:={ X.x with st:=q :: b } } q b (zeroV 8 q.V)={ X with sv:=.slice (some ⟨g,0,none⟩) (b.length+1) cS,ps:=X.ps.tail,x:={ X.x with st:=q :: b } }:=by
     unfold vW;rw[hV,show zeroV 8 [] = []from rfl];cases q;simp at hV;subst hV;rfl
    rw[hq];exact d
   ·obtain⟨pg,pc,az,bB,bC,bD⟩:=lQ e10 (by omega);injection az with az _ aQ;subst az;subst aQ;have hz:=KRef.zero (f:=q) (rest:=b) t 0 q.V d rfl e3 hn
    have ai:∀ m J,(Builtin.clear_ #[30] J #[.slice (some ⟨pg,0,none⟩) t R]).run fZ (B.drewN m) = .ok (.tuple #[]) ((B.setCells pg 0 (Ay t (.int .u64 0))).drewN m):=fun m J=>by
     rw[<-aKp];exact Lib.run_clear_slice (B.drewN m) 30 52 J (.int .u64 0) underlying30 bWm rfl rfl pg 0 t R (by omega) (fun j E=>by obtain⟨v,hv⟩:=aVe e10 (k:=j) (by omega);have hv:(B.drewN m).cell? _=_:=hv;rw[BX,hv];rfl) (fun j E=>e10.frozenAt _)
    have hb:=cZz q.V;rw[hn,aE]at hb;rw[hb]at hz;have K:=aD pg rfl;refine⟨_,fQ ⟨ai,hz.1,(KK.cells (x:=X) (by have K:X.lab pg=_:=K;rw[K];omega) _ _ (HK.out.to rfl)),HU.out.heap (Bq hz.2.symm) (fun j E _=>aJj _ _ _ (fun e=>?_))⟩⟩;have E:=HF.out j E;have K:X.lab pg=_:=K;rw[e,K]at E;omega
  obtain⟨ai,M,aF,aG⟩:=HC.out;have aR:(zeroV 8 q.V).length=n:=(aZv 8 q.V).trans hn;obtain⟨g2,bE,bF,aS,u,d2,d3,d4,S,d6,d7,d8,d9,d10,d11⟩:=KRef.top M.toKRest (f:={ q with V:=zeroV 8 q.V }) (rest:=b) rfl;have u:AK (some ⟨g,0,none⟩) (b.length+1) cS=_:=u;injection u with u _ aT;injection u with u;injection u with u;subst u;subst aT;obtain⟨ra,rb,rp,rd,y0,y1,y2,y3,y4,y5,_,_,_,y9⟩:=N.row M.bel P;rw[I,Ah]at L;obtain⟨dA,dn,dc,aU⟩:∃ A n c,rd=AK A n c:=(by obtain⟨A,c,e,_⟩:=y9.len;exact⟨A,_,c,e⟩);subst aU;obtain⟨aV,aW,bb,co,x2,x3,x4,aX,z,z0,z1,z2,z3,z4,z5⟩:=KC.code M.bel y9 L;subst aX;have aY:(k:Int)<(dn:Int):=(by omega);have aZ:(k:Int)<=4096:=(by have:=(N.ok.row _ _ P).1.n2;omega);have S:wc.cell? ⟨g,b.length*3+1,none⟩=some (.int .i64 (q.k:Int)):=S;rw[I]at S;have bG:((k+1:Nat):Int) - 1=(k:Int):=(by omega);have bH:IntKind.i64.wrap (k:Int)=(k:Int):=IntWalk.i64_in _ (by omega);have ak:=fQ M;have al:=fQ aF;have an:=fQ aG;have a1:=fQ z5;have a6:=fQ L;have a7:=fQ ah;have a8:=fQ I;have HN:=fQ hn;have ba:=fQ aC;have ao:=(N.ok.row _ _ P).1.code Q (List.mem_of_getElem? L);have bc:=fQ ao;have t0:(((b.length+1:Nat):Int) == 0)=false:=(by simp;omega);have t1:((b.length+1:Nat):Int) - 1=(b.length:Int):=(by omega);have t2:(b.length:Int)<((b.length+1:Nat):Int):=(by omega);clear d H h O G aA ad HC P aI aC aJ L aK ah M aF aG y9 z5 I hn ao e10 aD d10 d11 aE aR d2 e2 e3 d3 aV;simp only[AY]at *;go_in;go_wp2_with fail;go_region;rw[aB.out];go_wp2_with fail;go_quiet (fail);go_wp2_with fail;go_region;go_wp2_with fail;obtain⟨F,D⟩:=fX (wc.drewN (nq+1));have HD:=fQ (show KRef C _ F.drew from D ▸ (ak.out.drewN (nq+1)).drew);have bd:=fQ (show KK X X w F.drew from D ▸ (al.out.below (fV (Az _ _) (nq+1))).drew);have be:=fQ (show UR F.drew (.slice A l.length c) l from D ▸ (show UR (wc.drewN (nq+1)).drew _ l from an.out))
  have q0:∀ a,F.cell? a=wc.cell? a:=fun a=>by rw[<-D];rfl
  rw[<-q0]at d4 S d6 y1 y2 y3 y4 y5 z0 z1 z2 z3 z4;rw[D];have y0:C.zf<F.heap.size:=(by rw[<-D];exact y0);have z:bb<F.heap.size:=(by rw[<-D];exact z);clear D q0 ak al an;go_still_tail 16,(by kernel_rfl);change wpList _ _ _ _ _ F.drew;go_wp2_with fail;refine(rQ C _ { q with V:=zeroV 8 q.V } b g cS _ Q _ l _ HD.out rfl rfl a1.out be.out ?_ ?_ ?_).mono ?_
  ·intro j E;have:=HF.out j E;show X.lab j≠_;omega
  ·intro o G;obtain⟨_,_,_,_,_,_,_,_,_,h8,_⟩:=iQ bc.out;have:=h8 o G;show 0<=o/\o<((zeroV 8 q.V).length:Int);rw[aZv,ba.out];omega
  ·rw[HL.out,a7.out];exact Aq _
  rintro e w2 ⟨rfl,h1,h2⟩;have H1:=fQ h1;have H2:=fQ h2;clear h1 h2;go_wp2;go_end0;refine⟨rfl,_,H1.out,bd.out.trans (KK.trans (KK.refl _ _) (H2.out.from rfl)),?_⟩;have bf:((q.r.code[q.k - 1]?).getD bWt)=Q:=(by rw[a8.out,Ah,a6.out];rfl);show({ X.x with st:={ q with V:=putV Q.outs l (zeroV 8 q.V) } :: b }:MaD)={ X.x with st:={ q with V:=putV ((q.r.code[q.k - 1]?).getD bWt).outs l (zeroV 8 q.V) } :: b };rw[bf]
structure MaC where
 w0:BV
 a:BW
 b:BW
 d:BW
 f:BW
 p:RowsD
 lost:Nat
 mb:Nat
 gv:BW
structure MaS where
 s:StD
 lv:BW
 iv:BW
 mv:BW
 cnt:Nat
 wmax:Nat
 wcur:Nat
 d:Nat
 e:Int
def MOwn(C:MaC)(x:MaS)(k:Nat):Prop:=k=C.mb\/C.gv.ownBlock=some k\/x.lv.ownBlock=some k\/x.iv.ownBlock=some k\/x.mv.ownBlock=some k
structure MK (C:MaC) (x x':MaS) (w w':BV):Prop where
 os:w'.os=w.os
 tape:w'.tape=w.tape
 output:w'.output=w.output
 size:w.heap.size<=w'.heap.size
 keep:∀ k,k<w.heap.size->¬MOwn C x k->w'.heap[k]? = w.heap[k]? /\ ¬MOwn C x' k
theorem MK.trans{C:MaC}{x y z:MaS}{a w2 b:BV}(h:MK C x y a w2)(k:MK C y z w2 b):MK C x z a b:=
 ⟨k.os.trans h.os,k.tape.trans h.tape,k.output.trans h.output,Aw h.size k.size,fun i hi c=>by
  have h1:=h.keep i hi c;have h2:=k.keep i (Aj hi h.size) h1.2
  exact⟨h2.1.trans h1.1,h2.2⟩⟩
theorem MK.eYy{C:MaC}{x:MaS}(h:BY w.heap.size w w'):MK C x x w w':=⟨h.os,h.tape,h.output,h.size,fun k a b=>⟨h.block k a,b⟩⟩
theorem MK.to{C:MaC}{x x' y:MaS}(h:MK C x x' w w')(h1:y.lv=x'.lv)(h2:y.iv=x'.iv)(c:y.mv=x'.mv):MK C x y w w':=
 ⟨h.os,h.tape,h.output,h.size,fun k a b=>⟨(h.keep k a b).1,fun hn=>(h.keep k a b).2 (by unfold MOwn at hn ⊢;rw[h1,h2,c]at hn;exact hn)⟩⟩
theorem MK.blk{C:MaC}{x x':MaS}(h:MK C x x' w w'){e:TypeId}{cs:Array BW}(k:Blk w g e cs)(a:¬MOwn C x g):Blk w' g e cs:=((h.keep g k.lt a).1).trans k
theorem MK.fQa{C:MaC}{x y z:MaS}(h:MK C z x w0 w)(i:Nat)(u:BW)(h1:y.lv=x.lv)(h2:y.iv=x.iv)(b:y.mv=x.mv):MK C z y w0 (w.setCell ⟨C.mb,i,none⟩ u):=by
 have hs:MK C x x w (w.setCell ⟨C.mb,i,none⟩ u):=⟨rfl,rfl,rfl,by simp[Ak],fun k hk a=>⟨Ax _ _ _ _ (fun e=>a (.inl e)),a⟩⟩;exact(h.trans hs).to h1 h2 b
theorem MK.fQf{C:MaC}{x z:MaS}(h:MK C z x w0 w){i:Nat}(u:BW)(hg:w0.heap.size<=g):MK C z x w0 (w.setCell ⟨g,i,none⟩ u):=
 ⟨h.os,h.tape,h.output,Aw h.size (by simp[Ak]),fun k a b=>⟨(Ax _ _ _ _ (by show k≠g;omega)).trans (h.keep k a b).1,(h.keep k a b).2⟩⟩
theorem MK.below{C:MaC}{x z:MaS}(h:MK C z x w0 w)(a:BY w.heap.size w w'):MK C z x w0 w':=h.trans (MK.eYy a)
theorem MK.fQh{C:MaC}{x z:MaS}(h:MK C z x w0 w)(mv:BW)(m:List Nat)(h1:∀ k,mv.ownBlock=some k->w0.heap.size<=k):MK C z { x with mv:=mv,s:={ x.s with mem:=m } } w0 (w.setCell ⟨C.mb,6,none⟩ mv):=
 ⟨h.os,h.tape,h.output,Aw h.size (by simp[Ak]),fun k b c=>by
  have h2:=h.keep k b c;refine⟨(Ax _ _ _ _ (fun e=>h2.2 (.inl e))).trans h2.1,?_⟩;rintro(a | a | a | a | a)
  ·exact h2.2 (.inl a)
  ·exact h2.2 (.inr (.inl a))
  ·exact h2.2 (.inr (.inr (.inl a)))
  ·exact h2.2 (.inr (.inr (.inr (.inl a))))
  ·have:=h1 k a;omega⟩
theorem MK.fQk{C:MaC}{x z:MaS}(h:MK C z x w0 w)(iv:BW)(l:List Nat)(h1:∀ k,iv.ownBlock=some k->x.iv.ownBlock=some k):MK C z { x with iv:=iv,s:={ x.s with input:=l } } w0 (w.setCell ⟨C.mb,10,none⟩ iv):=
 ⟨h.os,h.tape,h.output,Aw h.size (by simp[Ak]),fun k b c=>by
  have h2:=h.keep k b c;refine⟨(Ax _ _ _ _ (fun e=>h2.2 (.inl e))).trans h2.1,?_⟩;rintro(a | a | a | a | a)
  ·exact h2.2 (.inl a)
  ·exact h2.2 (.inr (.inl a))
  ·exact h2.2 (.inr (.inr (.inl a)))
  ·exact h2.2 (.inr (.inr (.inr (.inl (h1 k a)))))
  ·exact h2.2 (.inr (.inr (.inr (.inr a))))⟩
theorem MK.fQs{C:MaC}{x z:MaS}(h:MK C z x w0 w)(lv:BW)(l:List Nat)(hg:w.grownBy w' x.lv.ownBlock)(d:∀ k,lv.ownBlock=some k->x.lv.ownBlock=some k\/w.heap.size<=k):MK C z { x with lv:=lv,s:={ x.s with log:=l } } w0 (w'.setCell ⟨C.mb,11,none⟩ lv):=by
 refine⟨hg.os.trans h.os,hg.tape.trans h.tape,hg.output.trans h.output,Aw h.size (Aw hg.size (by simp[Ak])),fun k b f=>?_⟩;have h2:=h.keep k b f;have g:=Aj b h.size;have i:(w'.setCell ⟨C.mb,11,none⟩ lv).heap[k]? = w'.heap[k]?:=Ax _ _ _ _ (fun e=>h2.2 (.inl e));have e2:w'.heap[k]? = w.heap[k]?:=hg.block k g (fun e=>h2.2 (.inr (.inr (.inl e.symm))));refine⟨i.trans (e2.trans h2.1),?_⟩;rintro(a | a | a | a | a)
 ·exact h2.2 (.inl a)
 ·exact h2.2 (.inr (.inl a))
 ·rcases d k a with c | c
  ·exact h2.2 (.inr (.inr (.inl c)))
  ·omega
 ·exact h2.2 (.inr (.inr (.inr (.inl a))))
 ·exact h2.2 (.inr (.inr (.inr (.inr a))))
theorem MK.fQl{C:MaC}{x z:MaS}(h:MK C z x w0 w)(a:C.gv = .slice (some ⟨g,0,none⟩) n c)(k N:Nat)(u:BW):MK C z { x with s:={ x.s with globals:=x.s.globals.set k N } } w0 (w.setCell ⟨g,k,none⟩ u):=
 ⟨h.os,h.tape,h.output,Aw h.size (by simp[Ak]),fun j b d=>by
  have h2:=h.keep j b d
  exact⟨(Ax _ _ _ _ (fun e=>h2.2 (.inr (.inl (by rw[a];show some g=some j;rw[show j=g from e]))))).trans h2.1,h2.2⟩⟩
theorem MK.grown{C:MaC}{x z:MaS}{r:Option Nat}(h:MK C z x w0 w)(hg:w.grownBy w' r)(b:∀ k,r=some k->w0.heap.size<=k):MK C z x w0 w':=
 ⟨hg.os.trans h.os,hg.tape.trans h.tape,hg.output.trans h.output,Aw h.size hg.size,fun k a c=>by
  have h2:=h.keep k a c
  exact⟨(hg.block k (Aj a h.size) (fun e=>by have:=b k e.symm;omega)).trans h2.1,h2.2⟩⟩
def mCells(C:MaC)(x:MaS):Array BW:=#[C.a,.int .i64 C.p.env.imports,C.b,C.d,.bool C.p.env.mem,C.f,x.mv,.int .i64 x.s.most,C.gv,.int .i64 x.s.fuel,x.iv,x.lv,.int .i64 C.lost,.int .i64 x.cnt,.int .i64 x.wmax,.int .i64 x.wcur,.int .i64 x.d,.int .i64 x.e]
structure MRef (C:MaC) (x:MaS) (w:BV):Prop where
 blk:Blk w C.mb 79 (mCells C x)
 mem:BR w x.mv x.s.mem
 inp:UR w x.iv x.s.input
 glo:w.ownsRow C.w0.heap.size 52 1 C.gv x.s.globals.length (u64V x.s.globals)
 log:w.ownsRow C.w0.heap.size 52 1 x.lv x.s.log.length (u64V x.s.log)
 bel:BY C.w0.heap.size C.w0 w
 mb:C.w0.heap.size<=C.mb
 gl:∀ k,C.gv.ownBlock=some k->x.lv.ownBlock≠some k/\x.iv.ownBlock≠some k/\x.mv.ownBlock≠some k
 ll:∀ k,x.lv.ownBlock=some k->x.iv.ownBlock≠some k/\x.mv.ownBlock≠some k
 ii:x.iv.ownBlock≠some C.mb
 mm:x.mv.ownBlock≠some C.mb
 il:∀ k,x.iv.ownBlock=some k->C.w0.heap.size<=k/\k<w.heap.size
 ml:∀ k,x.mv.ownBlock=some k->C.w0.heap.size<=k/\k<w.heap.size
 g64:All64 x.s.globals
 l64:All64 x.s.log
theorem MRef.heap{C:MaC}{x:MaS}{w w':BV}(h:MRef C x w)(hs:w.heap.size<=w'.heap.size)(b:∀ k,MOwn C x k->k<w.heap.size->w'.heap[k]? = w.heap[k]?)(c:BY C.w0.heap.size C.w0 w'):MRef C x w':=
 ⟨(b C.mb (.inl rfl) h.blk.lt).trans h.blk,h.mem.heap hs (fun k a=>b k (.inr (.inr (.inr (.inr a))))),h.inp.heap hs (fun k a=>b k (.inr (.inr (.inr (.inl a))))),
  xZ h.glo (fun k a=>b k (.inr (.inl a))),xZ h.log (fun k a=>b k (.inr (.inr (.inl a)))),c,h.mb,h.gl,h.ll,h.ii,h.mm,(fun k a=>⟨(h.il k a).1,Aj (h.il k a).2 hs⟩),(fun k a=>⟨(h.ml k a).1,Aj (h.ml k a).2 hs⟩),h.g64,h.l64⟩
theorem MRef.below{C:MaC}{x:MaS}(h:MRef C x w)(a:BY w.heap.size w w'):MRef C x w':=
 h.heap a.size (fun k _ b=>a.block k b) (h.bel.trans (a.mono h.bel.size))
theorem MRef.drewN{C:MaC}{x:MaS}{w:BV}(h:MRef C x w)(n:Nat):MRef C x (w.drewN n):=h.below (fV (Az _ _) n)
theorem MRef.fQf{C:MaC}{x:MaS}(h:MRef C x w){i:Nat}(u:BW)(hg:¬MOwn C x g)(a:C.w0.heap.size<=g):MRef C x (w.setCell ⟨g,i,none⟩ u):=
 h.heap (by simp[Ak]) (fun k b _=>Ax _ _ _ _ (fun e=>hg (by have:k=g:=e;rw[<-this];exact b))) (h.bel.setCell (p:=⟨g,i,none⟩) a _)
theorem MRef.fQa{C:MaC}{x y:MaS}(h:MRef C x w)(i:Nat)(u:BW)(hc:(mCells C x).setIfInBounds i u=mCells C y)(h1:y.lv=x.lv)(h2:y.iv=x.iv)(b:y.mv=x.mv)(l:y.s.mem=x.s.mem)(m:y.s.input=x.s.input)(d:y.s.globals=x.s.globals)(f:y.s.log=x.s.log):MRef C y (w.setCell ⟨C.mb,i,none⟩ u):=by
 have g:∀ {k:Nat},k≠C.mb->(w.setCell ⟨C.mb,i,none⟩ u).heap[k]? = w.heap[k]?:=fun a=>Ax _ _ _ _ a;have c:w.heap.size<=(w.setCell ⟨C.mb,i,none⟩ u).heap.size:=(by simp[Ak]);have j:=gZ h.blk i u;rw[hc]at j;refine⟨j,?_,?_,?_,?_,h.bel.setCell (p:=⟨C.mb,i,none⟩) h.mb _,h.mb,?_,?_,?_,?_,?_,?_,?_,?_⟩
 ·rw[b,l];exact h.mem.heap c (fun k a _=>g (fun e=>h.mm (e ▸ a)))
 ·rw[h2,m];exact h.inp.heap c (fun k a _=>g (fun e=>h.ii (e ▸ a)))
 ·rw[d];exact kQ h.glo (jV h.glo h.blk (by decide))
 ·rw[h1,f];exact kQ h.log (jV h.log h.blk (by decide))
 ·rw[h1,h2,b];exact h.gl
 ·rw[h1,h2,b];exact h.ll
 ·rw[h2];exact h.ii
 ·rw[b];exact h.mm
 ·rw[h2];exact fun k a=>⟨(h.il k a).1,Aj (h.il k a).2 c⟩
 ·rw[b];exact fun k a=>⟨(h.ml k a).1,Aj (h.ml k a).2 c⟩
 ·rw[d];exact h.g64
 ·rw[f];exact h.l64
theorem MRef.fQh{C:MaC}{x:MaS}(h:MRef C x w)(mv:BW)(m:List Nat)(d:BR w mv m)(h1:∀ k,mv.ownBlock=some k->k≠C.mb/\C.gv.ownBlock≠some k/\x.lv.ownBlock≠some k)(h2:∀ k,mv.ownBlock=some k->C.w0.heap.size<=k/\k<w.heap.size):
  MRef C { x with mv:=mv,s:={ x.s with mem:=m } } (w.setCell ⟨C.mb,6,none⟩ mv):=by
 have c:∀ {k:Nat},k≠C.mb->(w.setCell ⟨C.mb,6,none⟩ mv).heap[k]? = w.heap[k]?:=fun a=>Ax _ _ _ _ a;have b:w.heap.size<=(w.setCell ⟨C.mb,6,none⟩ mv).heap.size:=(by simp[Ak]);have f:=gZ h.blk 6 mv;refine⟨by simpa[mCells]using f,d.heap b (fun k a _=>c (h1 k a).1),h.inp.heap b (fun k a _=>c (fun e=>h.ii (e ▸ a))),kQ h.glo (jV h.glo h.blk (by decide)),kQ h.log (jV h.log h.blk (by decide)),h.bel.setCell (p:=⟨C.mb,6,none⟩) h.mb _,h.mb,?_,?_,h.ii,?_,(fun k a=>⟨(h.il k a).1,Aj (h.il k a).2 b⟩),(fun k a=>⟨(h2 k a).1,Aj (h2 k a).2 b⟩),h.g64,h.l64⟩
 ·exact fun k a=>⟨(h.gl k a).1,(h.gl k a).2.1,fun hn=>(h1 k hn).2.1 a⟩
 ·exact fun k a=>⟨(h.ll k a).1,fun hn=>(h1 k hn).2.2 a⟩
 ·exact fun hn=>(h1 _ hn).1 rfl
theorem MRef.fQk{C:MaC}{x:MaS}(h:MRef C x w)(iv:BW)(l:List Nat)(d:UR w iv l)(h1:∀ k,iv.ownBlock=some k->x.iv.ownBlock=some k):
  MRef C { x with iv:=iv,s:={ x.s with input:=l } } (w.setCell ⟨C.mb,10,none⟩ iv):=by
 have c:∀ {k:Nat},k≠C.mb->(w.setCell ⟨C.mb,10,none⟩ iv).heap[k]? = w.heap[k]?:=fun a=>Ax _ _ _ _ a;have b:w.heap.size<=(w.setCell ⟨C.mb,10,none⟩ iv).heap.size:=(by simp[Ak]);have f:=gZ h.blk 10 iv;refine⟨by simpa[mCells]using f,h.mem.heap b (fun k a _=>c (fun e=>h.mm (e ▸ a))),d.heap b (fun k a _=>c (fun e=>h.ii (e ▸ h1 k a))),kQ h.glo (jV h.glo h.blk (by decide)),kQ h.log (jV h.log h.blk (by decide)),h.bel.setCell (p:=⟨C.mb,10,none⟩) h.mb _,h.mb,?_,?_,?_,h.mm,(fun k a=>⟨(h.il k (h1 k a)).1,Aj (h.il k (h1 k a)).2 b⟩),(fun k a=>⟨(h.ml k a).1,Aj (h.ml k a).2 b⟩),h.g64,h.l64⟩
 ·exact fun k a=>⟨(h.gl k a).1,fun hn=>(h.gl k a).2.1 (h1 k hn),(h.gl k a).2.2⟩
 ·exact fun k a=>⟨fun hn=>(h.ll k a).1 (h1 k hn),(h.ll k a).2⟩
 ·exact fun hn=>h.ii (h1 _ hn)
theorem MRef.fQs{C:MaC}{x:MaS}(h:MRef C x w)(lv:BW)(l:List Nat)(hg:w.grownBy w' x.lv.ownBlock)(f:w'.ownsRow C.w0.heap.size 52 1 lv l.length (u64V l))(m:All64 l)(g:∀ k,lv.ownBlock=some k->x.lv.ownBlock=some k\/w.heap.size<=k):
  MRef C { x with lv:=lv,s:={ x.s with log:=l } } (w'.setCell ⟨C.mb,11,none⟩ lv):=by
 have old:∀ k,k<w.heap.size->x.lv.ownBlock≠some k->w'.heap[k]? = w.heap[k]?:=fun k a n=>hg.block k a (fun e=>n e.symm);have o:x.lv.ownBlock≠some C.mb:=jV h.log h.blk (by decide);have c:Blk w' C.mb 79 (mCells C x):=(old _ h.blk.lt o).trans h.blk;have i:w'.ownsRow C.w0.heap.size 52 1 C.gv x.s.globals.length (u64V x.s.globals):=xZ h.glo (fun k a b=>old k b (h.gl k a).1);have q:BR w' x.mv x.s.mem:=h.mem.heap hg.size (fun k a b=>old k b (fun e=>(h.ll k e).2 a));have r:UR w' x.iv x.s.input:=h.inp.heap hg.size (fun k a b=>old k b (fun e=>(h.ll k e).1 a));have t:BY C.w0.heap.size C.w0 w':=h.bel.grown hg h.bel.size (fun k a=>(h.log.lt k a).1);have j:∀ {k:Nat},k≠C.mb->(w'.setCell ⟨C.mb,11,none⟩ lv).heap[k]? = w'.heap[k]?:=fun a=>Ax _ _ _ _ a;have d:w'.heap.size<=(w'.setCell ⟨C.mb,11,none⟩ lv).heap.size:=(by simp[Ak]);have u:=gZ c 11 lv;have ak:∀ k,lv.ownBlock=some k->k≠C.mb:=fun k a e=>(jV f c (by decide)) (e ▸ a);refine⟨by simpa[mCells]using u,q.heap d (fun k a _=>j (fun e=>h.mm (e ▸ a))),r.heap d (fun k a _=>j (fun e=>h.ii (e ▸ a))),kQ i (jV i c (by decide)),kQ f (jV f c (by decide)),t.setCell (p:=⟨C.mb,11,none⟩) h.mb _,h.mb,?_,?_,h.ii,h.mm,(fun k a=>⟨(h.il k a).1,Aj (h.il k a).2 (Aw hg.size d)⟩),(fun k a=>⟨(h.ml k a).1,Aj (h.ml k a).2 (Aw hg.size d)⟩),h.g64,m⟩
 ·refine fun k a=>⟨fun hn=>?_,(h.gl k a).2⟩;rcases g k hn with h1 | h1
  ·exact(h.gl k a).1 h1
  ·have:=(h.glo.lt k a).2;omega
 ·refine fun k a=>⟨fun hn=>?_,fun hn=>?_⟩
  ·rcases g k a with h1 | h1
   ·exact(h.ll k h1).1 hn
   ·have:=(h.il k hn).2;omega
  ·rcases g k a with h1 | h1
   ·exact(h.ll k h1).2 hn
   ·have:=(h.ml k hn).2;omega
theorem MRef.fQl{C:MaC}{x:MaS}(h:MRef C x w)(d:C.gv = .slice (some ⟨g,0,none⟩) n c)(k N:Nat)(hN:N<18446744073709551616):
  MRef C { x with s:={ x.s with globals:=x.s.globals.set k N } } (w.setCell ⟨g,k,none⟩ (.int .u64 (N:Int))):=by
 have f:C.gv.ownBlock=some g:=(by rw[d];rfl);have o:g≠C.mb:=fun e=>(jV h.glo h.blk (by decide)) (by rw[f,e]);have i:∀ {j:Nat},j≠g->(w.setCell ⟨g,k,none⟩ (.int .u64 (N:Int))).heap[j]? = w.heap[j]?:=fun q=>Ax _ _ _ _ q;have b:w.heap.size<=(w.setCell ⟨g,k,none⟩ (.int .u64 (N:Int))).heap.size:=(by simp[Ak]);have l:=h.gl g f;have m:=h.glo;rw[d]at m
 have r:n=x.s.globals.length:=by
  rcases m.2 with⟨h1,_⟩ | ⟨_,_,_,h1,_⟩
  ·cases h1
  ·injection h1
 subst r;refine⟨(i (fun e=>o e.symm)).trans h.blk,h.mem.heap b (fun j a _=>i (fun e=>l.2.2 (e ▸ a))),h.inp.heap b (fun j a _=>i (fun e=>l.2.1 (e ▸ a))),?_,kQ h.log l.1,h.bel.setCell (p:=⟨g,k,none⟩) (h.glo.lt g f).1 _,h.mb,h.gl,h.ll,h.ii,h.mm,(fun j a=>⟨(h.il j a).1,Aj (h.il j a).2 b⟩),(fun j a=>⟨(h.ml j a).1,Aj (h.ml j a).2 b⟩),dXk h.g64 k N hN,h.l64⟩;rw[d];show(w.setCell ⟨g,k,none⟩ (.int .u64 (N:Int))).ownsRow C.w0.heap.size 52 1 (.slice (some ⟨g,0,none⟩) x.s.globals.length c) (x.s.globals.set k N).length (u64V (x.s.globals.set k N));rw[Bw,<-aZf];exact(m.stored k (.int .u64 (N:Int))).1
theorem MRef.grown{C:MaC}{x:MaS}{w w':BV}{r:Option Nat}(h:MRef C x w)(hg:w.grownBy w' r)(b:∀ k,r=some k->¬MOwn C x k/\C.w0.heap.size<=k):MRef C x w':=
 h.heap hg.size (fun k a c=>hg.block k c (fun e=>(b k e.symm).1 a)) (h.bel.grown hg h.bel.size (fun k a=>(b k a).2))
theorem MRef.live{C:MaC}{x:MaS}(h:MRef C x w)(a:MOwn C x k):k<w.heap.size:=by
 rcases a with rfl | h1 | h1 | h1 | h1
 ·exact h.blk.lt
 ·exact(h.glo.lt k h1).2
 ·exact(h.log.lt k h1).2
 ·exact(h.il k h1).2
 ·exact(h.ml k h1).2
theorem MRef.fresh{C:MaC}{x:MaS}(h:MRef C x w)(hk:w.heap.size<=k):¬MOwn C x k:=fun a=>by have:=h.live a;omega
theorem MRef.cell{C:MaC}{x:MaS}{w:BV}(h:MRef C x w)(i:Nat):w.cell? ⟨C.mb,i,none⟩=(mCells C x)[i]?:=h.blk.cell i
def dYh(C:MaC)(x:MaS)(w:BV)(l:List Nat)(outs:List Int)(k:Nat)(v:BW)(wr:BV):Prop:=∃ x1:MaS,MRef C x1 wr/\MK C x x1 w wr/\x1={ x with lv:=x1.lv,iv:=x1.iv,s:={ x.s with log:=l,input:=x.s.input.drop k } }/\wr.ownsRow w.heap.size 52 1 v k (u64V (lowL (outs.take k) (x.s.input.take k)))/\(∀ g,v.ownBlock=some g->¬MOwn C x1 g)
def bYc(C:MaC)(x:MaS)(n:Nat)(outs:List Int)(a:List Nat)(w:BV)(en:Ending)(w':BV):Prop:=
 ∃ (v:BW) (x':MaS),en = .returned (.tuple #[v,.int .i64 (hostV n outs a x.s).2.1])/\MRef C x' w'/\MK C x x' w w'/\x'={ x with lv:=x'.lv,iv:=x'.iv,s:=(hostV n outs a x.s).2.2 } /\
  ((hostV n outs a x.s).2.1=0->w'.ownsRow w.heap.size 52 1 v (hostV n outs a x.s).1.length (u64V (hostV n outs a x.s).1))/\(∃ A m c,v = .slice A m c)
theorem cXt{b o:Nat}(h:UR w (.slice (some ⟨b,o,none⟩) n c) l)(hn:1<=n):UR w (.slice (some ⟨b,o+1,none⟩) (n - 1) (c - 1)) (l.drop 1):=by
 obtain⟨e,hs,hc,h0,hz,a⟩:=h.len;subst e;refine⟨some ⟨b,o+1,none⟩,c - 1,by rw[AQ],?_,by rw[AQ];omega,(fun e=>by cases e),by rw[AQ];omega,aZx a 1⟩;rw[AQ];have:=hs.drop (i:=1) hn;unfold u64V at this ⊢
 rwa[<-List.map_drop]at this
theorem bYd{b o:Nat}(h:UR w (.slice (some ⟨b,o,none⟩) n 1) l)(hn:1<=n):UR w (.slice (some ⟨b,o,none⟩) 0 0) (l.drop 1):=by
 obtain⟨e,hs,hc,h0,hz,aa⟩:=h.len;have h1:n=1:=(by omega);have a:l.drop 1 = []:=Ac (by omega);rw[a];exact⟨_,0,rfl,Src.nil _ _,Aq _,(fun e=>by cases e),⟨by simp,by omega⟩,nW⟩
theorem aYu{C:MaC}{x x1:MaS}{w':BV}{l:List Nat}{outs:List Int}{k y a:Nat}{t:Int}{v v' iv':BW}(m:MRef C x1 wr)(n:MK C x x1 wB wr)
  (o:x1={ x with lv:=x1.lv,iv:=x1.iv,s:={ x.s with log:=l,input:=x.s.input.drop k } }) (c:wr.ownsRow wB.heap.size 52 1 v k (u64V (lowL (outs.take k) (x.s.input.take k)))) (p:∀ g,v.ownBlock=some g->¬MOwn C x1 g)
  (q:outs[k]? = some t) (d:(x.s.input.drop k)[0]? = some y) (r:oJ t y=a) (u:UR wr iv' ((x.s.input.drop k).drop 1)) (b:∀ k,iv'.ownBlock=some k->x1.iv.ownBlock=some k) (w:C.w0.heap.size<=wB.heap.size)
  (z:w'.ownsRow wB.heap.size 52 1 v' (k+1) (u64V (lowL (outs.take k) (x.s.input.take k)) ++ [.int .u64 (a:Int)]))
  (f:((wr.setCell ⟨C.mb,10,none⟩ iv').alloc (.cells #[.int .u64 (a:Int)] 52)).grownBy w' v.ownBlock)
  (A:v'.ownBlock=v.ownBlock\/v'.ownBlock=some ((wr.setCell ⟨C.mb,10,none⟩ iv').alloc (.cells #[.int .u64 (a:Int)] 52)).heap.size):dYh C x wB l outs (k+1) v' w':=by
 have B:=m.fQk iv' _ u b;have D:=n.fQk (C:=C) (x:=x1) iv' ((x.s.input.drop k).drop 1) b;have i:=(Az _ (wr.setCell ⟨C.mb,10,none⟩ iv')).alloc (Aq _) (.cells #[.int .u64 (a:Int)] 52);have j:=B.below i
 have own2:∀ g,MOwn C { x1 with iv:=iv',s:={ x1.s with input:=(x.s.input.drop k).drop 1 } } g->MOwn C x1 g:=fun g hg=>by
  rcases hg with h | h | h | h | h
  ·exact .inl h
  ·exact .inr (.inl h)
  ·exact .inr (.inr (.inl h))
  ·exact .inr (.inr (.inr (.inl (b g h))))
  ·exact .inr (.inr (.inr (.inr h)))
 have hv:∀ g,v.ownBlock=some g->¬MOwn C { x1 with iv:=iv',s:={ x1.s with input:=(x.s.input.drop k).drop 1 } } g:=fun g hg E=>p g hg (own2 g E);have F:=j.grown f (fun g hg=>⟨hv g hg,Aw w (c.lt g hg).1⟩);refine⟨_,F,(D.below i).grown f (fun g hg=>(c.lt g hg).1),?_,?_,fun g hg=>?_⟩
 ·rw[List.drop_drop];rw[o]
 ·have G:x.s.input[k]? = some y:=(by rw[List.getElem?_drop]at d;simpa using d);rw[aKh q G,r,aQd];exact z
 ·rcases A with e | e
  ·exact hv g (by rw[<-e];exact hg)
  ·rw[hg]at e;injection e with e;exact j.fresh (Bq e.symm)
theorem eJc{C:MaC}{x x1:MaS}{n k:Nat}{a:List Nat}{outs:List Int}(c:BY w.heap.size w wB)(d:MRef C x1 wr)(f:MK C x x1 wB wr)
  (b:x1={ x with lv:=x1.lv,iv:=x1.iv,s:={ x.s with log:=x.s.log++n :: a,input:=x.s.input.drop k } }) (h1:x.s.input.length=k) (h2:k<outs.length):bYc C x n outs a w (.returned (.tuple #[.slice none 0 0,.int .i64 39])) wr:=by
 have e:hostV n outs a x.s=([],39,{ x.s with log:=x.s.log++n :: a,input:=[] }):=by
  unfold hostV;rw[if_neg (by omega)]
 have hd:x.s.input.drop k = []:=Ac (by omega);rw[hd]at b;refine⟨.slice none 0 0,x1,?_,d,(MK.eYy c).trans f,?_,fun h=>?_,none,0,0,rfl⟩
 ·rw[e]
 ·rw[e];exact b
 ·rw[e]at h;exact absurd h (show ¬(39:Int)=0 by decide)
theorem eVw{C:MaC}{x x1:MaS}{n k:Nat}{a:List Nat}{outs:List Int}{v:BW}(d:BY w.heap.size w wB)(f:MRef C x1 wr)(g:MK C x x1 wB wr)
  (i:x1={ x with lv:=x1.lv,iv:=x1.iv,s:={ x.s with log:=x.s.log++n :: a,input:=x.s.input.drop k } }) (b:wr.ownsRow wB.heap.size 52 1 v k (u64V (lowL (outs.take k) (x.s.input.take k)))) (h1:k<=x.s.input.length) (h2:outs.length=k):bYc C x n outs a w (.returned (.tuple #[v,.int .i64 0])) wr:=by
 have e:hostV n outs a x.s=(lowL outs (x.s.input.take k),0,{ x.s with log:=x.s.log++n :: a,input:=x.s.input.drop k }):=by
  unfold hostV;rw[if_pos (by omega),h2]
 refine⟨v,x1,?_,f,(MK.eYy d).trans g,?_,fun h=>?_,(by obtain⟨A,c,e,_⟩:=fJ b;exact⟨A,k,c,e⟩)⟩
 ·rw[e]
 ·rw[e];exact i
 ·rw[e];have j:(lowL outs (x.s.input.take k)).length=k:=(by rw[rW _ _ (by rw[Bz];omega),Bz];omega);rw[List.take_of_length_le (l:=outs) (by omega)]at b;show wr.ownsRow w.heap.size 52 1 v (lowL outs (x.s.input.take k)).length _;rw[j];exact jQ b d.size
theorem dVo(C:MaC)(x:MaS)(n:Nat)(g:SigD)(vg va:BW)(a:List Nat)(w:BV)(h:MRef C x w)(hg:SigV C.w0 vg g)(ha:UR w va a)(hf:∀ k,va.ownBlock=some k->¬MOwn C x k)(hn:n<=1000)(a8:a.length<=8)(ba:g.out.length<=8)(aI:x.s.log.length<=1000000000)(bu:x.s.input.length<=100000):
  Calls fZ 55 #[.pointer (some ⟨C.mb,6,none⟩),.int .i64 n,vg,va] w (bYc C x n g.out a w):=by
 obtain⟨p,q,rfl,hp,hq⟩:=hg;obtain⟨Aa,ca,rfl⟩:=ha.shape;obtain⟨E,j,rfl⟩:=hq.shape;obtain⟨O,hO⟩:=fX g.out.length;rw[hO]at hq ba ⊢;have HQ:=fQ hq.ir;have aJ:=fQ hO;clear hO;obtain⟨lA,Q,R,bb⟩:=fJ h.log;obtain⟨L,hL⟩:=fX x.s.log.length;obtain⟨m,hm⟩:=fX a.length;rw[hL]at R bb aI;rw[hm]at ha a8 hf ⊢;have HL:=fQ hL;have bc:=fQ hm;have X:=(Az w.heap.size w).alloc (Aq _) (.cells #[p,.slice E O j] 62);have ak:=X.alloc (by simp) (.cells #[.int .u64 (n:Int)] 52);have aT:=fQ X;have bd:=fQ (h.below X);have K:=fQ (h.below ak);have be:=fQ (Blk.new w 62 #[p,.slice E O j]);have bf:(w.alloc (.cells #[p,.slice E O j] 62)).cell? ⟨C.mb,11,none⟩=some (.slice lA L Q):=(by rw[bd.out.cell 11];simp[mCells,R]);have aU:=fQ (show((w.alloc (.cells #[p,.slice E O j] 62)).alloc (.cells #[.int .u64 (n:Int)] 52)).ownsRow C.w0.heap.size 52 1 (.slice lA L Q) L (u64V x.s.log) by have:=K.out.log;rw[R,HL.out]at this;exact this);have aV:=fQ (ha.below ak (Aq _));have HF:=fQ hf;have M:=fQ R;have bg:=fQ (h.fresh (Aq w.heap.size));have y1:=h.blk.lt;have bh:=h.bel.size;have aK:=fQ ha.len.2.2.2.2.2;have aL:=fQ h.l64;have bw:(n:Int)<=1000:=(by omega);clear ha h hf X ak R hL hm hp hq;go_in;go_wp2_with (at_builtin;refine oY _ rfl (.tmp 17) (.tmp 20) 30 rfl C.w0.heap.size 52 (.int .u64 0) 1 8 underlying30 sQ rfl (by omega) (.slice lA L Q) L (u64V x.s.log) rfl aU.out (some ⟨w.heap.size+1,0,none⟩) 1 1 [.int .u64 (n:Int)] rfl (Blk.fQb (cs:=#[.int .u64 (n:Int)]) (Blk.newAt _ _ _ (by simp)) rfl) (fun u D=>by rw[List.mem_singleton.1 D];rfl) (by unfold maxLen;omega) (by omega) (by simp;omega) ?_);rintro v1 w2 d c f _;obtain⟨A1,c1,rfl,bj⟩:=fJ d;have aW:=fQ d;have aM:=fQ c;have aN:=fQ (show(AK A1 (L+1) c1).ownBlock=(AK lA L Q).ownBlock\/(AK A1 (L+1) c1).ownBlock=some ((w.alloc (.cells #[p,.slice E O j] 62)).alloc (.cells #[.int .u64 (n:Int)] 52)).heap.size by simpa using f);have aO:w.heap.size+1+1<=w2.heap.size:=(by simpa using c.size)
 have aX:=fQ (show Src w2 Aa (m*1) (u64V a) by
  rw[Nat.mul_one]
  exact(aV.out.heap c.size (fun k l bk=>c.block k bk (fun e=>HF.out k l (.inr (.inr (.inl (by rw[M.out];exact e.symm))))))).len.2.1)
 clear d c f;go_wp2_with (at_builtin;refine oY _ rfl (.tmp 21) (.tmp 22) 30 rfl C.w0.heap.size 52 (.int .u64 0) 1 8 underlying30 sQ rfl (by omega) (.slice A1 (L+1) c1) (L+1) (u64V x.s.log ++ [.int .u64 (n:Int)]) rfl aW.out Aa m ca (u64V a) rfl aX.out (aZe _) (by unfold maxLen;omega) (by omega) (by omega) ?_);rintro v2 w3 S k2 k3 _;have Y:=dWf aM.out k2 aN.out
 have al:∀ k,v2.ownBlock=some k->x.lv.ownBlock=some k\/((w.alloc (.cells #[p,.slice E O j] 62)).alloc (.cells #[.int .u64 (n:Int)] 52)).heap.size<=k:=fun k l=>by
  rcases k3 with e | e
  ·rw[l]at e;rcases aN.out with e2 | e2
   ·exact .inl (by rw[M.out,<-e2,<-e])
   ·rw[<-e]at e2;injection e2 with e2;exact .inr (Bq e2.symm)
  ·rw[l]at e;injection e with e;exact .inr (by rw[e];exact aM.out.size)
 have ai:(x.s.log++n :: a).length=L+1+m:=by simp[HL.out,bc.out];omega
 have ag:w3.ownsRow C.w0.heap.size 52 1 v2 (x.s.log++n :: a).length (u64V (x.s.log++n :: a)):=by
  rw[ai];have:u64V (x.s.log++n :: a)=u64V x.s.log ++ [.int .u64 (n:Int)]++u64V a:=(by simp[u64V]);rw[this]
  simpa using S
 have aj:All64 (x.s.log++n :: a):=fun y T=>by
  rcases List.mem_append.1 T with h1 | h1
  ·exact aL.out y h1
  ·rcases List.mem_cons.1 h1 with rfl | h1
   ·omega
   ·exact aK.out y h1
 have ad:Blk w3 C.mb 79 (mCells C x):=K.out.blk.grown Y (fun e=>(jV K.out.log K.out.blk (by decide)) (by rw[M.out];exact e));have aP:w3.cell? ⟨C.mb,11,none⟩=some (.slice lA L Q):=(by rw[ad.cell 11];simp[mCells,M.out]);have f11:=frz ad 11;have y3:=ad.lt;have HX:=fQ (K.out.fQs v2 (x.s.log++n :: a) (by rw[M.out];exact Y) ag aj al);have aQ:=fQ (((MK.eYy (C:=C) (x:=x) ((Az _ _).alloc (Aq _) (.cells #[.int .u64 (n:Int)] 52)))).fQs (w0:=w.alloc (.cells #[p,.slice E O j] 62)) v2 (x.s.log++n :: a) (by rw[M.out];exact Y) al);obtain⟨A2,c2,rfl,_⟩:=fJ ag;obtain⟨l2,aY⟩:=fX ((x.s.log++n :: a).length);rw[aY]at HX aQ ⊢;clear S k2 k3 Y al ai ag aj ad aY bf;go_wp2_with fail;go_loopw [10,11] (fun v i wr=>∃ k:Nat,k<=O/\k<=x.s.input.length/\i = .int .i64 k/\Hid (dYh C x (w.alloc (.cells #[p,.slice E O j] 62)) (x.s.log++n :: a) g.out k v wr)) (fun _ i _=>O - (intOf i).toNat)
 case atStart=>exact⟨0,by omega,by omega,rfl,fQ ⟨_,HX.out,aQ.out,rfl,AW _ _ _ _,fun g hg=>by cases hg⟩⟩
 case round=>
  clear HX aQ aU K aW aM aN aX aV aP f11 y3 aO;obtain⟨k,l,bm,rfl,IV⟩:=hrel;obtain⟨x1,F,J2,J3,J4,J5⟩:=IV.out;have K1:=J2.blk be.out bg.out;have k0:=K1.cell 0;have S:=K1.cell 1;simp at k0 S;have yk:=K1.lt;have ym:=F.blk.lt;obtain⟨Av,cv,rfl,bx⟩:=fJ J4;have aZ:=congrArg MaS.s J3;have ay:x1.s.input=x.s.input.drop k:=(by rw[aZ]);have U:UR wr x1.iv (x.s.input.drop k):=(by rw[<-ay];exact F.inp);obtain⟨iA,G,V⟩:=U.shape;obtain⟨Z,hZ⟩:=fX ((x.s.input.drop k).length);have a1:x.s.input.length=k+Z:=(by rw[AQ]at hZ;omega);rw[hZ]at V;have bz:wr.cell? ⟨C.mb,10,none⟩=some (.slice iA Z G):=(by rw[F.cell 10];simp[mCells,V]);have f10:=frz F.blk 10;rw[V]at U;have r:=fQ F;have B:=fQ J2;have N:=fQ J3;have z:=fQ J4;have aF:=fQ J5;have W:=fQ U;have aG:=fQ V;have P:=fQ a1;have bA:=fQ (HQ.out.below F.bel (Aq _));have bn:=U.len.2.2.1;clear F J2 J3 J4 J5 aZ ay U V hZ K1 IV a1;by_cases a6:k<O
  ·have t1:decide ((k:Int)<O)=true:=(by simp;omega);have t2:(k:Int)<O:=(by omega);obtain⟨t,ht⟩:∃ t,g.out[k]? = some t:=⟨_,AJ (by rw[aJ.out];exact a6)⟩;obtain⟨b,o,e1,aR,a7⟩:=HQ.out.cell ht;subst e1;have hc:wr.cell? ⟨b,o+k,none⟩=some (.int .i64 t):=(r.out.bel.cell (p:=⟨b,o+k,none⟩) aR).trans a7;have hb:b<wr.heap.size:=Aj aR r.out.bel.size;have bo:b≠C.mb:=(by have:=r.out.mb;omega);have bB:∀ u,(wr.setCell ⟨C.mb,10,none⟩ u).cell? ⟨b,o+k,none⟩=some (.int .i64 t):=fun u=>(oK bo).trans hc;have bC:∀ u,(wr.setCell ⟨C.mb,10,none⟩ u).cell? ⟨w.heap.size,1,none⟩=some (.slice (some ⟨b,o,none⟩) O j):=fun u=>(oK (by omega)).trans S;clear aR a7;by_cases bp:Z=0
   ·subst bp;clear ht;go_wp2_with fail;refine bodyPost_ret (results_tmp2 (t:=8) (u:=9) rfl _ _ _) rfl ?_;exact eJc aT.out r.out B.out N.out (by have:=P.out;omega) (by rw[aJ.out];exact a6)
   ·obtain⟨y,T⟩:∃ y,(x.s.input.drop k)[0]? = some y:=⟨_,AJ (by rw[AQ];have:=P.out;omega)⟩;obtain⟨b',o',e2,bD,bq,aC⟩:=W.out.cell T;subst e2;rw[Nat.add_zero]at bq;have t3:((Z:Int) == 0)=false:=(by simp;omega);have t4:(0:Int)<(Z:Int):=(by omega);have t5:(1:Int)<=(Z:Int):=(by omega);have HT:=fQ ht;have HY:=fQ T;clear ht T;have aH:1<=Z:=(by omega);by_cases br:G=1
    ·have bs:G - 1=0:=(by omega);subst br;have bt:Z=1:=(by omega);subst bt;by_cases A:t=127
     ·have t6:(t == 127)=true:=(by simp[A]);have H:=fQ (show oJ t y=y % 4294967296 by unfold oJ;rw[if_pos A]);have hand:=bZf aC;have I:=fQ (pJ (kQ (k:=10) (u:=(.slice (some ⟨b',o',none⟩) 0 0)) z.out (jV z.out r.out.blk (by decide))) (.cells #[.int .u64 ((y % 4294967296:Nat):Int)] 52));go_wp2_with (at_builtin;refine oY _ rfl (.tmp 61) (.tmp 63) 30 rfl (w.alloc (.cells #[p,.slice (some ⟨b,o,none⟩) O j] 62)).heap.size 52 (.int .u64 0) 1 8 underlying30 sQ rfl (by omega) (.slice Av k cv) k (u64V (lowL (g.out.take k) (x.s.input.take k))) rfl I.out (some ⟨wr.heap.size,0,none⟩) 1 1 [.int .u64 ((y % 4294967296:Nat):Int)] rfl (Blk.fQb (cs:=#[.int .u64 ((y % 4294967296:Nat):Int)]) (Blk.newAt _ _ _ (by simp)) rfl) (fun u D=>by rw[List.mem_singleton.1 D];rfl) (by unfold maxLen;omega) (by omega) (by have:=B.out.size;simp at this ⊢;omega) ?_);rintro v' w' d c f _;have J:=fQ (aYu r.out B.out N.out z.out aF.out HT.out HY.out H.out (bYd W.out aH) (by rw[aG.out];exact fun k l=>l) (by simp;omega) (by first | exact d | simpa using d) (by first | exact c | simpa using c) (by first | exact f | simpa using f));clear d c f;go_wp2;exact⟨⟨k+1,by omega,by have:=P.out;omega,by simp,J⟩,by simp[intOf];omega⟩
     ·have t6:(t == 127)=false:=(by simp[A]);have H:=fQ (show oJ t y=y by unfold oJ;rw[if_neg A]);clear A;have I:=fQ (pJ (kQ (k:=10) (u:=(.slice (some ⟨b',o',none⟩) 0 0)) z.out (jV z.out r.out.blk (by decide))) (.cells #[.int .u64 ((y:Nat):Int)] 52));go_wp2_with (at_builtin;refine oY _ rfl (.tmp 61) (.tmp 63) 30 rfl (w.alloc (.cells #[p,.slice (some ⟨b,o,none⟩) O j] 62)).heap.size 52 (.int .u64 0) 1 8 underlying30 sQ rfl (by omega) (.slice Av k cv) k (u64V (lowL (g.out.take k) (x.s.input.take k))) rfl I.out (some ⟨wr.heap.size,0,none⟩) 1 1 [.int .u64 ((y:Nat):Int)] rfl (Blk.fQb (cs:=#[.int .u64 ((y:Nat):Int)]) (Blk.newAt _ _ _ (by simp)) rfl) (fun u D=>by rw[List.mem_singleton.1 D];rfl) (by unfold maxLen;omega) (by omega) (by have:=B.out.size;simp at this ⊢;omega) ?_);rintro v' w' d c f _;have J:=fQ (aYu r.out B.out N.out z.out aF.out HT.out HY.out H.out (bYd W.out aH) (by rw[aG.out];exact fun k l=>l) (by simp;omega) (by first | exact d | simpa using d) (by first | exact c | simpa using c) (by first | exact f | simpa using f));clear d c f;go_wp2;exact⟨⟨k+1,by omega,by have:=P.out;omega,by simp,J⟩,by simp[intOf];omega⟩
    ·have bs:(G - 1 == 0)=false:=(by simp;omega);have bE:¬G - 1=0:=(by omega);by_cases A:t=127
     ·have t6:(t == 127)=true:=(by simp[A]);have H:=fQ (show oJ t y=y % 4294967296 by unfold oJ;rw[if_pos A]);have hand:=bZf aC;have I:=fQ (pJ (kQ (k:=10) (u:=(.slice (some ⟨b',o'+1,none⟩) (Z - 1) (G - 1))) z.out (jV z.out r.out.blk (by decide))) (.cells #[.int .u64 ((y % 4294967296:Nat):Int)] 52));go_wp2_with (at_builtin;refine oY _ rfl (.tmp 61) (.tmp 63) 30 rfl (w.alloc (.cells #[p,.slice (some ⟨b,o,none⟩) O j] 62)).heap.size 52 (.int .u64 0) 1 8 underlying30 sQ rfl (by omega) (.slice Av k cv) k (u64V (lowL (g.out.take k) (x.s.input.take k))) rfl I.out (some ⟨wr.heap.size,0,none⟩) 1 1 [.int .u64 ((y % 4294967296:Nat):Int)] rfl (Blk.fQb (cs:=#[.int .u64 ((y % 4294967296:Nat):Int)]) (Blk.newAt _ _ _ (by simp)) rfl) (fun u D=>by rw[List.mem_singleton.1 D];rfl) (by unfold maxLen;omega) (by omega) (by have:=B.out.size;simp at this ⊢;omega) ?_);rintro v' w' d c f _;have J:=fQ (aYu r.out B.out N.out z.out aF.out HT.out HY.out H.out (cXt W.out aH) (by rw[aG.out];exact fun k l=>l) (by simp;omega) (by first | exact d | simpa using d) (by first | exact c | simpa using c) (by first | exact f | simpa using f));clear d c f;go_wp2;exact⟨⟨k+1,by omega,by have:=P.out;omega,by simp,J⟩,by simp[intOf];omega⟩
     ·have t6:(t == 127)=false:=(by simp[A]);have H:=fQ (show oJ t y=y by unfold oJ;rw[if_neg A]);clear A;have I:=fQ (pJ (kQ (k:=10) (u:=(.slice (some ⟨b',o'+1,none⟩) (Z - 1) (G - 1))) z.out (jV z.out r.out.blk (by decide))) (.cells #[.int .u64 ((y:Nat):Int)] 52));go_wp2_with (at_builtin;refine oY _ rfl (.tmp 61) (.tmp 63) 30 rfl (w.alloc (.cells #[p,.slice (some ⟨b,o,none⟩) O j] 62)).heap.size 52 (.int .u64 0) 1 8 underlying30 sQ rfl (by omega) (.slice Av k cv) k (u64V (lowL (g.out.take k) (x.s.input.take k))) rfl I.out (some ⟨wr.heap.size,0,none⟩) 1 1 [.int .u64 ((y:Nat):Int)] rfl (Blk.fQb (cs:=#[.int .u64 ((y:Nat):Int)]) (Blk.newAt _ _ _ (by simp)) rfl) (fun u D=>by rw[List.mem_singleton.1 D];rfl) (by unfold maxLen;omega) (by omega) (by have:=B.out.size;simp at this ⊢;omega) ?_);rintro v' w' d c f _;have J:=fQ (aYu r.out B.out N.out z.out aF.out HT.out HY.out H.out (cXt W.out aH) (by rw[aG.out];exact fun k l=>l) (by simp;omega) (by first | exact d | simpa using d) (by first | exact c | simpa using c) (by first | exact f | simpa using f));clear d c f;go_wp2;exact⟨⟨k+1,by omega,by have:=P.out;omega,by simp,J⟩,by simp[intOf];omega⟩
  ·have t1:decide ((k:Int)<O)=false:=(by simp;omega);have aS:O=k:=(by omega);subst aS;go_wp2_with fail;refine bodyPost_ret (results_tmp2 (t:=8) (u:=9) rfl _ _ _) rfl ?_;exact eVw aT.out r.out B.out N.out z.out bm aJ.out
end Go.Proofs.YtabibkpfgmolkaaGreatDoor

/- Lemmas for the claim, part 15. Conditions: none. -/
import Derived.Test.YtabibkpfgmolkaaGreatPk09
import Derived.Test.YtabibkpfgmolkaaGreatPk14
import Derived.Deep.CutBlock
set_option maxRecDepth 100000
set_option maxHeartbeats 16000000
set_option linter.unusedVariables false
set_option linter.unusedSimpArgs false
open Go.Lib renaming hid→fQ
open Go.Proofs.Tryz renaming prog→fZ
open Go.Proofs.Tryz
open Go.RowKit
open Nat renaming le_refl→Aj,lt_of_lt_of_le→Az,lt_succ_self→AK,add_zero→Ah
open List renaming getElem?_eq_getElem→Aq,mem_of_getElem?→Ak,getD_eq_getElem?_getD→Ay,length_map→AQ,replicate→AX,getElem?_append_right→AW,getElem?_append_left→Ab,getElem?_map→Ac,length→Ae,take_zero→Ag
open Go.Act renaming put→Ax
open Go.RowKit.Below renaming cell→Aw,refl→AJ,size→AY
open Go.IntWalk renaming i64_in→AZ
open Array renaming getElem?_eq_getElem→AV
open Int renaming toNat_natCast→Ad
open Go renaming World→Ai,Value→Bj
open Go.RowKit renaming Below→Bq
namespace Go.Proofs.YtabibkpfgmolkaaGreat
variable {w w' wr:Ai}{base g k y n vb:Nat}{v x0 x1 x2 x3 x4 x5:Bj}{t:TypeId}{hs:List Int}{V:List Nat}
open List renaming setIfInBounds_toArray->jA,set_cons_zero->jB,set_cons_succ->jC
theorem cJe(p:RowsD)(v:Bj)(w:Ai)(hv:RowsV w v p):Calls fZ 5 #[v] w (dKd p w):=by
 obtain⟨a,b,d,f,rfl,h1,h2,h3,Z⟩:=hv;have av:=fQ (show EnvV w (.agg #[a,.int .i64 p.env.imports,b,d,.bool p.env.mem]) p.env from⟨a,b,d,rfl,h1,h2,h3⟩);obtain⟨sA,sc,rfl,_,aR,_⟩:=h1.len;obtain⟨fA,fc,rfl,_,aC,_⟩:=Z.len;have aw:=fQ h1;have ax:=fQ Z;have an:=fQ ((AJ w.heap.size w).alloc (Aj _) (.cells #[.slice sA p.env.sigs.length sc,.int .i64 p.env.imports,b,d,.bool p.env.mem,.slice fA p.fns.length fc] 29));have K0:=fQ (Blk.new w 29 #[.slice sA p.env.sigs.length sc,.int .i64 p.env.imports,b,d,.bool p.env.mem,.slice fA p.fns.length fc]);clear h1 h2 h3 Z;go_in;go_wp2_with fail;refine(aQn _ p.env _ (av.out.below an.out (Aj _))).mono ?_;rintro en w1 ⟨rfl,ao⟩;have H:=fQ (an.out.trans (ao.mono an.out.size));have KP:=fQ (K0.out.below ao K0.out.lt);clear ao;cases T:envOk p.env
 ·go_wp2_with fail;go_ret;exact⟨false,rfl,⟨fun h=>(by cases h),fun h=>(by have:=h.env;rw[T]at this;cases this)⟩,H.out⟩
 have aD:=lV T;obtain⟨M,hM⟩:∃ M:Nat,p.env.imports=(M:Int):=⟨p.env.imports.toNat,by omega⟩;obtain⟨n,hn⟩:=fX p.fns.length;obtain⟨L,hL⟩:=fX p.env.sigs.length;obtain⟨S,hS⟩:=fX (L - M);have aS:M<=L:=(by omega);have aE:=fQ T;have N:=fQ hM;have U:=fQ hn;have V:=fQ hL;have O:=fQ (show S+M=L by omega);have aF:M<=64:=(by omega);have aG:L<=64:=(by omega);have aH:S<=64:=(by omega);rw[hn]at aC;have aI:IntKind.i64.wrap ((L:Int) - (M:Int))=(S:Int):=(by rw[show(L:Int) - (M:Int)=(S:Int) by omega];exact AZ _ (by omega));obtain⟨e0,l,e2,o,q,m⟩:=aJq KP.out;rw[hM]at l ⊢;rw[hL]at e0 aw ⊢;rw[hn]at m ax ⊢;have y1:=KP.out.lt;have aJ:=fQ (show ∀ w',Bq w1.heap.size w1 w'->_/\_/\_/\_/\_/\_ from fun w' t=>⟨(t.cell (p:=⟨w.heap.size,_,none⟩) y1).trans e0,(t.cell (p:=⟨w.heap.size,_,none⟩) y1).trans l,(t.cell (p:=⟨w.heap.size,_,none⟩) y1).trans e2,(t.cell (p:=⟨w.heap.size,_,none⟩) y1).trans o,(t.cell (p:=⟨w.heap.size,_,none⟩) y1).trans q,(t.cell (p:=⟨w.heap.size,_,none⟩) y1).trans m⟩);clear T aD hM hn hL hS;by_cases aK:n=S
 ·subst aK;have q0:((n:Int) != (n:Int))=false:=(by simp);go_wp2_with fail;clear e0 l e2 o q m q0 aI;go_loopw [3] (fun i wr=>∃ k:Nat,k<=n/\i = .int .i64 k/\Hid (LrInv p M w1 k wr)) (fun i _=>n - (intOf i).toNat)
  case atStart=>exact⟨0,by omega,rfl,fQ ⟨AJ _ _,fun j r hj=>by omega⟩⟩
  case round=>
   obtain⟨k,hk,rfl,I⟩:=hrel;obtain⟨e0,l,e2,o,q,m⟩:=aJ.out _ I.out.1;by_cases aL:k<n
   ·as_aux_lemma=>
    have t1:decide ((k:Int)<n)=true:=(by simp;omega);have t2:(k:Int)<n:=(by omega);obtain⟨r,hr⟩:∃ r,p.fns[k]? = some r:=⟨_,Aq (by rw[U.out];exact aL)⟩;obtain⟨X,hX⟩:=fX (M+k);obtain⟨s,hs⟩:∃ s,p.env.sigs[X]? = some s:=⟨_,Aq (by have:=O.out;have:=V.out;omega)⟩;have HR:=fQ hr;have ay:=fQ (show p.env.sigs[M+k]? = some s from hX ▸ hs);have aT:IntKind.i64.wrap ((M:Int)+(k:Int))=(X:Int):=(by rw[show(M:Int)+(k:Int)=(X:Int) by omega];exact AZ _ (by have:=O.out;omega));have t3:(X:Int)<L:=(by have:=O.out;omega);have F:=H.out.trans (I.out.1.mono H.out.size);have W:=fQ F;obtain⟨P,fo,x0,x1,x3,x4,rfl,J,u,x,y,z,A,i1,i2,i3,i4⟩:=ax.out.row hr;obtain⟨sb,so,u0,u1,rfl,aq,B,C,i5,i6⟩:=aw.out.sig hs;have y2:w.heap.size<wr.heap.size:=Az y1 I.out.1.size
    have D:=fQ (show ∀ w',Bq wr.heap.size wr w'->_/\_/\_/\_/\_/\_/\_/\_/\_/\_ from fun w' t=>by
     have hc:=F.trans (t.mono F.size)
     exact⟨(t.cell (p:=⟨w.heap.size,_,none⟩) y2).trans e0,(t.cell (p:=⟨w.heap.size,_,none⟩) y2).trans l,(t.cell (p:=⟨w.heap.size,_,none⟩) y2).trans m,(hc.cell (p:=⟨P,_,none⟩) J).trans u,(hc.cell (p:=⟨P,_,none⟩) J).trans x,(hc.cell (p:=⟨P,_,none⟩) J).trans y,(hc.cell (p:=⟨P,_,none⟩) J).trans z,(hc.cell (p:=⟨P,_,none⟩) J).trans A,(hc.cell (p:=⟨sb,_,none⟩) aq).trans B,(hc.cell (p:=⟨sb,_,none⟩) aq).trans C⟩)
    have E:=fQ (show ∀ w',Bq wr.heap.size wr w'->_/\_/\_ from fun w' t=>⟨(t.cell (p:=⟨w.heap.size,_,none⟩) y2).trans e2,(t.cell (p:=⟨w.heap.size,_,none⟩) y2).trans o,(t.cell (p:=⟨w.heap.size,_,none⟩) y2).trans q⟩);have aM:=fQ (i1.below F (Aj _));have aN:=fQ (i2.below F (Aj _));have aO:=fQ (i5.below F (Aj _));have aP:=fQ (i6.below F (Aj _));have aQ:=fQ ((RowV.of i1 i2 i3 i4).below F (Aj _))
    have ar:=fQ (show EnvV wr (.agg #[.slice (some ⟨sb,so,none⟩) L sc,.int .i64 (M:Int),b,d,.bool p.env.mem]) p.env from by
     have:=av.out.below F (Aj _);rw[N.out,V.out]at this
     exact this)
    clear hr hs hX F i1 i2 i3 i4 i5 i6 J aq u x y z A B C;go_wp2_with fail;clear e0 l e2 o q m;refine lZ (fun w'=>Bq wr.heap.size wr w') (fun _=>True) 7 (by kernel_rfl) (xK wr) trivial (fun c=>?_);have Y:=fQ (xK wr);refine gX (i:=0) (v:=?va0) rfl (by kernel_rfl) (by kernel_rfl) (by kernel_rfl) (fun _ _ _ h=>h) rfl (Or.inl ⟨by rfl,?hya0⟩) c (fun c=>?_)
    case hya0=>intro g e;obtain⟨e0,l,m,u,x,y,z,A,B,C⟩:=D.out _ e;obtain⟨e2,o,q⟩:=E.out _ e;go_simp;(try with_reducible rfl)
    try simp only[Ax,jA,jB,jC]
    refine gX (i:=1) (v:=?va1) rfl (by kernel_rfl) (by kernel_rfl) (by kernel_rfl) (fun _ _ _ h=>h) rfl (Or.inl ⟨by rfl,?hya1⟩) c (fun c=>?_)
    case hya1=>intro g e;obtain⟨e0,l,m,u,x,y,z,A,B,C⟩:=D.out _ e;obtain⟨e2,o,q⟩:=E.out _ e;go_simp;(try with_reducible rfl)
    try simp only[Ax,jA,jB,jC]
    refine gX (i:=2) (v:=?va2) rfl (by kernel_rfl) (by kernel_rfl) (by kernel_rfl) (fun _ _ _ h=>h) rfl (Or.inl ⟨by rfl,?hya2⟩) c (fun c=>?_)
    case hya2=>intro g e;obtain⟨e0,l,m,u,x,y,z,A,B,C⟩:=D.out _ e;obtain⟨e2,o,q⟩:=E.out _ e;go_simp;(try with_reducible rfl)
    try simp only[Ax,jA,jB,jC]
    refine gX (i:=3) (v:=?va3) rfl (by kernel_rfl) (by kernel_rfl) (by kernel_rfl) (fun _ _ _ h=>h) rfl (Or.inl ⟨by rfl,?hya3⟩) c (fun c=>?_)
    case hya3=>intro g e;obtain⟨e0,l,m,u,x,y,z,A,B,C⟩:=D.out _ e;obtain⟨e2,o,q⟩:=E.out _ e;go_simp;(try with_reducible rfl)
    try simp only[Ax,jA,jB,jC]
    refine gX (i:=4) (v:=?va4) rfl (by kernel_rfl) (by kernel_rfl) (by kernel_rfl) (fun _ _ _ h=>h) rfl (Or.inl ⟨by rfl,?hya4⟩) c (fun c=>?_)
    case hya4=>intro g e;obtain⟨e0,l,m,u,x,y,z,A,B,C⟩:=D.out _ e;obtain⟨e2,o,q⟩:=E.out _ e;go_simp;(try with_reducible rfl)
    try simp only[Ax,jA,jB,jC]
    refine gX (i:=5) (v:=?va5) rfl (by kernel_rfl) (by kernel_rfl) (by kernel_rfl) (fun _ _ _ h=>h) rfl (Or.inl ⟨by rfl,?hya5⟩) c (fun c=>?_)
    case hya5=>intro g e;obtain⟨e0,l,m,u,x,y,z,A,B,C⟩:=D.out _ e;obtain⟨e2,o,q⟩:=E.out _ e;go_simp;(try with_reducible rfl)
    try simp only[Ax,jA,jB,jC]
    refine gX (i:=6) (v:=?va6) rfl (by kernel_rfl) (by kernel_rfl) (by kernel_rfl) (fun _ _ _ h=>h) rfl (Or.inl ⟨by rfl,?hya6⟩) c (fun c=>?_)
    case hya6=>intro g e;obtain⟨e0,l,m,u,x,y,z,A,B,C⟩:=D.out _ e;obtain⟨e2,o,q⟩:=E.out _ e;go_simp;(try with_reducible rfl)
    try simp only[Ax,jA,jB,jC]
    refine jK (i:=7) (by kernel_rfl) rfl (fun K Q=>?_);go_simp;refine(aVr p.env r _ _ _ (ar.out.below Y.out (Aj _)) (aQ.out.below Y.out (Aj _))).mono ?_;rintro en w2 ⟨bb,rfl,az,R⟩;have G:=fQ (Y.out.trans (R.mono Y.out.size));have aA:=fQ az;clear R az;refine Q.out _ _ ⟨G.out,fun _=>trivial⟩ (fun c=>?_);clear Q K
    try simp only[Ax,jA,jB,jC]
    cases bb
    ·as_aux_lemma=>
     refine gX (i:=8) (v:=?vb8) rfl (by kernel_rfl) (by kernel_rfl) (by kernel_rfl) (fun _ _ _ h=>h) rfl (Or.inl ⟨by rfl,?hyb8⟩) c (fun c=>?_)
     case hyb8=>intro g e;go_simp;(try with_reducible rfl)
     try simp only[Ax,jA,jB,jC]
     refine gX (i:=9) (v:=?vb9) rfl (by kernel_rfl) (by kernel_rfl) (by kernel_rfl) (fun _ _ _ h=>h) rfl (Or.inl ⟨by rfl,?hyb9⟩) c (fun c=>?_)
     case hyb9=>intro g e;go_simp;(try with_reducible rfl)
     try simp only[Ax,jA,jB,jC]
     refine gX (i:=10) (v:=undef) rfl (by kernel_rfl) (by kernel_rfl) (by kernel_rfl) (fun _ _ _ h=>h) rfl (Or.inr ⟨by rfl,rfl⟩) c (fun c=>?_)
     try simp only[Ax,jA,jB,jC]
     refine gX (i:=11) (v:=undef) rfl (by kernel_rfl) (by kernel_rfl) (by kernel_rfl) (fun _ _ _ h=>h) rfl (Or.inr ⟨by rfl,rfl⟩) c (fun c=>?_)
     try simp only[Ax,jA,jB,jC]
     refine gX (i:=12) (v:=undef) rfl (by kernel_rfl) (by kernel_rfl) (by kernel_rfl) (fun _ _ _ h=>h) rfl (Or.inr ⟨by rfl,rfl⟩) c (fun c=>?_)
     try simp only[Ax,jA,jB,jC]
     refine gX (i:=13) (v:=undef) rfl (by kernel_rfl) (by kernel_rfl) (by kernel_rfl) (fun _ _ _ h=>h) rfl (Or.inr ⟨by rfl,rfl⟩) c (fun c=>?_)
     try simp only[Ax,jA,jB,jC]
     refine gX (i:=14) (v:=undef) rfl (by kernel_rfl) (by kernel_rfl) (by kernel_rfl) (fun _ _ _ h=>h) rfl (Or.inr ⟨by rfl,rfl⟩) c (fun c=>?_)
     try simp only[Ax,jA,jB,jC]
     refine gX (i:=15) (v:=undef) rfl (by kernel_rfl) (by kernel_rfl) (by kernel_rfl) (fun _ _ _ h=>h) rfl (Or.inr ⟨by rfl,rfl⟩) c (fun c=>?_)
     try simp only[Ax,jA,jB,jC]
     refine gX (i:=16) (v:=undef) rfl (by kernel_rfl) (by kernel_rfl) (by kernel_rfl) (fun _ _ _ h=>h) rfl (Or.inr ⟨by rfl,rfl⟩) c (fun c=>?_)
     try simp only[Ax,jA,jB,jC]
     refine gX (i:=17) (v:=undef) rfl (by kernel_rfl) (by kernel_rfl) (by kernel_rfl) (fun _ _ _ h=>h) rfl (Or.inr ⟨by rfl,rfl⟩) c (fun c=>?_)
     try simp only[Ax,jA,jB,jC]
     refine gX (i:=18) (v:=undef) rfl (by kernel_rfl) (by kernel_rfl) (by kernel_rfl) (fun _ _ _ h=>h) rfl (Or.inr ⟨by rfl,rfl⟩) c (fun c=>?_)
     try simp only[Ax,jA,jB,jC]
     refine gX (i:=19) (v:=undef) rfl (by kernel_rfl) (by kernel_rfl) (by kernel_rfl) (fun _ _ _ h=>h) rfl (Or.inr ⟨by rfl,rfl⟩) c (fun c=>?_)
     try simp only[Ax,jA,jB,jC]
     refine gX (i:=20) (v:=undef) rfl (by kernel_rfl) (by kernel_rfl) (by kernel_rfl) (fun _ _ _ h=>h) rfl (Or.inr ⟨by rfl,rfl⟩) c (fun c=>?_)
     try simp only[Ax,jA,jB,jC]
     refine gX (i:=21) (v:=undef) rfl (by kernel_rfl) (by kernel_rfl) (by kernel_rfl) (fun _ _ _ h=>h) rfl (Or.inr ⟨by rfl,rfl⟩) c (fun c=>?_)
     try simp only[Ax,jA,jB,jC]
     refine gX (i:=22) (v:=undef) rfl (by kernel_rfl) (by kernel_rfl) (by kernel_rfl) (fun _ _ _ h=>h) rfl (Or.inr ⟨by rfl,rfl⟩) c (fun c=>?_)
     try simp only[Ax,jA,jB,jC]
     refine gX (i:=23) (v:=undef) rfl (by kernel_rfl) (by kernel_rfl) (by kernel_rfl) (fun _ _ _ h=>h) rfl (Or.inr ⟨by rfl,rfl⟩) c (fun c=>?_)
     try simp only[Ax,jA,jB,jC]
     refine gX (i:=24) (v:=undef) rfl (by kernel_rfl) (by kernel_rfl) (by kernel_rfl) (fun _ _ _ h=>h) rfl (Or.inr ⟨by rfl,rfl⟩) c (fun c=>?_)
     try simp only[Ax,jA,jB,jC]
     refine gX (i:=25) (v:=undef) rfl (by kernel_rfl) (by kernel_rfl) (by kernel_rfl) (fun _ _ _ h=>h) rfl (Or.inr ⟨by rfl,rfl⟩) c (fun c=>?_)
     try simp only[Ax,jA,jB,jC]
     refine gX (i:=26) (v:=undef) rfl (by kernel_rfl) (by kernel_rfl) (by kernel_rfl) (fun _ _ _ h=>h) rfl (Or.inr ⟨by rfl,rfl⟩) c (fun c=>?_)
     try simp only[Ax,jA,jB,jC]
     refine gX (i:=27) (v:=undef) rfl (by kernel_rfl) (by kernel_rfl) (by kernel_rfl) (fun _ _ _ h=>h) rfl (Or.inr ⟨by rfl,rfl⟩) c (fun c=>?_)
     try simp only[Ax,jA,jB,jC]
     refine gX (i:=28) (v:=?vb28) rfl (by kernel_rfl) (by kernel_rfl) (by kernel_rfl) (fun _ _ _ h=>h) rfl (Or.inl ⟨by rfl,?hyb28⟩) c (fun c=>?_)
     case hyb28=>intro g e;go_simp;(try with_reducible rfl)
     try simp only[Ax,jA,jB,jC]
     refine kX (by kernel_rfl) ?_ _;go_wp2_with fail;go_ret;refine⟨false,rfl,⟨fun h=>(by cases h),fun h=>?_⟩,W.out.trans (G.out.mono W.out.size)⟩;exact aA.out.2 (h.row k r HR.out).1
    ·as_aux_lemma=>
     refine gX (i:=8) (v:=?vc8) rfl (by kernel_rfl) (by kernel_rfl) (by kernel_rfl) (fun _ _ _ h=>h) rfl (Or.inl ⟨by rfl,?hyc8⟩) c (fun c=>?_)
     case hyc8=>intro g e;go_simp;(try with_reducible rfl)
     try simp only[Ax,jA,jB,jC]
     refine gX (i:=9) (v:=?vc9) rfl (by kernel_rfl) (by kernel_rfl) (by kernel_rfl) (fun _ _ _ h=>h) rfl (Or.inl ⟨by rfl,?hyc9⟩) c (fun c=>?_)
     case hyc9=>intro g e;go_simp;(try with_reducible rfl)
     try simp only[Ax,jA,jB,jC]
     refine gX (i:=10) (v:=?vc10) rfl (by kernel_rfl) (by kernel_rfl) (by kernel_rfl) (fun _ _ _ h=>h) rfl (Or.inl ⟨by rfl,?hyc10⟩) c (fun c=>?_)
     case hyc10=>intro g e;go_simp;(try with_reducible rfl)
     try simp only[Ax,jA,jB,jC]
     refine gX (i:=11) (v:=?vc11) rfl (by kernel_rfl) (by kernel_rfl) (by kernel_rfl) (fun _ _ _ h=>h) rfl (Or.inl ⟨by rfl,?hyc11⟩) c (fun c=>?_)
     case hyc11=>intro g e;obtain⟨e0,l,m,u,x,y,z,A,B,C⟩:=D.out _ e;obtain⟨e2,o,q⟩:=E.out _ e;go_simp;(try with_reducible rfl)
     try simp only[Ax,jA,jB,jC]
     refine gX (i:=12) (v:=?vc12) rfl (by kernel_rfl) (by kernel_rfl) (by kernel_rfl) (fun _ _ _ h=>h) rfl (Or.inl ⟨by rfl,?hyc12⟩) c (fun c=>?_)
     case hyc12=>intro g e;go_simp;(try with_reducible rfl)
     try simp only[Ax,jA,jB,jC]
     refine gX (i:=13) (v:=?vc13) rfl (by kernel_rfl) (by kernel_rfl) (by kernel_rfl) (fun _ _ _ h=>h) rfl (Or.inl ⟨by rfl,?hyc13⟩) c (fun c=>?_)
     case hyc13=>intro g e;go_simp;(try with_reducible rfl)
     try simp only[Ax,jA,jB,jC]
     refine gX (i:=14) (v:=?vc14) rfl (by kernel_rfl) (by kernel_rfl) (by kernel_rfl) (fun _ _ _ h=>h) rfl (Or.inl ⟨by rfl,?hyc14⟩) c (fun c=>?_)
     case hyc14=>intro g e;go_simp;(try with_reducible rfl)
     try simp only[Ax,jA,jB,jC]
     refine gX (i:=15) (v:=?vc15) rfl (by kernel_rfl) (by kernel_rfl) (by kernel_rfl) (fun _ _ _ h=>h) rfl (Or.inl ⟨by rfl,?hyc15⟩) c (fun c=>?_)
     case hyc15=>intro g e;obtain⟨e0,l,m,u,x,y,z,A,B,C⟩:=D.out _ e;obtain⟨e2,o,q⟩:=E.out _ e;go_simp;(try with_reducible rfl)
     try simp only[Ax,jA,jB,jC]
     refine gX (i:=16) (v:=?vc16) rfl (by kernel_rfl) (by kernel_rfl) (by kernel_rfl) (fun _ _ _ h=>h) rfl (Or.inl ⟨by rfl,?hyc16⟩) c (fun c=>?_)
     case hyc16=>intro g e;go_simp;(try with_reducible rfl)
     try simp only[Ax,jA,jB,jC]
     refine gX (i:=17) (v:=?vc17) rfl (by kernel_rfl) (by kernel_rfl) (by kernel_rfl) (fun _ _ _ h=>h) rfl (Or.inl ⟨by rfl,?hyc17⟩) c (fun c=>?_)
     case hyc17=>intro g e;go_simp;(try with_reducible rfl)
     try simp only[Ax,jA,jB,jC]
     refine gX (i:=18) (v:=?vc18) rfl (by kernel_rfl) (by kernel_rfl) (by kernel_rfl) (fun _ _ _ h=>h) rfl (Or.inl ⟨by rfl,?hyc18⟩) c (fun c=>?_)
     case hyc18=>intro g e;obtain⟨e0,l,m,u,x,y,z,A,B,C⟩:=D.out _ e;obtain⟨e2,o,q⟩:=E.out _ e;go_simp;(try with_reducible rfl)
     try simp only[Ax,jA,jB,jC]
     refine gX (i:=19) (v:=?vc19) rfl (by kernel_rfl) (by kernel_rfl) (by kernel_rfl) (fun _ _ _ h=>h) rfl (Or.inl ⟨by rfl,?hyc19⟩) c (fun c=>?_)
     case hyc19=>intro g e;go_simp;(try with_reducible rfl)
     try simp only[Ax,jA,jB,jC]
     refine gX (i:=20) (v:=?vc20) rfl (by kernel_rfl) (by kernel_rfl) (by kernel_rfl) (fun _ _ _ h=>h) rfl (Or.inl ⟨by rfl,?hyc20⟩) c (fun c=>?_)
     case hyc20=>intro g e;go_simp;(try with_reducible rfl)
     try simp only[Ax,jA,jB,jC]
     refine gX (i:=21) (v:=?vc21) rfl (by kernel_rfl) (by kernel_rfl) (by kernel_rfl) (fun _ _ _ h=>h) rfl (Or.inl ⟨by rfl,?hyc21⟩) c (fun c=>?_)
     case hyc21=>intro g e;obtain⟨e0,l,m,u,x,y,z,A,B,C⟩:=D.out _ e;obtain⟨e2,o,q⟩:=E.out _ e;go_simp;(try with_reducible rfl)
     try simp only[Ax,jA,jB,jC]
     refine gX (i:=22) (v:=?vc22) rfl (by kernel_rfl) (by kernel_rfl) (by kernel_rfl) (fun _ _ _ h=>h) rfl (Or.inl ⟨by rfl,?hyc22⟩) c (fun c=>?_)
     case hyc22=>intro g e;go_simp;(try with_reducible rfl)
     try simp only[Ax,jA,jB,jC]
     refine gX (i:=23) (v:=?vc23) rfl (by kernel_rfl) (by kernel_rfl) (by kernel_rfl) (fun _ _ _ h=>h) rfl (Or.inl ⟨by rfl,?hyc23⟩) c (fun c=>?_)
     case hyc23=>intro g e;go_simp;(try with_reducible rfl)
     try simp only[Ax,jA,jB,jC]
     refine gX (i:=24) (v:=?vc24) rfl (by kernel_rfl) (by kernel_rfl) (by kernel_rfl) (fun _ _ _ h=>h) rfl (Or.inl ⟨by rfl,?hyc24⟩) c (fun c=>?_)
     case hyc24=>intro g e;go_simp;(try with_reducible rfl)
     try simp only[Ax,jA,jB,jC]
     refine gX (i:=25) (v:=?vc25) rfl (by kernel_rfl) (by kernel_rfl) (by kernel_rfl) (fun _ _ _ h=>h) rfl (Or.inl ⟨by rfl,?hyc25⟩) c (fun c=>?_)
     case hyc25=>intro g e;obtain⟨e0,l,m,u,x,y,z,A,B,C⟩:=D.out _ e;obtain⟨e2,o,q⟩:=E.out _ e;go_simp;(try with_reducible rfl)
     try simp only[Ax,jA,jB,jC]
     refine jK (i:=26) (by kernel_rfl) rfl (fun K Q=>?_);go_simp;refine(cXz _ _ _ _ r.sig s _ (aM.out.below G.out (Aj _)) (aN.out.below G.out (Aj _)) (aO.out.below G.out (Aj _)) (aP.out.below G.out (Aj _))).mono ?_;rintro en w3 ⟨rfl,R⟩;have au:=fQ (G.out.trans (R.mono G.out.size));clear R;refine Q.out _ _ ⟨au.out,fun _=>trivial⟩ (fun c=>?_);clear Q K
     try simp only[Ax,jA,jB,jC]
     cases hq:bZw r.sig s
     ·as_aux_lemma=>
      refine gX (i:=27) (v:=?vd027) rfl (by kernel_rfl) (by kernel_rfl) (by kernel_rfl) (fun _ _ _ h=>h) rfl (Or.inl ⟨by rfl,?hyd027⟩) c (fun c=>?_)
      case hyd027=>intro g e;go_simp;(try with_reducible rfl)
      try simp only[Ax,jA,jB,jC]
      refine gX (i:=28) (v:=?vd028) rfl (by kernel_rfl) (by kernel_rfl) (by kernel_rfl) (fun _ _ _ h=>h) rfl (Or.inl ⟨by rfl,?hyd028⟩) c (fun c=>?_)
      case hyd028=>intro g e;go_simp;(try with_reducible rfl)
      try simp only[Ax,jA,jB,jC]
      refine kX (by kernel_rfl) ?_ _;go_wp2_with fail;go_ret;refine⟨false,rfl,⟨fun h=>(by cases h),fun h=>?_⟩,W.out.trans (au.out.mono W.out.size)⟩;have h1:=(h.row k r HR.out).2;rw[show p.env.imports.toNat=M by rw[N.out];rfl,ay.out]at h1;injection h1 with h1;rw[bVl.2 h1.symm]at hq;cases hq
     ·as_aux_lemma=>
      refine gX (i:=27) (v:=?vd127) rfl (by kernel_rfl) (by kernel_rfl) (by kernel_rfl) (fun _ _ _ h=>h) rfl (Or.inl ⟨by rfl,?hyd127⟩) c (fun c=>?_)
      case hyd127=>intro g e;go_simp;(try with_reducible rfl)
      try simp only[Ax,jA,jB,jC]
      refine gX (i:=28) (v:=?vd128) rfl (by kernel_rfl) (by kernel_rfl) (by kernel_rfl) (fun _ _ _ h=>h) rfl (Or.inl ⟨by rfl,?hyd128⟩) c (fun c=>?_)
      case hyd128=>intro g e;go_simp;(try with_reducible rfl)
      try simp only[Ax,jA,jB,jC]
      refine kX (by kernel_rfl) ?_ _;go_wp2_with fail;have aB:=bVl.1 hq
      with_reducible exact⟨⟨k+1,by omega,by simp,fQ (I.out.step HR.out ay.out (by rw[<-aB]) (by rw[<-aB]) (aA.out.1 rfl) au.out)⟩,by simp[intOf];omega⟩
   ·as_aux_lemma=>
    have t1:decide ((k:Int)<n)=false:=(by simp;omega);go_wp2_with fail;go_ret;refine⟨true,rfl,⟨fun _=>⟨aE.out,?_,fun i r hi=>?_⟩,fun _=>rfl⟩,H.out.trans (I.out.1.mono H.out.size)⟩
    ·have:=N.out;have:=U.out;have:=V.out;have:=O.out;omega
    ·rw[show p.env.imports.toNat=M by rw[N.out];rfl];exact I.out.2 i r (by have:=(List.getElem?_eq_some_iff.1 hi).1;have:=U.out;omega) hi
 ·have q0:((n:Int) != (S:Int))=true:=(by simp;omega);go_wp2_with fail;go_ret;refine⟨false,rfl,⟨fun h=>(by cases h),fun h=>?_⟩,H.out⟩;have:=h.len;have:=N.out;have:=U.out;have:=V.out;have:=O.out;omega
open List renaming setIfInBounds_toArray->jA,set_cons_zero->jB,set_cons_succ->jC
open List renaming setIfInBounds_toArray->jA,set_cons_zero->jB,set_cons_succ->jC
theorem aYk{e:TypeId}{xs:List Bj}{r:Option Nat}(a:w.ownsRow base e k v n xs)(he:e≠43)(hg:w.grownBy w' r)(hr:∀ g t cs,Blk w g t cs->t≠43->r≠some g):w'.ownsRow base e k v n xs:=kV a hg (fun g b=>by
  obtain⟨cur,c⟩:=sW a b
  exact hr g e cur c he)
theorem CodesO.far{C:List CodeD}{r:Option Nat}(h:CodesO w base v C)(hg:w.grownBy w' r)(hr:∀ g t cs,Blk w g t cs->t≠43->r≠some g):CodesO w' base v C:=by
 obtain⟨vs,h1,h2,a⟩:=h;exact⟨vs,aYk h1 (by decide) hg hr,h2,fun i cs c q1 b=>(a i cs c q1 b).grown hg (fun g cs d=>hr g _ cs d (by decide))⟩
theorem CodesO.fXr{i:Nat}{C:List CodeD}{ks:Array Bj}(h:CodesO w base v C)(a:Blk w g t ks)(h1:52≠t)(h2:3≠t)(u:Bj):CodesO (w.setCell ⟨g,i,none⟩ u) base v C:=by
 obtain⟨vs,o1,o2,o3⟩:=h;exact⟨vs,gY o1 (own_ne o1 a h1),o2,fun j cs c q1 b=>(o3 j cs c q1 b).other a h2 u⟩
def RowO(w:Ai)(base:Nat)(cs:List Bj)(r:RowD)(hs:List Int):Prop:=∃ a b p d,cs = [a,b,.int .i64 (oY hs),p,d]/\w.ownsRow base 3 1 a r.sig.inn.length (i64s r.sig.inn)/\w.ownsRow base 3 1 b r.sig.out.length (i64s r.sig.out)/\w.ownsRow base 3 1 p r.params.length (i64s (kY hs r.params))/\CodesO w base d (r.code.map (tJ hs))
theorem RowO.far{w w':Ai}{base:Nat}{cs:List Bj}{x:RowD}{hs:List Int}{r:Option Nat}(h:RowO w base cs x hs)(hg:w.grownBy w' r)(hr:∀ g t cs,Blk w g t cs->t≠43->r≠some g):RowO w' base cs x hs:=by
 obtain⟨a,b,p,d,e,h1,h2,c,f⟩:=h;exact⟨a,b,p,d,e,aYk h1 (by decide) hg hr,aYk h2 (by decide) hg hr,aYk c (by decide) hg hr,f.far hg hr⟩
theorem RowO.other{i:Nat}{cs:List Bj}{x:RowD}{ks:Array Bj}(h:RowO w base cs x hs)(c:Blk w g 29 ks)(u:Bj):RowO (w.setCell ⟨g,i,none⟩ u) base cs x hs:=by
 obtain⟨a,b,p,d,e,h1,h2,f,j⟩:=h;exact⟨a,b,p,d,e,gY h1 (own_ne h1 c (by decide)),gY h2 (own_ne h2 c (by decide)),gY f (own_ne f c (by decide)),j.fXr c (by decide) (by decide) u⟩
def aKl(x:RowD×List Int):Prop:=∃ P:Nat,x.1.places=P/\P<=2032/\RightX x.1 P x.2
def FnsO(w:Ai)(base:Nat)(f:Bj)(X:List (RowD×List Int)):Prop:=∃ vs:List (List Bj),w.ownsRow base 43 5 f X.length vs.flatten/\vs.length=X.length/\∀ (i:Nat) cs x,vs[i]? = some cs->X[i]? = some x->RowO w base cs x.1 x.2
theorem FnsO.nil(w:Ai)(base:Nat):FnsO w base (.slice none 0 0) []:=⟨[],World.ownsRow_nil _ _ _ _,rfl,fun i cs c h=>by simp at h⟩
theorem FnsO.below{X:List (RowD×List Int)}(h:FnsO w base v X)(a:Bq w.heap.size w w'):FnsO w' base v X:=by
 obtain⟨vs,h1,h2,b⟩:=h;exact⟨vs,nK h1 a (Aj _),h2,fun i cs c q1 d=>(b i cs c q1 d).far (rQ a) (fun _ _ _ _ _=>by simp)⟩
theorem FnsO.other{w:Ai}{base g i:Nat}{v:Bj}{X:List (RowD×List Int)}{ks:Array Bj}(h:FnsO w base v X)(a:Blk w g 29 ks)(u:Bj):FnsO (w.setCell ⟨g,i,none⟩ u) base v X:=by
 obtain⟨vs,h1,h2,b⟩:=h;exact⟨vs,gY h1 (own_ne h1 a (by decide)),h2,fun j cs c q1 d=>(b j cs c q1 d).other a u⟩
theorem FnsO.push{w':Ai}{c:Bj}{X:List (RowD×List Int)}{cs:List Bj}{x:RowD×List Int}{vs:List (List Bj)}(h1:w.ownsRow base 43 5 v X.length vs.flatten)(h2:vs.length=X.length)(f:∀ (i:Nat) cs x,vs[i]? = some cs->X[i]? = some x->RowO w base cs x.1 x.2)
  (hc:RowO w base cs x.1 x.2) (h:w'.ownsRow base 43 5 c (X.length+1) (vs.flatten++cs)) (hg:w.grownBy w' v.ownBlock):FnsO w' base c (X ++ [x]):=by
 have hr:∀ g t cs,Blk w g t cs->t≠43->v.ownBlock≠some g:=fun g t cs j k=>own_ne h1 j (fun e=>k e.symm);refine⟨vs ++ [cs],by rw[List.length_append,List.flatten_append];simpa using h,by simp[h2],fun i u y a b=>?_⟩;by_cases hi:i<vs.length
 ·rw[Ab hi]at a;rw[Ab (by omega)]at b;exact(f i u y a b).far hg hr
 ·rw[AW (by omega)]at a;rw[AW (by omega)]at b
  have d:i - vs.length=0:=by
   have:=(List.getElem?_eq_some_iff.1 a).1;simp at this;omega
  rw[d]at a;rw[<-h2,d]at b;simp at a b;subst a;subst b;exact hc.far hg hr
theorem FnsO.len{X:List (RowD×List Int)}(h:FnsO w base v X):∃ A c,v = .slice A X.length c:=by
 obtain⟨vs,h1,_⟩:=h;obtain⟨A,c,e,_⟩:=fW h1;exact⟨A,c,e⟩
theorem FnsO.structs{e:EnvD}{X:List (RowD×List Int)}(h:FnsO w base v X)(hl:X.length<=100000)(q:∀ x∈X,CheckP e x.1):Structs 5 RowC w v (X.map fun x=>xJ x.1 x.2):=by
 obtain⟨vs,h1,h2,n⟩:=h;obtain⟨A,c,rfl,hc⟩:=fW h1
 have o:c<=9223372036854775807/\(A=none->c=0):=by
  rcases h1.2 with⟨e,_⟩ | ⟨g,cap,cur,e,_,_,_,s,_⟩
  ·injection e with l e2 m;subst l;subst m;exact⟨by omega,fun _=>rfl⟩
  ·injection e with l e2 m;subst l;subst m;exact⟨by unfold maxLen at s;omega,fun e=>by cases e⟩
 have j:(X.map fun x=>xJ x.1 x.2).length=X.length:=(by simp);refine⟨A,c,vs,by rw[j],by rw[j];exact hc,o.2,by rw[j];exact⟨by omega,o.1⟩,by rw[j];exact h2,fun r hr=>?_,fun i r y q1 f=>?_,by rw[j];exact bQc h1⟩
 ·obtain⟨i,hi,rfl⟩:=List.getElem_of_mem hr;obtain⟨a,b,p,d,e,_⟩:=n i _ _ (Aq hi) (Aq (by omega));rw[e];rfl
 ·rw[Ac]at f
  cases k:X[i]? with
  | none=>rw[k]at f;cases f
  | some x=>
   rw[k]at f;injection f with f;subst f;obtain⟨a,b,p,d,rfl,o1,o2,o3,o4⟩:=n i r x q1 k;obtain⟨_,_,_,_,e',t,k2,u,z⟩:=dVa (q x (Ak k)) o1 o2 o3 o4;injection e' with e';injection e' with e';simp only[List.cons.injEq,and_true]at e';obtain⟨rfl,rfl,_,rfl,rfl⟩:=e';exact⟨a,b,p,d,rfl,t,k2,u,z⟩
def RsB(c:Ai)(e:Nat)(a b d:Bj)(im:Int)(mem:Bool)(X:List (RowD×List Int))(wr:Ai):Prop:=∃ f,Blk wr e 29 #[a,.int .i64 im,b,d,.bool mem,f]/\FnsO wr c.heap.size f X/\Bq e c wr
theorem dKq(a:Blk w g t #[x0,x1,x2,x3,x4,x5])(f:Bj):Blk (w.setCell ⟨g,5,none⟩ f) g t #[x0,x1,x2,x3,x4,f]:=by
 have h:=fV a 5 f
 simpa using h
theorem RsB.push{c w w':Ai}{e:Nat}{a b d f f':Bj}{im:Int}{mem:Bool}{X:List (RowD×List Int)}{x:RowD×List Int}{cs:List Bj}{vs:List (List Bj)}(h:Blk w e 29 #[a,.int .i64 im,b,d,.bool mem,f])
  (h1:w.ownsRow c.heap.size 43 5 f X.length vs.flatten) (h2:vs.length=X.length) (l:∀ (i:Nat) cs x,vs[i]? = some cs->X[i]? = some x->RowO w c.heap.size cs x.1 x.2) (m:Bq e c w) (hg:e<=c.heap.size) (hs:c.heap.size<=w.heap.size)
  (hc:RowO w c.heap.size cs x.1 x.2) (n:w'.ownsRow c.heap.size 43 5 f' (X.length+1) (vs.flatten++cs)) (g:w.grownBy w' f.ownBlock):RsB c e a b d im mem (X ++ [x]) (w'.setCell ⟨e,5,none⟩ f'):=by
 have k:=h.grown g (own_ne h1 h (by decide));exact⟨f',dKq k f',(FnsO.push h1 h2 l hc n g).other k _,(iK m g (by omega) (fun j hj=>by have:=(h1.lt j hj).1;omega)).setCell (p:=⟨e,5,none⟩) (Aj _) _⟩
theorem bQs(i:Blk w g t #[x0,x1,x2,x3,x4,x5])(a b c d e f:Bj):Blk ((((((w.setCell ⟨g,0,none⟩ a).setCell ⟨g,1,none⟩ b).setCell ⟨g,2,none⟩ c).setCell ⟨g,3,none⟩ d).setCell ⟨g,4,none⟩ e).setCell ⟨g,5,none⟩ f) g t #[a,b,c,d,e,f]:=by
 have h:=fV (fV (fV (fV (fV (fV i 0 a) 1 b) 2 c) 3 d) 4 e) 5 f
 simpa using h
theorem bWc{B:Nat}(h:Bq B w w')(hg:B<=g)(a b c d e f:Bj):Bq B w ((((((w'.setCell ⟨g,0,none⟩ a).setCell ⟨g,1,none⟩ b).setCell ⟨g,2,none⟩ c).setCell ⟨g,3,none⟩ d).setCell ⟨g,4,none⟩ e).setCell ⟨g,5,none⟩ f):=
 (sQ h hg a b c d e).setCell (p:=⟨g,5,none⟩) hg f
theorem FnsO.fXs{X:List (RowD×List Int)}(h:FnsO w base v X)(i:Blk w g 29 #[x0,x1,x2,x3,x4,x5])(a b c d e f:Bj):FnsO ((((((w.setCell ⟨g,0,none⟩ a).setCell ⟨g,1,none⟩ b).setCell ⟨g,2,none⟩ c).setCell ⟨g,3,none⟩ d).setCell ⟨g,4,none⟩ e).setCell ⟨g,5,none⟩ f) base v X:=by
 have j:=fV i 0 a;have k:=fV j 1 b;have k2:=fV k 2 c;have l:=fV k2 3 d;have m:=fV l 4 e;exact(((((h.other i a).other j b).other k c).other k2 d).other l e).other m f
def RsI(p:RowsD)(c:Ai)(e:Nat)(a b d:Bj)(im:Int)(mem:Bool)(k:Nat)(wr:Ai):Prop:=∃ X,RsB c e a b d im mem X wr/\X.map Prod.fst=p.fns.take k/\∀ x∈X,aKl x
open List renaming setIfInBounds_toArray->jA,set_cons_zero->jB,set_cons_succ->jC
def bVx:Bj:=.agg #[.slice none 0 0,.int .i64 0,.slice none 0 0,.slice none 0 0,.bool false,.slice none 0 0]
def eJe(p:RowsD)(w:Ai)(a:Ending)(w':Ai):Prop:=
 (¬ProgP p/\a = .returned (.tuple #[bVx,.int .i64 6])/\Bq w.heap.size w w') \/
 (ProgP p/\(∃ r∈p.fns,2032<r.places)/\a = .returned (.tuple #[bVx,.int .i64 15])/\Bq w.heap.size w w') \/
 (ProgP p/\(∀ r∈p.fns,r.places<=2032)/\∃ (X:List (RowD×List Int)) (v:Bj),a = .returned (.tuple #[v,.int .i64 0])/\X.map Prod.fst=p.fns/\(∀ x∈X,aKl x)/\RowsV w' v ⟨p.env,X.map fun x=>xJ x.1 x.2⟩/\Bq w.heap.size w w')
theorem aZd(g:Array Bj)(W:Ai)(h:Nat)(a b c d e f x:Bj)(h2:g.getD 2 undef = .pointer (some ⟨h,0,none⟩))(i:g.getD 3 undef=x)(k:Blk W h 29 #[a,b,c,d,e,f]):
  (results Tryz.f14 g).run fZ W = .ok (.tuple #[.agg #[a,b,c,d,e,f],x]) W:=by
 obtain⟨j,l,m,n,o,p⟩:=aJq k;simp only[Array.getD_eq_getD_getElem?]at h2 i;simp[results,results14,go_sem,h2,i,j,l,m,n,o,p]
theorem dKr{a b d f:Bj}{x:Int}{m:Bool}{e:EnvD}{G:List RowD}(he:EnvV w (.agg #[a,.int .i64 x,b,d,.bool m]) e)(hf:Structs 5 RowC w f G):RowsV w (.agg #[a,.int .i64 x,b,d,.bool m,f]) ⟨e,G⟩:=by
 obtain⟨a',b',d',e',c,k2,g⟩:=he;injection e' with e';injection e' with e';simp only[List.cons.injEq,and_true]at e';obtain⟨rfl,h1,rfl,rfl,h2⟩:=e';refine⟨a,b,d,f,?_,c,k2,g,hf⟩;rw[h1,h2]
theorem cVt:(fZ.info? 43).map (fun i=>(i.zero,i.size,i.bytes))=some (some (.agg #[.slice none 0 0,.slice none 0 0,.int .i64 0,.slice none 0 0,.slice none 0 0]),5,104):=by kernel_rfl
theorem cVu{X:List (RowD×List Int)}{F:List RowD}{r:RowD}(h:X.map Prod.fst=F.take k)(hr:F[k]? = some r):(X ++ [(r,hs)]).map Prod.fst=F.take (k+1):=by
 obtain⟨h1,h2⟩:=List.getElem?_eq_some_iff.1 hr;rw[List.take_succ_eq_append_getElem h1,h2,List.map_append,h];rfl
theorem cVv(p:RowsD)(v:Bj)(w:Ai)(hv:RowsV w v p):Calls fZ 14 #[v] w (eJe p w):=by
 have HV:=fQ hv;obtain⟨a,b,d,f,rfl,h1,h2,h3,h4⟩:=hv;have W:=fQ (show EnvV w (.agg #[a,.int .i64 p.env.imports,b,d,.bool p.env.mem]) p.env from⟨a,b,d,rfl,h1,h2,h3⟩);obtain⟨sA,m,rfl,_⟩:=h1.len;obtain⟨bA,q,rfl⟩:=h2.shape;obtain⟨t,dc,rfl,_⟩:=id h3;obtain⟨fA,fc,rfl,_,bE,_⟩:=h4.len;have bk:=fQ h4;obtain⟨n,hn⟩:=fX p.fns.length;obtain⟨im,aO⟩:∃ i,p.env.imports=i:=⟨_,rfl⟩;obtain⟨mm,aP⟩:∃ i,p.env.mem=i:=⟨_,rfl⟩;rw[hn]at HV bk bE ⊢;rw[aO]at HV W ⊢;rw[aP]at HV W ⊢;obtain⟨e,aQ⟩:∃ i,p.env.sigs.length=i:=⟨_,rfl⟩;obtain⟨h,aR⟩:∃ i,p.env.globals.length=i:=⟨_,rfl⟩;obtain⟨j,aS⟩:∃ i,p.env.muts.length=i:=⟨_,rfl⟩;rw[aQ,aR,aS]at HV W ⊢;have HN:=fQ hn;have bF:=fQ (show p.env.imports=im/\p.env.mem=mm/\p.env.sigs.length=e/\p.env.globals.length=h/\p.env.muts.length=j from⟨aO,aP,aQ,aR,aS⟩);clear h1 h2 h3 h4 hn aO aP aQ aR aS;have aH:=fQ (bZu w (.cells #[.slice sA e m,.int .i64 im,.slice bA h q,.slice t j dc,.bool mm,.slice fA n fc] 29) (.cells #[.slice none 0 0,.int .i64 0,.slice none 0 0,.slice none 0 0,.bool false,.slice none 0 0] 29));have K0:=fQ (Blk.alloc (Blk.new w 29 #[.slice sA e m,.int .i64 im,.slice bA h q,.slice t j dc,.bool mm,.slice fA n fc]) (.cells #[.slice none 0 0,.int .i64 0,.slice none 0 0,.slice none 0 0,.bool false,.slice none 0 0] 29));have aT:=fQ (Blk.newAt (w.alloc (.cells #[.slice sA e m,.int .i64 im,.slice bA h q,.slice t j dc,.bool mm,.slice fA n fc] 29)) (N:=w.heap.size+1) 29 #[.slice none 0 0,.int .i64 0,.slice none 0 0,.slice none 0 0,.bool false,.slice none 0 0] (by simp));obtain⟨z,hsz⟩:∃ s,w.heap.size=s:=⟨_,rfl⟩;have aU:=fQ hsz;go_in;go_wp2_with fail;refine(cVg p _ _ (HV.out.below aH.out (Aj _))).mono ?_;rintro en w1 ⟨bb,rfl,bl,aI⟩;have aJ:=fQ (aH.out.trans (aI.mono aH.out.size));have K1:=fQ (K0.out.below aI K0.out.lt);have l:=fQ (aT.out.below aI aT.out.lt);rw[hsz]at K1 l;have ay:=fQ bl;clear aI bl aH K0 aT hsz;obtain⟨z0,Y,z2,z3,z4,z5⟩:=aJq l.out;have f0:=frz l.out 0;have f1:=frz l.out 1;have f2:=frz l.out 2;have f3:=frz l.out 3;have f4:=frz l.out 4;have f5:=frz l.out 5;have yz:=Blk.lt l.out;have HZ:=fQ (show z+1<w1.heap.size from yz);cases bb
 ·have az:=fQ (bQs l.out (.slice none 0 0) (.int .i64 0) (.slice none 0 0) (.slice none 0 0) (.bool false) (.slice none 0 0));have Z:=fQ (bWc aJ.out (show w.heap.size<=z+1 by have:=aU.out;omega) (.slice none 0 0) (.int .i64 0) (.slice none 0 0) (.slice none 0 0) (.bool false) (.slice none 0 0));go_wp2_with fail;refine bodyPost_ret (aZd _ _ (z+1) _ _ _ _ _ _ _ rfl rfl az.out) rfl ?_;exact .inl ⟨fun hp=>(by have:=ay.out.2 hp;cases this),rfl,Z.out⟩
 have D:=fQ (ay.out.1 rfl)
 have aV:n<=64:=by
  have h1:=D.out.len;have h2:=lV D.out.env;have:=HN.out;omega
 obtain⟨e0,e1,e2,e3,e4,e5⟩:=aJq K1.out;have ye:=Blk.lt K1.out;have bG:=fQ ye;obtain⟨C,aA⟩:∃ g,w1.heap.size=g:=⟨_,rfl⟩;have aW:=fQ aA;have bH:z<C:=(by omega);clear z0 Y z2 z3 z4 z5 f0 f1 f2 f3 f4 f5 yz ay;go_wp2_with fail
 (try simp only[aA])
 obtain⟨A,u⟩:=fX (w1.alloc (.cells #[.slice sA e m,.int .i64 im,.slice bA h q,.slice t j dc,.bool mm,.slice none 0 0] 29));have bm:=fQ (show RsB A C (.slice sA e m) (.slice bA h q) (.slice t j dc) im mm [] A from⟨_,u ▸ Blk.newAt w1 29 #[.slice sA e m,.int .i64 im,.slice bA h q,.slice t j dc,.bool mm,.slice none 0 0] aA,FnsO.nil _ _,AJ _ _⟩);have bn:=fQ (show RsI p A C (.slice sA e m) (.slice bA h q) (.slice t j dc) im mm 0 A from⟨[],bm.out,by simp,fun x y=>by simp at y⟩);have E:Bq w1.heap.size w1 A:=u ▸ (AJ _ _).alloc (Aj _) _;have bI:=fQ (aJ.out.trans (E.mono aJ.out.size));have bJ:=fQ (K1.out.below E K1.out.lt);have bL:=fQ (l.out.below E l.out.lt);have aX:=fQ (show A.heap.size=C+1 by rw[<-u,<-aA];simp)
 (try rw[u])
 clear u E e0 e1 e2 e3 e4 e5 ye bH aA bm;go_loopw [19] (fun i wr=>∃ k:Nat,k<=n/\i = .int .i64 k/\Hid (RsI p A C (.slice sA e m) (.slice bA h q) (.slice t j dc) im mm k wr)) (fun i _=>n - (intOf i).toNat)
 case atStart=>exact⟨0,by omega,rfl,bn⟩
 case round=>
  clear bn;obtain⟨k,hk,rfl,IU⟩:=hrel;obtain⟨X,⟨f,kb,of,I⟩,hm,aK⟩:=IU.out;have F:=fQ (bI.out.trans (I.mono (show w.heap.size<=C by have:=aJ.out.size;have:=aW.out;omega)));have c:=bL.out.below I (show z+1<C by have:=HZ.out;have:=aW.out;omega);have aB:=bJ.out.below I (show z<C by have:=bG.out;have:=aW.out;omega)
  have aC:X.length=k:=by
   have:=congrArg Ae hm;rw[AQ,List.length_take]at this;have:=HN.out;omega
  have bM:=I.size;by_cases bo:k<n
  ·have t1:decide ((k:Int)<n)=true:=(by simp;omega);have t2:(k:Int)<n:=(by omega);obtain⟨r,hr⟩:∃ r,p.fns[k]? = some r:=⟨_,Aq (by rw[HN.out];exact bo)⟩;have aY:=fQ hr;obtain⟨fb,fo,x0,x1,x3,x4,rfl,av,g0,g1,g2,g3,g4,i1,i2,i3,i4⟩:=bk.out.row hr;have G:=F.out;replace g0:=(G.cell (p:=⟨fb,_,none⟩) av).trans g0;replace g1:=(G.cell (p:=⟨fb,_,none⟩) av).trans g1;replace g2:=(G.cell (p:=⟨fb,_,none⟩) av).trans g2;replace g3:=(G.cell (p:=⟨fb,_,none⟩) av).trans g3;replace g4:=(G.cell (p:=⟨fb,_,none⟩) av).trans g4;have Y:fb<wr.heap.size:=(by have:=G.size;omega);obtain⟨A0,c0,rfl⟩:=i1.shape;obtain⟨A1,c1,rfl⟩:=i2.shape;obtain⟨A3,c3,rfl⟩:=i3.shape;obtain⟨A4,c4,rfl,_⟩:=i4.len;have bN:=fQ ((RowV.of i1 i2 i3 i4).below G (Aj _));have J:=fQ ((AJ wr.heap.size wr).alloc (Aj _) (.cells #[.slice A0 r.sig.inn.length c0,.slice A1 r.sig.out.length c1,.int .i64 r.places,.slice A3 r.params.length c3,.slice A4 r.code.length c4] 43));obtain⟨e0,e1,e2,e3,e4,e5⟩:=aJq aB;have ye:=Blk.lt aB;have bp:=fQ c;have cd:=fQ aB;have aL:=fQ kb;have aZ:=fQ of;have ay:=fQ I;have aw:=fQ hm;have aM:=fQ aK;have a1:=fQ aC;obtain⟨Af,cf,hf⟩:=of.len;rw[aC]at hf;subst hf;clear hr i1 i2 i3 i4 G av c aB kb of I hm aK aC IU;go_wp2_with fail;refine(cZc p.env r _ _ _ ?_ (bN.out.below J.out (Aj _))).mono ?_
   ·have:=bF.out;rw[<-this.1,<-this.2.1,<-this.2.2.1,<-this.2.2.2.1,<-this.2.2.2.2]at W ⊢;exact W.out.below (F.out.trans (J.out.mono F.out.size)) (Aj _)
   rintro en w4 (⟨hn,_⟩ | ⟨_,aD,rfl,aE⟩ | ⟨_,P,hs,a',b',p',d',hP,bq,br,rfl,oa,ob,op,oc,aE⟩)
   ·exact absurd (D.out.row k r aY.out).1 hn
   ·have bO:=fQ aD;have H:=J.out.trans (aE.mono J.out.size);have a6:=fQ (bp.out.below H bp.out.lt);have bP:=fQ (F.out.trans (H.mono F.out.size));have B:=fQ (Blk.alloc a6.out (.cells #[.slice none 0 0,.slice none 0 0,.int .i64 0,.slice none 0 0,.slice none 0 0] 43));have bs:=fQ (aZu (o:=(.cells #[.slice none 0 0,.slice none 0 0,.int .i64 0,.slice none 0 0,.slice none 0 0] 43)) bP.out);clear aD aE H e0 e1 e2 e3 e4 e5 ye g0 g1 g2 g3 g4 Y;go_upto_region 9 with fail;obtain⟨w5,bt⟩:=fX (w4.alloc (.cells #[.slice none 0 0,.slice none 0 0,.int .i64 0,.slice none 0 0,.slice none 0 0] 43));rw[bt]at B bs ⊢;clear bt;obtain⟨z0,Y,z2,z3,z4,z5⟩:=aJq B.out;have f0:=frz B.out 0;have f1:=frz B.out 1;have f2:=frz B.out 2;have f3:=frz B.out 3;have f4:=frz B.out 4;have f5:=frz B.out 5;have yz:=Blk.lt B.out;have az:=fQ (bQs B.out (.slice none 0 0) (.int .i64 0) (.slice none 0 0) (.slice none 0 0) (.bool false) (.slice none 0 0));have Z:=fQ (bWc bs.out (show w.heap.size<=z+1 by have:=aU.out;omega) (.slice none 0 0) (.int .i64 0) (.slice none 0 0) (.slice none 0 0) (.bool false) (.slice none 0 0));go_wp2_with fail;refine bodyPost_ret (aZd _ _ (z+1) _ _ _ _ _ _ _ rfl rfl az.out) rfl ?_;exact .inr (.inl ⟨D.out,⟨r,Ak aY.out,bO.out⟩,rfl,Z.out⟩)
   ·have H:=J.out.trans (aE.mono J.out.size);have a7:=fQ H;have u:A.heap.size<=(wr.alloc (.cells #[.slice A0 r.sig.inn.length c0,.slice A1 r.sig.out.length c1,.int .i64 r.places,.slice A3 r.params.length c3,.slice A4 r.code.length c4] 43)).heap.size:=(by have:=J.out.size;omega);obtain⟨K,L,rfl,_⟩:=fW oa;obtain⟨M,O,rfl,_⟩:=fW ob;obtain⟨Q,R,rfl,_⟩:=fW op;obtain⟨ch,al⟩:=oc.row;rw[AQ]at al;obtain⟨S,U,rfl,_⟩:=fW al;obtain⟨V,a8⟩:∃ T,oY hs=T:=⟨_,rfl⟩;have bQ:=fQ (show RowO w4 A.heap.size [.slice K r.sig.inn.length L,.slice M r.sig.out.length O,.int .i64 V,.slice Q r.params.length R,.slice S r.code.length U] r hs from⟨_,_,_,_,by rw[a8],jX oa u,jX ob u,jX op u,oc.mono u⟩);rw[a8];have E:=bZu w4 (.cells #[.slice K r.sig.inn.length L,.slice M r.sig.out.length O,.int .i64 V,.slice Q r.params.length R,.slice S r.code.length U] 43) (.cells #[.slice K r.sig.inn.length L,.slice M r.sig.out.length O,.int .i64 V,.slice Q r.params.length R,.slice S r.code.length U] 43);have ax:=H.trans (E.mono H.size);have ba:=aZ.out.below ax;have bu:=aL.out.below ax aL.out.lt;have aF:=ay.out.trans (ax.mono (show C<=wr.heap.size by have:=aX.out;omega));have aG:=bQ.out.far (rQ E) (fun _ _ _ _ _=>by simp);have bw:=Blk.newAt (w4.alloc (.cells #[.slice K r.sig.inn.length L,.slice M r.sig.out.length O,.int .i64 V,.slice Q r.params.length R,.slice S r.code.length U] 43)) (N:=w4.heap.size+1) 43 #[.slice K r.sig.inn.length L,.slice M r.sig.out.length O,.int .i64 V,.slice Q r.params.length R,.slice S r.code.length U] (by simp);have cj:=fQ (F.out.trans (ax.mono F.out.size));have bd:=aL.out.below a7.out aL.out.lt;obtain⟨bT,bU,bV,bW,bX,b5⟩:=aJq bd;have ck:=Blk.lt bd;obtain⟨vs,an,bx,bz⟩:=ba;rw[a1.out]at an;have ao:=fQ an;have bY:=fQ bx;have bZ:=fQ bz;have aq:=fQ bu;have be:=fQ aF;have bf:=fQ aG;have bg:=fQ bw;have bD:=fQ ax.size;have b6:=fQ (show aKl (r,hs)from⟨P,hP,bq,br⟩);clear aE H u oa ob op oc al a8 E ax an bx bz bu aF aG bw bd bT bU bV bW bX hP bq br e0 e1 e2 e3 e4 e5 ye g0 g1 g2 g3 g4 Y;go_wp2_with (at_builtin;refine jY _ rfl (.tmp 35) (.tmp 37) 27 rfl A.heap.size 43 (.agg #[.slice none 0 0,.slice none 0 0,.int .i64 0,.slice none 0 0,.slice none 0 0]) 5 104 underlying27 cVt rfl (by omega) (.slice Af k cf) k vs.flatten rfl ao.out (some ⟨w4.heap.size+1,0,none⟩) 1 1 [.slice K r.sig.inn.length L,.slice M r.sig.out.length O,.int .i64 V,.slice Q r.params.length R,.slice S r.code.length U] rfl (Blk.fQc (cs:=#[.slice K r.sig.inn.length L,.slice M r.sig.out.length O,.int .i64 V,.slice Q r.params.length R,.slice S r.code.length U]) bg.out rfl) (eJc _ _ _ _ _ rfl rfl rfl rfl rfl) (by unfold maxLen;omega) (by omega) (by have:=bD.out;have:=aX.out;omega) ?_);rintro v' w7 q1 q2 q3 _;have aN:=aq.out.grown q2 (own_ne ao.out aq.out (by decide));have d5:=(aJq aN).2.2.2.2.2;have cm:=frz aN 5;have cn:=Blk.lt aN;have b7:=fQ (RsB.push (x:=(r,hs)) aq.out (by rw[a1.out];exact ao.out) bY.out bZ.out be.out (by have:=aX.out;omega) (by have:=bD.out;omega) bf.out (by rw[a1.out];exact q1) q2);obtain⟨A7,c7,rfl,_⟩:=fW q1
    clear q1 q2 q3 aN;go_wp2_with fail
    exact⟨⟨k+1,by omega,by simp,fQ ⟨_,b7.out,cVu aw.out aY.out,fun x y=>by
     rcases List.mem_append.1 y with y | y
     ·exact aM.out x y
     ·rw[List.mem_singleton.1 y];exact b6.out⟩⟩,by simp[intOf];omega⟩
  ·have t1:decide ((k:Int)<n)=false:=(by simp;omega);have bj:k=n:=(by omega);subst bj;obtain⟨Af,cf,hf⟩:=of.len;rw[aC]at hf;subst hf;obtain⟨b0,b1,b2,b3,b4,b5⟩:=aJq kb;have yb:=Blk.lt kb;obtain⟨z0,Y,z2,z3,z4,z5⟩:=aJq c;have f0:=frz c 0;have f1:=frz c 1;have f2:=frz c 2;have f3:=frz c 3;have f4:=frz c 4;have f5:=frz c 5;have yz:=Blk.lt c;have az:=fQ (bQs c (.slice sA e m) (.int .i64 im) (.slice bA h q) (.slice t j dc) (.bool mm) (.slice Af k cf));have Z:=fQ (bWc F.out (show w.heap.size<=z+1 by have:=aU.out;omega) (.slice sA e m) (.int .i64 im) (.slice bA h q) (.slice t j dc) (.bool mm) (.slice Af k cf));have aZ:=fQ (of.fXs c (.slice sA e m) (.int .i64 im) (.slice bA h q) (.slice t j dc) (.bool mm) (.slice Af k cf));have aw:=fQ (show X.map Prod.fst=p.fns by rw[hm,<-HN.out];exact List.take_length);have aM:=fQ aK;clear kb of I hm aK aC IU c aB;go_upto_region 12 with fail;clear t1 hk bo aV;go_wp2_with fail;refine bodyPost_ret (aZd _ _ (z+1) _ _ _ _ _ _ _ rfl rfl az.out) rfl ?_
   have b8:X.length<=100000:=by
    have h1:=congrArg Ae aw.out;have h2:=lV D.out.env;have h3:=D.out.len;rw[AQ]at h1;omega
   have b9:∀ x∈X,CheckP p.env x.1:=fun x y=>by
    have ca:x.1∈p.fns:=(by rw[<-aw.out];exact List.mem_map_of_mem y);obtain⟨i,hi⟩:=List.mem_iff_getElem?.1 ca;exact(D.out.row i _ hi).1
   refine .inr (.inr ⟨D.out,fun r hr=>?_,X,_,rfl,aw.out,aM.out,?_,Z.out⟩)
   ·rw[<-aw.out]at hr;obtain⟨x,y,rfl⟩:=List.mem_map.1 hr;obtain⟨P,h1,h2,_⟩:=aM.out x y;omega
   ·exact dKr (W.out.below Z.out (Aj _)) (aZ.out.structs b8 b9)
open List renaming setIfInBounds_toArray->jA,set_cons_zero->jB,set_cons_succ->jC
theorem aKf(w:Ai):Calls fZ 31 #[] w (eJt w):=by
 go_in;go_wp2;refine bodyPost_ret (v:=.agg #[.slice none 0 0,.slice (some ⟨w.heap.size+1,0,none⟩) 1 1,.int .i64 2,.slice none 0 0,.slice (some ⟨w.heap.size+1+1+1+1+1+1,0,none⟩) 4 4]) (by simp[results,results31,go_sem]) rfl ⟨_,rfl,⟨_,_,_,_,rfl,Ints.nil _,?_,Ints.nil _,?_⟩,?_⟩
 ·exact aJg (cs:=#[.int .i64 127]) (Blk.alloc (Blk.alloc (Blk.alloc (Blk.alloc (Blk.alloc (Blk.newAt _ _ _ (by simp)) _) _) _) _) _) rfl rfl (by decide)
 ·refine⟨_,_,[[.int .i64 258,.int .u64 0,.slice none 0 0,.slice none 0 0,.slice none 0 0],[.int .i64 256,.int .u64 1,.slice none 0 0,.slice (some ⟨w.heap.size+1+1,0,none⟩) 1 1,.slice none 0 0],[.int .i64 106,.int .u64 0,.slice (some ⟨w.heap.size+1+1+1,0,none⟩) 2 2,.slice (some ⟨w.heap.size+1+1+1+1,0,none⟩) 1 1,.slice none 0 0],[.int .i64 276,.int .u64 0,.slice (some ⟨w.heap.size+1+1+1+1+1,0,none⟩) 1 1,.slice none 0 0,.slice none 0 0]],rfl,by simp[pW],(fun e=>by cases e),by simp[pW],rfl,by simp,?_,?_⟩
  ·intro i u x h1 h2
   match i,h1,h2 with
   | 0,h1,h2=>
    injection h1 with h1;injection h2 with h2;subst h1;subst h2;exact⟨_,_,_,rfl,by simp[CodeD.ok],Ints.nil _,Ints.nil _,Ints.nil _⟩
   | 1,h1,h2=>
    injection h1 with h1;injection h2 with h2;subst h1;subst h2;exact⟨_,_,_,rfl,by simp[CodeD.ok],Ints.nil _,aJg (cs:=#[.int .i64 0]) (Blk.alloc (Blk.alloc (Blk.alloc (Blk.alloc (Blk.newAt _ _ _ (by simp)) _) _) _) _) rfl rfl (by decide),Ints.nil _⟩
   | 2,h1,h2=>
    injection h1 with h1;injection h2 with h2;subst h1;subst h2;exact⟨_,_,_,rfl,by simp[CodeD.ok],aJg (cs:=#[.int .i64 0,.int .i64 0]) (Blk.alloc (Blk.alloc (Blk.alloc (Blk.newAt _ _ _ (by simp)) _) _) _) rfl rfl (by decide),aJg (cs:=#[.int .i64 1]) (Blk.alloc (Blk.alloc (Blk.newAt _ _ _ (by simp)) _) _) rfl rfl (by decide),Ints.nil _⟩
   | 3,h1,h2=>
    injection h1 with h1;injection h2 with h2;subst h1;subst h2;exact⟨_,_,_,rfl,by simp[CodeD.ok],aJg (cs:=#[.int .i64 1]) (Blk.alloc (Blk.newAt _ _ _ (by simp)) _) rfl rfl (by decide),Ints.nil _,Ints.nil _⟩
   | n+4,h1,h2=>simp at h1
  ·exact Blk.fQc (Blk.newAt _ _ _ (by simp)) rfl
 ·exact(((((((AJ _ _).alloc (Aj _) _).alloc (by simp) _).alloc (by simp;omega) _).alloc (by simp;omega) _).alloc (by simp;omega) _).alloc (by simp;omega) _).alloc (by simp;omega) _
theorem eJg(h:∀ x∈hs,x<16):oY hs=16:=by
 have h1:=aZi hs 16;have h2:=aVb hs 16 16 (Int.le_refl _) (fun x a=>by have:=h x a;omega);show rK 16 hs=16;omega
theorem CodesO.len{C:List CodeD}(h:CodesO w base v C):∃ A c,v = .slice A C.length c:=by
 obtain⟨vs,h1,_,_⟩:=h;obtain⟨A,c,e,_⟩:=fW h1;exact⟨A,c,e⟩
theorem aKe(w:Ai):Calls fZ 15 #[] w (eJo w):=by
 go_in;go_wp2_with fail;refine(aKf _).mono ?_;rintro h w1 ⟨v1,rfl,f,c⟩;have u:=fQ f;have v:=fQ c;clear f c;go_wp2_with fail;refine(cZb noE pW _ _ _ (cJz _) u.out).mono ?_;rintro h W (⟨hn,_,_⟩ | ⟨_,l,_,_⟩ | ⟨_,P,hs,g,m,n,i,rfl,hg,y,e⟩)
 ·exact absurd bXd hn
 ·exact absurd l (by decide)
 have o:P=2:=(by have:pW.places=2:=rfl;omega);subst o;have X:=fQ i;have z:=fQ (show IR W (.slice (some ⟨g,0,none⟩) 2 2) hs from IR.of (Blk.fQc y (by simp[i64s,i.len])) i.len);have A:=fQ (v.out.trans (e.mono v.out.size));clear e y i hg m n u;go_wp2_with fail;refine(aKf _).mono ?_;rintro h w3 ⟨v3,rfl,f,c⟩;have B:=fQ f;have C:=fQ (A.out.trans (c.mono A.out.size));have D:=fQ (z.out.below c (Aj _));clear f c z;go_wp2_with fail;refine(cZc noE pW _ _ _ (cJz _) B.out).mono ?_;rintro h q (⟨hn,_,_⟩ | ⟨_,l,_,_⟩ | ⟨_,P,E,a,b,p,d,m,n,F,rfl,G,H,op,I,e⟩)
 ·exact absurd bXd hn
 ·exact absurd l (by decide)
 have o:P=2:=(by have:pW.places=2:=rfl;omega);subst o;have J:oY E=16:=eJg (fun x Y=>(F.ok x Y).2.2.2 (by decide));rw[J];obtain⟨K,c1,rfl,_⟩:=fW G;obtain⟨L,M,rfl,_⟩:=fW H;obtain⟨N,O,rfl,_⟩:=fW op;obtain⟨Q,R,rfl⟩:=I.len;have j:=fQ (C.out.trans (e.mono C.out.size));have S:=fQ (D.out.below e (Aj _));clear e D B G H op I F m n J;rw[show(pW.code.map (tJ E)).length=4 from rfl];go_wp2_with fail;have k:=fQ ((AJ q.heap.size q).alloc (Aj _) (.cells #[.slice K pW.sig.inn.length c1,.slice L pW.sig.out.length M,.int .i64 16,.slice N pW.params.length O,.slice Q 4 R] 43));have r:=fQ (Blk.new q 43 #[.slice K pW.sig.inn.length c1,.slice L pW.sig.out.length M,.int .i64 16,.slice N pW.params.length O,.slice Q 4 R]);refine(aKf _).mono ?_;rintro h w5 ⟨v5,rfl,f,c⟩;have T:=fQ f;have U:=fQ ((j.out.trans (k.out.mono j.out.size)).trans (c.mono (j.out.trans (k.out.mono j.out.size)).size));have V:=fQ ((S.out.below k.out (Aj _)).below c (Aj _));have s:=fQ (r.out.below c r.out.lt);clear f c k r S;go_wp2_with fail;refine(cWd noE pW _ _ _ hs 2 _ (cJz _) T.out bXd rfl (by decide) X.out.toRightP V.out).mono ?_;rintro h w6 ⟨rfl,e⟩;have Z:=fQ (U.out.trans (e.mono U.out.size));have t:=s.out.below e s.out.lt;obtain⟨r0,r1,r2,r3,r4⟩:=gQ t;have y1:=t.lt;clear e t V T s;go_wp2;go_ret;exact⟨rfl,Z.out⟩
end Go.Proofs.YtabibkpfgmolkaaGreat
namespace Go.Proofs.YtabibkpfgmolkaaGreat
variable {w w' wr:Ai}{base g k y n vb:Nat}{v x0 x1 x2 x3 x4 x5:Bj}{t:TypeId}{hs:List Int}{V:List Nat}
open List renaming setIfInBounds_toArray->jA,set_cons_zero->jB,set_cons_succ->jC
theorem cWc{p:RowsD}{X:List (RowD×List Int)}(hp:ProgP p)(b:X.map Prod.fst=p.fns)(hg:∀ x∈X,aKl x):ProgP ⟨p.env,X.map fun x=>xJ x.1 x.2⟩ where
 env:=hp.env
 len:=by
  have:=congrArg Ae b;rw[AQ]at this;have h:=hp.len;show((X.map fun x=>xJ x.1 x.2).length:Int)+p.env.imports=p.env.sigs.length;rw[AQ];omega
 row:=by
  intro i r hi;have hi:(X.map fun x=>xJ x.1 x.2)[i]? = some r:=hi;rw[Ac]at hi
  cases a:X[i]? with
  | none=>rw[a]at hi;cases hi
  | some x=>
   rw[a]at hi;injection hi with hi;subst hi;have hf:p.fns[i]? = some x.1:=(by rw[<-b,Ac,a];rfl);obtain⟨P,h1,h2,c⟩:=hg x (Ak a);have:=hp.row i _ hf;exact⟨cJc this.1 h1 h2 c.toRightP,this.2⟩
theorem bVc:(fZ.info? 50).map (fun i=>(i.zero,i.size,i.bytes))=some (some (.int .u64 0),1,8):=by kernel_rfl
theorem bXi{s:SigD}(h:sigOk s=true):s.inn.length<=8/\s.out.length<=8:=by
 unfold sigOk kK at h;simp only[Bool.and_eq_true,decide_eq_true_eq]at h;exact⟨h.1.1,h.2.1⟩
theorem bZp{c:Nat}{A:Option Addr}{l:List Nat}(h:w.ownsRow base 50 1 (.slice A n c) n (u64V l))(d:n<=17592186043904)(f:All64 l):UR w (.slice A n c) l:=by
 have e:l.length=n:=(by have:=h.1;simpa[u64V]using this);subst e;refine⟨A,c,rfl,Src.fQj h,?_⟩;rcases h.2 with⟨h1,h2⟩ | ⟨g,cap,cur,h1,_,_,i,j,_⟩
 ·injection h1 with a e2 b;subst a;subst b;exact⟨by omega,fun _=>rfl,⟨d,by omega⟩,f⟩
 ·injection h1 with a e2 b;subst b;exact⟨i,(fun e=>by rw[e]at a;cases a),⟨d,by unfold maxLen at j;omega⟩,f⟩
def bJs(C:MaC)(r:RowD)(d:Nat):Prop:=∀ (x1:MaS) (w1:Ai) (c:CodeD) (k:Nat) (f cb h b:Bj) (a:List Nat) (s2:StD) (e2:Int) (dc wd:Nat) (l:List Nat),x1.d=d->x1.e=0->c∈r.code->c.op≠273->c.op≠274->c.op≠275->c.op≠276->c.op≠277->MRef C x1 w1->StOk C.p.env x1.s->MRunB x1 dc->UR w1 b a->(∀ g,b.ownBlock=some g->¬MOwn C x1 g)->a.length=(inK C.p.env r.sig c).length->lowL (inK C.p.env r.sig c) a=a ->
 Did C.p C.lost d c k a x1.s s2 e2 dc wd l->Calls fZ 95 #[.pointer (some ⟨C.mb,0,none⟩),.agg #[.int .i64 c.op,.int .u64 (c.n:Int),f,cb,h],b] w1 (RunR C x1 s2 e2 dc wd l w1)
theorem bVd:∀ (ts:List Int) (l:List Nat),lowL ts (lowL ts l)=lowL ts l
 | [],l=>by cases l <;> rfl
 | t :: ts,[]=>rfl
 | t :: ts,n :: l=>by
  show wV t (wV t n) :: lowL ts (lowL ts l)=_;rw[bVd ts l]
  congr 1
  unfold wV
  split <;> simp
theorem eYy(h:Blk w g 50 (u64V V).toArray)(a:V[k]? = some y):w.cell? ⟨g,k,none⟩=some (.int .u64 (y:Int)):=by
 rw[h.cell k];simp[u64V,a]
theorem eXm(h:V[k]? = some y):V.getD k 0=y:=by rw[Ay,h];rfl
def RL1(C:MaC)(x:MaS)(r:RowD)(args:List Nat)(w:Ai)(vb rb:Nat)(p q t s:Bj)(P:Nat)(a:Bj)(k:Nat)(wr:Ai):Prop:=
 MRef C x wr/\MK C x x w wr/\Blk wr vb 50 (u64V (putV (r.params.take k) (args.take k) (AX P 0))).toArray/\Blk wr rb 43 #[p,q,.int .i64 (P:Int),t,s]/\UR wr a args
theorem RL1.below{C:MaC}{x:MaS}{r:RowD}{args:List Nat}{w:Ai}{vb rb:Nat}{p q t s:Bj}{P:Nat}{b:Bj}{k:Nat}{wr w':Ai}(h:RL1 C x r args w vb rb p q t s P b k wr)(a:Bq wr.heap.size wr w'):RL1 C x r args w vb rb p q t s P b k w':=
 ⟨h.1.below a,h.2.1.below a,h.2.2.1.below a h.2.2.1.lt,h.2.2.2.1.below a h.2.2.2.1.lt,h.2.2.2.2.below a (Aj _)⟩
theorem bVe(V:List Nat)(k n:Nat):(u64V V).toArray.setIfInBounds k (.int .u64 (n:Int))=(u64V (V.set k n)).toArray:=by
 rw[<-cQb];simp
theorem RL1.put{C:MaC}{x:MaS}{r:RowD}{args:List Nat}{rb:Nat}{p q t s:Bj}{P:Nat}{a:Bj}{z:Nat}{o:Int}(h:RL1 C x r args w vb rb p q t s P a k wr)(b:r.params[k]? = some o)(hz:o=(z:Int))(c:args[k]? = some y)
  (d:¬MOwn C x vb) (f:w.heap.size<=vb) (af:C.w0.heap.size<=w.heap.size) (g:rb≠vb) (i:a.ownBlock≠some vb):RL1 C x r args w vb rb p q t s P a (k+1) (wr.setCell ⟨vb,z,none⟩ (.int .u64 (y:Int))):=by
 obtain⟨h1,h2,j,l,m⟩:=h;refine⟨h1.fQp _ d (by omega),h2.fQp _ f,?_,l.setCell _ g,m.heap (by simp[World.setCell]) (fun k n _=>Below.heap_setCell _ _ _ _ (fun e=>i (by rw[n];show some k=some vb;rw[show k=vb from e])))⟩;have:=fV j z (.int .u64 (y:Int));rw[bVe]at this;rw[aWz _ _ _ k o y b c,hz,Ad];exact this
def mCnt(mb:Nat)(w:Ai):Nat:=match w.cell? ⟨mb,13,none⟩with
 | some (.int _ n)=>n.toNat
 | _=>0
theorem MRef.mCnt{C:MaC}{x:MaS}{w:Ai}(h:MRef C x w):mCnt C.mb w=x.cnt:=by
 unfold _root_.Go.Proofs.YtabibkpfgmolkaaGreat.mCnt;rw[show w.cell? ⟨C.mb,13,none⟩=some (.int .i64 x.cnt) by rw[h.cell 13];rfl];simp
theorem dZt{C:MaC}{x:MaS}{r:RowD}{args:List Nat}{m P:Nat}{p q t s c:Bj}{R:ResD}(h:RL1 C x r args w vb w.heap.size p q t s P c m wr)(hm:args.length=m)(ae:args.length=r.params.length)(a:r.places=P)(hc:CheckP C.p.env r)(ev:Ev C.p C.lost x.d r 0 (initV r args) x.s R)(f:MRunB x R.cnt)(he:x.e=0)(g:StOk C.p.env x.s)(i:All64 args)
  (hf:¬MOwn C x w.heap.size) (j:¬MOwn C x vb) (hv:w.heap.size<=vb) (h0:C.w0.heap.size<=w.heap.size):RowI C x r R w vb w.heap.size p q t s 0 x (initV r args) R wr:=by
 obtain⟨h1,h2,b,k,h5⟩:=h
 have l:putV (r.params.take m) (args.take m) (AX P 0)=initV r args:=by
  rw[bYw _ _ _ m (by omega)];unfold initV;rw[a];rfl
 rw[l]at b;exact⟨h1,h2,ev,rfl,rfl,rfl,rfl,rfl,he,rfl,rfl,f,b,by unfold initV;rw[aZa,List.length_replicate],aQk r i,j,by omega,by rw[a];exact k,hf,g,by have:=hc.n1;omega⟩
def RL4(C:MaC)(x0 x4:MaS)(w w4:Ai)(vb rb g base:Nat)(V l:List Nat)(a cc:Array Bj)(v:Bj)(e2:Int)(wr:Ai):Prop:=
 MRef C x4 wr/\MK C x0 x4 w wr/\Blk wr vb 50 (u64V V).toArray/\Blk wr rb 43 a/\Blk wr g 52 cc/\(e2=0->wr.ownsRow base 50 1 v l.length (u64V l))/\Bq C.w0.heap.size C.w0 wr
theorem RL4.put{C:MaC}{x0 x4:MaS}{a:Ai}{rb z:Nat}{l:List Nat}{b cc:Array Bj}{e2:Int}(h:RL4 C x0 x4 w a vb rb g base V l b cc v e2 wr)(f:¬MOwn C x4 vb)(i:w.heap.size<=vb)(c:C.w0.heap.size<=vb)(hr:rb≠vb)(hg:g≠vb)(hb:vb<base):RL4 C x0 x4 w a vb rb g base (V.set z y) l b cc v e2 (wr.setCell ⟨vb,z,none⟩ (.int .u64 (y:Int))):=by
 obtain⟨h1,h2,j,k,m,d,n⟩:=h;refine⟨h1.fQp _ f c,h2.fQp _ i,?_,k.setCell _ hr,m.setCell _ hg,fun e=>gY (d e) (fun e'=>by have:=((d e).lt vb e').1;omega),n.setCell (p:=⟨vb,z,none⟩) c _⟩;have:=fV j z (.int .u64 (y:Int))
 rwa[bVe]at this
theorem RL4.below{C:MaC}{x0 x4:MaS}{w b:Ai}{vb rb g base:Nat}{V l:List Nat}{c cc:Array Bj}{v:Bj}{e2:Int}{wr w':Ai}(h:RL4 C x0 x4 w b vb rb g base V l c cc v e2 wr)(a:Bq wr.heap.size wr w'):RL4 C x0 x4 w b vb rb g base V l c cc v e2 w':=
 ⟨h.1.below a,h.2.1.below a,h.2.2.1.below a h.2.2.1.lt,h.2.2.2.1.below a h.2.2.2.1.lt,h.2.2.2.2.1.below a h.2.2.2.2.1.lt,fun e=>nK (h.2.2.2.2.2.1 e) a (Aj _),h.2.2.2.2.2.2.trans (a.mono h.2.2.2.2.2.2.size)⟩
theorem cKw(os:List Int)(a V:List Nat):putV (os.take 0) (a.take 0) V=V:=by
 rw[Ag,Ag];rfl
theorem eXn{c m:Nat}{A:Option Addr}{e:TypeId}{xs:List Bj}(h:w.ownsRow base e 1 (.slice A n c) m xs):n=m:=by
 rcases h.2 with⟨h1,h2⟩ | ⟨g,cap,cur,h1,_⟩
 ·injection h1 with _ e2 _;have:=h.1;rw[h2]at this;simp at this;omega
 ·injection h1 with _ e2 _
def RL3(w:Ai)(V:List Nat)(l:List Int)(j:Nat)(v:Bj)(wr:Ai):Prop:=wr.ownsRow w.heap.size 50 1 v j (u64V (rJ V (l.take j)))/\Bq w.heap.size w wr
theorem eXo(C:MaC)(x:MaS)(r:RowD)(vr va:Bj)(args:List Nat)(w:Ai)(R:ResD)(hp:ProgP C.p)(hc:CheckP C.p.env r)(hr:RowV C.w0 vr r)(hE:EnvV C.w0 (.agg #[C.a,.int .i64 C.p.env.imports,C.b,C.d,.bool C.p.env.mem]) C.p.env)
  (h:MRef C x w) (ev:Ev C.p C.lost x.d r 0 (initV r args) x.s R) (hb:MRunB x R.cnt) (he:x.e=0) (aQ:StOk C.p.env x.s) (ha:UR w va args) (bL:∀ k,va.ownBlock=some k->¬MOwn C x k) (cL:args.length=r.params.length) (bM:∀ (i:Nat) q,C.p.fns[i]? = Option.some q->∀ c∈q.code,c.n<18446744073709551616) (bN:∀ c∈r.code,c.n<18446744073709551616) (bO:bJs C r x.d) :
  Calls fZ 66 #[.pointer (some ⟨C.mb,0,none⟩),vr,va] w (RunR C x R.s R.e R.cnt R.wds R.out w):=by
 obtain⟨G,H,vt,vs,rfl,h4,h5,Y,h7⟩:=hr;obtain⟨P,hP⟩:∃ P:Nat,r.places=P:=⟨r.places.toNat,by have:=hc.p1;omega⟩;have eT:P<=4096:=(by have:=hc.p2;omega);obtain⟨Aa,ca,rfl⟩:=ha.shape;obtain⟨m,hm⟩:=fX args.length;rw[hm]at ha bL ⊢;have aG:=fQ hP;rw[hP];have eU:m<=8:=(by have h1:=bXi hc.sig;have:=hc.par;omega);obtain⟨sA,X,cM,_⟩:=h7.len;obtain⟨Q,bP⟩:∃ n,r.code.length=n:=⟨_,rfl⟩;rw[bP]at cM;subst cM;have dD:=fQ bP;clear bP;obtain⟨J,tc,cN⟩:=Y.shape;have dE:r.params.length=m:=(by omega);rw[dE]at cN;subst cN;have bo:=(AJ w.heap.size w).alloc (Aj _) (.cells #[G,H,.int .i64 (P:Int),.slice J m tc,.slice sA Q X] 43);have bQ:=fQ bo;have KR:=fQ (Blk.new w 43 #[G,H,.int .i64 (P:Int),.slice J m tc,.slice sA Q X]);have bT:=fQ (h.below bo);have bU:=fQ (ha.below bo (Aj _));have dF:=fQ (h.fresh (Aj w.heap.size));have bV:=fQ (show ¬MOwn C x (w.heap.size+1)from h.fresh (Nat.le_succ w.heap.size));have eV:=fQ bL;have HM:=fQ hm;have cO:=fQ cL;have HP:=fQ hP;have HC:=fQ hc;have dG:=fQ ev;have dH:=fQ hb;have dI:=fQ he;have dJ:=fQ aQ;have dK:=fQ (show SigV C.w0 (.agg #[G,H]) r.sig from⟨G,H,rfl,h4,h5⟩);have dL:=fQ Y.ir;have dM:=fQ ha.len.2.2.2.2.2;have dN:=fQ h7;have y0:=h.bel.size;obtain⟨r0,r1,r2,r3,r4⟩:=gQ KR.out;have yr:=KR.out.lt;have cP:=vZ (P:=fZ) 30 50 (.int .u64 0) 8 underlying30 bVc rfl P (by omega) (by omega);rw[show(AX P (Value.int .u64 0)).toArray=(u64V (AX P 0)).toArray by simp[u64V]]at cP
 have dO:=fQ (show ∀ k,(Value.slice Aa m ca).ownBlock=some k->k<w.heap.size\/m=0 from fun k hk=>by
  rcases Nat.eq_zero_or_pos m with h0 | h0
  ·exact .inr h0
  ·obtain⟨b,o,e,dP⟩:=ha.len.2.1.addr h0;subst e;injection hk with hk;subst hk
   exact .inl dP)
 clear h ha bL hm cL hP hc ev hb he aQ h4 h5 Y h7 bo;go_in;go_wp2_with fail;obtain⟨wA,bp⟩:=fX (w.alloc (.cells #[G,H,.int .i64 (P:Int),.slice J m tc,.slice sA Q X] 43));have hA:wA.heap.size=w.heap.size+1:=(by rw[<-bp];simp);obtain⟨vb,cQ⟩:∃ g,w.heap.size+1=g:=⟨_,rfl⟩;rw[cQ]at hA bV;have ar:=(AJ wA.heap.size wA).alloc (Aj _) (.cells (u64V (AX P 0)).toArray 50)
 have bW:=fQ (show RL1 C x r args w vb w.heap.size G H (.slice J m tc) (.slice sA Q X) P (.slice Aa m ca) 0 (wA.alloc (.cells (u64V (AX P 0)).toArray 50))from by
  rw[bp]at bQ KR bT bU
  exact⟨bT.out.below ar,(MK.fQh bQ.out).below ar,Blk.newAt _ _ _ hA,KR.out.below ar KR.out.lt,bU.out.below ar (Aj _)⟩)
 clear bQ KR bT bU r0 r1 r2 r3 r4 yr ar cP;rw[bp];obtain⟨wB,cR⟩:=fX (wA.alloc (.cells (u64V (AX P 0)).toArray 50));rw[cR]at bW ⊢
 (try simp only[cQ])
 clear cR bp hA;go_loopw [8] (fun i wr=>∃ k:Nat,k<=m/\i = .int .i64 k/\Hid (RL1 C x r args w vb w.heap.size G H (.slice J m tc) (.slice sA Q X) P (.slice Aa m ca) k wr)) (fun i _=>m - (intOf i).toNat)
 case atStart=>exact⟨0,by omega,rfl,bW⟩
 case round=>
  clear bW;obtain⟨k,hk,rfl,IL⟩:=hrel;obtain⟨I1,I2,I3,I4,I5⟩:=IL.out;obtain⟨r0,r1,r2,r3,r4⟩:=gQ I4;have yr:=I4.lt;have yv:=I3.lt;by_cases eW:k<m
  ·as_aux_lemma=>
   have t1:decide ((k:Int)<m)=true:=(by simp;omega);have t2:(k:Int)<m:=(by omega);obtain⟨o,ho⟩:∃ o,r.params[k]? = some o:=⟨_,Aq (by have:=cO.out;have:=HM.out;omega)⟩;obtain⟨y,hy⟩:∃ y,args[k]? = some y:=⟨_,Aq (by have:=HM.out;omega)⟩;have aR:=pQ HC.out.pin (Ak ho);obtain⟨z,rfl⟩:∃ z:Nat,o=z:=⟨o.toNat,by omega⟩;have cS:z<P:=(by have:=aG.out;omega);have t3:(z:Int)<P:=(by omega);obtain⟨pb,po,e1,aS,aX⟩:=dL.out.cell ho;subst e1;have bX:wr.cell? ⟨pb,po+k,none⟩=some (.int .i64 z):=(I1.bel.cell (p:=⟨pb,po+k,none⟩) aS).trans aX;have dQ:pb<wr.heap.size:=Az aS I1.bel.size;obtain⟨ab,ao,e4,hab,cT,_⟩:=I5.cell hy;subst e4;obtain⟨u,hu⟩:∃ u,wr.cell? ⟨vb,z,none⟩=some u:=(by rw[I3.cell z];exact⟨_,AV (by simp[u64V,aZa];omega)⟩);have fv:=frz I3 z;have Z:=fQ (IL.out.put ho rfl hy bV.out (by omega) y0 (by omega) (fun e=>by rcases dO.out vb e with h1 | h1 <;> omega));clear I1 I2 I3 I4 I5 IL ho hy aX aR;go_wp2_with fail;go_region
   all_goals
    go_wp2;exact⟨⟨k+1,by omega,by simp,fQ (Z.out.below (hJ _))⟩,by simp[intOf];omega⟩
  ·as_aux_lemma=>
   have t1:decide ((k:Int)<m)=false:=(by simp;omega);obtain rfl:m=k:=(by omega);have cU:=fQ (dZt IL.out HM.out cO.out aG.out HC.out dG.out dH.out dI.out dJ.out dM.out dF.out bV.out (by omega) y0);clear I1 I2 I3 I4 I5 IL r0 r1 r2 r3 r4 yr yv t1;go_wp2_with fail;go_loopw [9] (fun i wr=>∃ (k:Nat) (x1:MaS) (V:List Nat) (R':ResD),i = .int .i64 k/\Hid (RowI C x r R w vb w.heap.size G H (.slice J m tc) (.slice sA Q X) k x1 V R' wr)) (fun _ wr=>(x.cnt+R.cnt) - mCnt C.mb wr)
   case atStart=>exact⟨0,_,_,_,rfl,cU⟩
   case round=>
    clear cU;obtain⟨k,x1,V,R',rfl,IR⟩:=hrel;have I:=IR.out;obtain⟨c,bq⟩:∃ c,r.code[k]? = some c:=⟨_,Aq I.k⟩;have cV:=Ak bq;have t2:(k:Int)<Q:=(by have:=I.k;have:=dD.out;omega);obtain⟨cb,co,pa,pb,pt,e1,aH,g0,g1,g2,g3,g4,s0,i1,i2,i3⟩:=dN.out.code bq;subst e1;obtain⟨pA,pc,rfl⟩:=i1.shape;obtain⟨qA,qc,rfl⟩:=i2.shape;obtain⟨eA,ec,rfl⟩:=i3.shape;have b1:=I.m.bel;replace g0:=(b1.cell (p:=⟨cb,_,none⟩) aH).trans g0;replace g1:=(b1.cell (p:=⟨cb,_,none⟩) aH).trans g1;replace g2:=(b1.cell (p:=⟨cb,_,none⟩) aH).trans g2;replace g3:=(b1.cell (p:=⟨cb,_,none⟩) aH).trans g3;replace g4:=(b1.cell (p:=⟨cb,_,none⟩) aH).trans g4;have dR:=Az aH b1.size;obtain⟨N,hN⟩:=fX x1.cnt;have eX:N<=1000000000000:=(by have:=I.b.cnt;omega);have dS:IntKind.i64.wrap ((N:Int)+1)=((N+1:Nat):Int):=(by rw[AZ _ (by omega)];rfl);have dT:wr.cell? ⟨C.mb,13,none⟩=some (.int .i64 N):=(by rw[I.m.cell 13];simp[mCells,hN]);have f13:=frz I.m.blk 13;have dU:=I.m.blk.lt;obtain⟨r0,r1,r2,r3,r4⟩:=gQ I.rk;have yr:=I.rk.lt;have yv:=I.vk.lt;have bY:=fQ cV;have aT:=fQ bq;have aC:=fQ hN;have dV:=fQ s0;have J1:=fQ i1;have J2:=fQ i2;have J3:=fQ i3;have dW:wr.heap.size≠C.mb:=(by omega);clear I b1 aH bq cV hN i1 i2 i3 s0;go_wp2_with fail;obtain⟨nA,br⟩:∃ n,c.args.length=n:=⟨_,rfl⟩;obtain⟨B,bs⟩:∃ n,c.outs.length=n:=⟨_,rfl⟩;obtain⟨L,aY⟩:∃ n,c.to.length=n:=⟨_,rfl⟩;obtain⟨wn,aU⟩:=fX ((wr.setCell ⟨C.mb,13,none⟩ (.int .i64 ((N:Int)+1))).alloc (.cells #[.int .i64 c.op,.int .u64 (c.n:Int),.slice pA c.args.length pc,.slice qA c.outs.length qc,.slice eA c.to.length ec] 52));have hsz:wn.heap.size=wr.heap.size+1:=(by rw[<-aU];simp[World.setCell]);have aZ:Bq (wr.setCell ⟨C.mb,13,none⟩ (.int .i64 ((N:Int)+1))).heap.size (wr.setCell ⟨C.mb,13,none⟩ (.int .i64 ((N:Int)+1))) wn:=(by rw[<-aU];exact(AJ _ _).alloc (Aj _) _);have aV:=fQ (show MRef C { x1 with cnt:=N+1 } wn from(IR.out.m.fQg 13 (.int .i64 ((N:Int)+1)) (y:={ x1 with cnt:=N+1 }) (by simp[mCells]) rfl rfl rfl rfl rfl rfl rfl).below aZ);have cW:=fQ (show MK C x { x1 with cnt:=N+1 } w wn from(IR.out.mq.fQg 13 _ (y:={ x1 with cnt:=N+1 }) rfl rfl rfl).below aZ);have aI:=fQ (show Blk wn vb 50 (u64V V).toArray from(IR.out.vk.setCell _ (fun e=>IR.out.vo (.inl e))).below aZ (by rw[uK];exact IR.out.vk.lt));have bZ:=fQ (show Blk wn w.heap.size 43 #[G,H,.int .i64 r.places,.slice J m tc,.slice (some ⟨cb,co,none⟩) Q X]from(IR.out.rk.setCell _ (fun e=>IR.out.ro (.inl e))).below aZ (by rw[uK];exact IR.out.rk.lt));have a1:=fQ (show Blk wn wr.heap.size 52 #[.int .i64 c.op,.int .u64 (c.n:Int),.slice pA c.args.length pc,.slice qA c.outs.length qc,.slice eA c.to.length ec]from by rw[<-aU];exact Blk.newAt _ _ _ (by rw[uK]));rw[br,bs,aY]at aU a1;have cX:=fQ (show ¬MOwn C { x1 with cnt:=N+1 } wr.heap.size from IR.out.m.fresh (Aj _));obtain⟨g,hg⟩:=fX wr.heap.size;have eY:vb<g:=(by rw[<-hg];exact IR.out.vk.lt);rw[hg]at hsz a1 cX;rw[br,bs,aY,aU]
    (try simp only[hg])
    have dX:=fQ (show mCnt C.mb wr=N from by rw[IR.out.m.mCnt];exact aC.out);have b0:N+R'.cnt=x.cnt+R.cnt/\1<=R'.cnt:=⟨by rw[<-aC.out];exact IR.out.tc,IR.out.pos⟩;have aW:=fQ (fun(w':Ai) (x2:MaS) (M:MRef C x2 w') (h:N<x2.cnt)=>show(x.cnt+R.cnt) - mCnt C.mb w'<(x.cnt+R.cnt) - mCnt C.mb wr from by rw[M.mCnt,dX.out];omega);clear b0;have aD:=fQ br;have a6:=fQ bs;have aw:=fQ aY;have eZ:=fQ hsz;clear g0 g1 g2 g3 g4 dR dT f13 dU r0 r1 r2 r3 r4 yr yv aU aZ dS br bs aY dW hsz;have aQ:=HC.out.code c bY.out;obtain⟨fi,fo,aE,cY,cZ,c0,dY,c2,c5,aR,c6⟩:=mJ aQ;have aJ:=fQ aE;have dZ:=fQ c5;have a7:=fQ cY;have bt:=fQ c2;have b5:=fQ c0;have ed:=fQ aR;have e3:=fQ c6;have b6:=fQ cZ;have a8:=fQ aQ
    have e6:nA<=8:=by
     have h1:=(aXy HC.out.env HC.out.sig aJ.out).1;have h2:=a7.out;have S:=aD.out;omega
    have e7:B<=8:=by
     have h1:=(aXy HC.out.env HC.out.sig aJ.out).2;have h2:=b6.out;have S:=a6.out;omega
    clear aE cY cZ c0 dY c2 c5 aR c6 aQ;go_loopw [11,12] (fun v i wq=>∃ j:Nat,j<=nA/\i = .int .i64 j/\Hid (RL3 wn V c.args j v wq)) (fun _ i _=>nA - (intOf i).toNat)
    case atStart=>exact⟨0,by omega,rfl,fQ ⟨World.ownsRow_nil _ _ _ _,AJ _ _⟩⟩
    case round=>
     obtain⟨j,hj,rfl,IA⟩:=hrel;obtain⟨iO,IB⟩:=IA.out;obtain⟨Av,cv,rfl,e8⟩:=fW iO;have KC:=a1.out.below IB a1.out.lt;obtain⟨k0,k1,k2,k3,k4⟩:=gQ KC;have yc:=KC.lt;by_cases ee:j<nA
     ·as_aux_lemma=>
      have t1:decide ((j:Int)<nA)=true:=(by simp;omega);have t3:(j:Int)<nA:=(by omega);obtain⟨p,bu⟩:∃ p,c.args[j]? = some p:=⟨_,Aq (by have:=aD.out;omega)⟩;have ef:=dZ.out p (Ak bu);have e9:=IR.out.vl;obtain⟨z,rfl⟩:∃ z:Nat,p=z:=⟨p.toNat,by omega⟩;have cS:z<P:=(by have:=aG.out;omega);have t4:(z:Int)<P:=(by omega);obtain⟨y,hy⟩:∃ y,V[z]? = some y:=⟨_,Aq (by have:=aG.out;omega)⟩;obtain⟨pb,po,e1,aS,aX⟩:=J1.out.ir.cell bu;subst e1;have b7:=aV.out.bel.trans (IB.mono aV.out.bel.size);have bX:wr.cell? ⟨pb,po+j,none⟩=some (.int .i64 z):=(b7.cell (p:=⟨pb,po+j,none⟩) aS).trans aX;have dQ:pb<wr.heap.size:=Az aS b7.size;have fa:=eYy (aI.out.below IB aI.out.lt) hy;have yv:=(aI.out.below IB aI.out.lt).lt;have eg:=fQ (dZp (V:=V) bu);have eh:=fQ (show V.getD (z:Int).toNat 0=y from by rw[Ad];exact eXm hy);have c7:=fQ (iJ iO (.cells #[.int .u64 (y:Int)] 50));have ei:=fQ (IB.alloc IB.size (.cells #[.int .u64 (y:Int)] 50));have fb:=IB.size;clear iO IB IA KC bu ef hy aS aX b7;go_wp2_with (at_builtin;refine jY _ rfl (.tmp 59) (.tmp 68) 30 rfl wn.heap.size 50 (.int .u64 0) 1 8 underlying30 bVc rfl (by omega) (.slice Av j cv) j (u64V (rJ V (c.args.take j))) rfl c7.out (some ⟨wr.heap.size,0,none⟩) 1 1 [.int .u64 (y:Int)] rfl (Blk.fQc (cs:=#[.int .u64 (y:Int)]) (Blk.newAt _ _ _ rfl) rfl) (fun u hu=>by rw[List.mem_singleton.1 hu];rfl) (by unfold maxLen;omega) (by omega) (by simp;omega) ?_);rintro v' w' g1 g2 g3 _;have HX:=fQ (show RL3 wn V c.args (j+1) v' w' from⟨by rw[eg.out,eh.out,aVz];first | exact g1 | simpa[u64V]using g1,iK ei.out g2 (by simp;omega) (fun j hj=>(c7.out.lt j hj).1)⟩);clear g1 g2 g3;go_wp2;exact⟨⟨j+1,by omega,by simp,HX⟩,by simp[intOf];omega⟩
     ·as_aux_lemma=>
      have t1:decide ((j:Int)<nA)=false:=(by simp;omega);obtain rfl:nA=j:=(by omega);have BW:=fQ (aV.out.bel.trans (IB.mono aV.out.bel.size));have aF:=fQ (aV.out.below IB);have c8:=fQ (cW.out.below IB);have b8:=fQ (aI.out.below IB aI.out.lt);have ba:=fQ (bZ.out.below IB bZ.out.lt);have b9:=fQ KC;have c9:=fQ (show wr.ownsRow wn.heap.size 50 1 (.slice Av nA cv) nA (u64V (rJ V c.args))from by have:=iO;rwa[List.take_of_length_le (by rw[aD.out];exact Aj _)]at this)
      have CF:=fQ (fun(w':Ai) (hb:Bq C.w0.heap.size C.w0 w')=>bKp C.p.env r.sig c (.agg #[C.a,.int .i64 C.p.env.imports,C.b,C.d,.bool C.p.env.mem]) (.agg #[G,H]) (.agg #[.int .i64 c.op,.int .u64 (c.n:Int),.slice pA nA pc,.slice qA B qc,.slice eA L ec]) w' (hE.below hb (Aj _)) (dK.out.below hb (Aj _))
       (by rw[<-aD.out,<-a6.out,<-aw.out];exact⟨_,_,_,rfl,dV.out,J1.out.below hb (Aj _),J2.out.below hb (Aj _),J3.out.below hb (Aj _)⟩) (by have:=HC.out.env;unfold envOk at this;simp only[Bool.and_eq_true,decide_eq_true_eq]at this;exact this.1.2.2.2))
      obtain⟨r0,r1,r2,r3,r4⟩:=gQ ba.out;have yr:=ba.out.lt;have ym:=aF.out.blk.lt;have m0:wr.cell? ⟨C.mb,0,none⟩=some C.a:=(by rw[aF.out.cell 0];rfl);have m1:wr.cell? ⟨C.mb,1,none⟩=some (.int .i64 C.p.env.imports):=(by rw[aF.out.cell 1];rfl);have m2:wr.cell? ⟨C.mb,2,none⟩=some C.b:=(by rw[aF.out.cell 2];rfl);have m3:wr.cell? ⟨C.mb,3,none⟩=some C.d:=(by rw[aF.out.cell 3];rfl);have m4:wr.cell? ⟨C.mb,4,none⟩=some (.bool C.p.env.mem):=(by rw[aF.out.cell 4];rfl);have da:=IB.size;clear iO IB IA KC aV cW aI bZ a1 t1;go_wp2_with fail;refine lZ (fun w'=>w'.cell? ⟨C.mb,0,none⟩=some (C.a)/\w'.cell? ⟨C.mb,1,none⟩=some (.int .i64 C.p.env.imports)/\w'.cell? ⟨C.mb,2,none⟩=some (C.b)/\w'.cell? ⟨C.mb,3,none⟩=some (C.d)/\w'.cell? ⟨C.mb,4,none⟩=some (.bool C.p.env.mem)/\w'.cell? ⟨w.heap.size,0,none⟩=some (G)/\w'.cell? ⟨w.heap.size,1,none⟩=some (H)/\w'.cell? ⟨g,0,none⟩=some (.int .i64 c.op)/\w'.cell? ⟨g,1,none⟩=some (.int .u64 (c.n:Int))/\w'.cell? ⟨g,2,none⟩=some (.slice pA nA pc)/\w'.cell? ⟨g,3,none⟩=some (.slice qA B qc)/\w'.cell? ⟨g,4,none⟩=some (.slice eA L ec)/\C.mb<w'.heap.size/\w.heap.size<w'.heap.size/\g<w'.heap.size) (fun _=>True) 1000 (by kernel_rfl) ⟨(Aw (hJ wr) (p:=⟨C.mb,0,none⟩) ym).trans m0,(Aw (hJ wr) (p:=⟨C.mb,1,none⟩) ym).trans m1,(Aw (hJ wr) (p:=⟨C.mb,2,none⟩) ym).trans m2,(Aw (hJ wr) (p:=⟨C.mb,3,none⟩) ym).trans m3,(Aw (hJ wr) (p:=⟨C.mb,4,none⟩) ym).trans m4,(Aw (hJ wr) (p:=⟨w.heap.size,0,none⟩) yr).trans r0,(Aw (hJ wr) (p:=⟨w.heap.size,1,none⟩) yr).trans r1,(Aw (hJ wr) (p:=⟨g,0,none⟩) yc).trans k0,(Aw (hJ wr) (p:=⟨g,1,none⟩) yc).trans k1,(Aw (hJ wr) (p:=⟨g,2,none⟩) yc).trans k2,(Aw (hJ wr) (p:=⟨g,3,none⟩) yc).trans k3,(Aw (hJ wr) (p:=⟨g,4,none⟩) yc).trans k4,Az ym (AY (hJ wr)),Az yr (AY (hJ wr)),Az yc (AY (hJ wr))⟩ trivial (fun f=>?_);refine wtk 0 f (fun f=>?_);refine wtk 1 f (fun f=>?_);refine wtk 2 f (fun f=>?_);refine wtk 3 f (fun f=>?_);refine wtk 4 f (fun f=>?_);refine wtk 5 f (fun f=>?_);refine wtk 6 f (fun f=>?_);refine wtk 7 f (fun f=>?_);refine jK (i:=8) (by kernel_rfl) rfl (fun K hK=>?_);go_simp;refine(CF.out _ (BW.out.trans ((hJ wr).mono BW.out.size))).mono ?_;rintro en w2 ⟨vi,vo,fc,fe,ff,rfl,db,ej,ek,dd,de⟩;have F:=fQ ((hJ wr).trans de);have df:=fQ db;have dg:=fQ (dd _ aJ.out);clear db ej ek dd de;refine hK.out _ _ ⟨⟨(Aw F.out (p:=⟨C.mb,0,none⟩) ym).trans m0,(Aw F.out (p:=⟨C.mb,1,none⟩) ym).trans m1,(Aw F.out (p:=⟨C.mb,2,none⟩) ym).trans m2,(Aw F.out (p:=⟨C.mb,3,none⟩) ym).trans m3,(Aw F.out (p:=⟨C.mb,4,none⟩) ym).trans m4,(Aw F.out (p:=⟨w.heap.size,0,none⟩) yr).trans r0,(Aw F.out (p:=⟨w.heap.size,1,none⟩) yr).trans r1,(Aw F.out (p:=⟨g,0,none⟩) yc).trans k0,(Aw F.out (p:=⟨g,1,none⟩) yc).trans k1,(Aw F.out (p:=⟨g,2,none⟩) yc).trans k2,(Aw F.out (p:=⟨g,3,none⟩) yc).trans k3,(Aw F.out (p:=⟨g,4,none⟩) yc).trans k4,Az ym (AY F.out),Az yr (AY F.out),Az yc (AY F.out)⟩,fun _=>trivial⟩ (fun f=>?_)
      clear hK K
      try simp only[Ax,List.setIfInBounds_toArray,List.set_cons_zero,List.set_cons_succ]
      refine wtk 9 f (fun f=>?_);refine wtk 10 f (fun f=>?_);refine wtk 11 f (fun f=>?_);refine wtk 12 f (fun f=>?_);refine wtk 13 f (fun f=>?_);refine wtk 14 f (fun f=>?_);refine wtk 15 f (fun f=>?_);refine kX (by kernel_rfl) ?_ _;clear f m0 m1 m2 m3 m4 r0 r1 r2 r3 r4 k0 k1 k2 k3 k4 yc yr ym CF;obtain⟨cd,el⟩:=dg.out;injection el with cf ch;subst cf;subst ch;have bw:=fQ (aF.out.below F.out);have cj:=fQ (c8.out.below F.out);have ck:=fQ (b8.out.below F.out b8.out.lt);have cm:=fQ (ba.out.below F.out ba.out.lt);have cq:=fQ (b9.out.below F.out b9.out.lt);have dh:=fQ (bZp (nK c9.out F.out (Aj _)) (by omega) (bZm IR.out.v64 c.args));have di:fi.length=(rJ V c.args).length:=(by unfold rJ;rw[AQ];have:=a7.out;omega);have aK:(rJ V c.args).length=nA:=(by unfold rJ;rw[AQ];exact aD.out);have dj:=fQ aK;have ep:wn.heap.size<=w2.heap.size:=Nat.le_trans da F.out.size;have er:w.heap.size<=w2.heap.size:=cj.out.size;clear aF c8 b8 ba b9 F c9 dg cd BW da;go_wp2_with fail;refine(cZt vi (.slice Av nA cv) fi (rJ V c.args) _ df.out dh.out di (by rw[dj.out];omega)).mono ?_;rintro en D ⟨v3,rfl,bb,aL⟩;rw[aK]at bb;have cr:inK C.p.env r.sig c=fi:=(by unfold inK;rw[aJ.out];rfl);have aM:=fQ (show D.ownsRow w2.heap.size 50 1 v3 nA (u64V (argV C.p.env r c V)) by unfold argV;rw[cr];exact bb);have bx:=fQ (show(argV C.p.env r c V).length=nA by have:=bb.1;unfold argV;rw[cr];simpa[u64V]using this);have O:=fQ (bw.out.below aL);have bz:=fQ (cj.out.below aL);have bD:=fQ (ck.out.below aL ck.out.lt);have ct:=fQ (cm.out.below aL cm.out.lt);have cw:=fQ (cq.out.below aL cq.out.lt);have fg:=aL.size;have et:=fQ (bw.out.fresh (Aj _));have eu:=fQ (show ∀ gg,v3.ownBlock=some gg->¬MOwn C { x1 with cnt:=N+1 } gg from fun gg ew=>bw.out.fresh (bb.lt gg ew).1);clear di aK cr bb aL bw cj ck cm cq dh df dj;obtain⟨k0,k1,k2,k3,k4⟩:=gQ cw.out;have yc:=cw.out.lt;have ym:=O.out.blk.lt;have fh:k<=4096:=(by have:=IR.out.k;have:=HC.out.n2;omega);have w9:IntKind.i64.wrap ((k:Int)+1)=((k+1:Nat):Int):=(by rw[AZ _ (by omega)];rfl);obtain⟨A3,c3,rfl,fj⟩:=fW aM.out;by_cases ah:c.op=276
      ·as_aux_lemma=>
       have cx:(c.op == 276)=true:=(by simp[ah]);have ey:=fQ ah;clear ah;have au:=fQ (eKj IR.out.ev aT.out ey.out);go_wp2;go_ret;refine bJt IR.out O.out bz.out (by rw[au.out]) (by rw[au.out];exact IR.out.e0.symm) (by rw[au.out];show N+1=x1.cnt+1;rw[aC.out]) (by rw[au.out];have:=IR.out.b.wle;show x1.wmax=max x1.wmax (x1.wcur+0);omega) rfl rfl ⟨_,_,_,rfl⟩ (fun _=>?_);rw[au.out];refine⟨?_,vV _ _ _ IR.out.v64⟩;show D.ownsRow w.heap.size 50 1 (.slice A3 nA c3) (argV C.p.env r c V).length _;rw[bx.out];exact jX aM.out er
      have cx:(c.op == 276)=false:=(by simp[ah]);have dk:D.cell? ⟨C.mb,17,none⟩=some (.int .i64 0):=(by rw[O.out.cell 17];simp[mCells,IR.out.e0]);have f17:=frz O.out.blk 17;by_cases an:c.op=277
      ·as_aux_lemma=>
       have cy:(c.op == 277)=true:=(by simp[an]);have au:=fQ (eKk IR.out.ev aT.out an);have ez:=fQ (O.out.fQg 17 (.int .i64 32) (y:={ x1 with cnt:=N+1,e:=32 }) (by simp[mCells]) rfl rfl rfl rfl rfl rfl rfl);have eC:=fQ (bz.out.fQg 17 (.int .i64 32) (y:={ x1 with cnt:=N+1,e:=32 }) rfl rfl rfl);clear ah an;go_wp2;go_ret;exact bJt IR.out ez.out eC.out (by rw[au.out]) (by rw[au.out]) (by rw[au.out];show N+1=x1.cnt+1;rw[aC.out]) (by rw[au.out];have:=IR.out.b.wle;show x1.wmax=max x1.wmax (x1.wcur+0);omega) rfl rfl ⟨_,_,_,rfl⟩ (fun h=>by rw[au.out]at h;exact absurd h (show ¬(32:Int)=0 by decide))
      have cy:(c.op == 277)=false:=by simp[an]
      have Z:=fQ (fun(k2:Nat) (ha:actV C.p.env c k (argV C.p.env r c V) x1.s = .go k2) (eD:k2<r.code.length)=>show ∃ R2,RowI C x r R w vb w.heap.size G H (.slice J m tc) (.slice (some ⟨cb,co,none⟩) Q X) k2 { x1 with cnt:=N+1 } V R2 D by
       obtain⟨R2,e2,hR⟩:=eWy IR.out.ev aT.out ha
       exact⟨R2,bYy (dc:=0) (wd:=0) IR.out O.out bz.out e2 hR (by show N+1=x1.cnt+1+0;rw[aC.out]) (by have:=IR.out.b.wle;show x1.wmax=max x1.wmax (x1.wcur+0);omega) rfl rfl IR.out.e0 (by show x1.s.log.length<=_;omega) IR.out.b.wmx bD.out IR.out.vl IR.out.v64 IR.out.vo ct.out IR.out.ro IR.out.ok eD⟩)
      by_cases ak:c.op=273
      ·as_aux_lemma=>
       have cz:(c.op == 273)=true:=(by simp[ak]);have bE:1<=c.to.length:=(by have:=b5.out;rw[ak]at this;have:(1:Int)<=c.to.length:=this;omega);obtain⟨t,U⟩:∃ t,c.to[0]? = some t:=⟨_,Aq bE⟩;have aN:=bt.out t (Ak U);obtain⟨z,rfl⟩:∃ z:Nat,t=z:=⟨t.toNat,by omega⟩;obtain⟨tb,tq,e5,W,al⟩:=J3.out.ir.cell U;subst e5;rw[Ah]at al;have ax:D.cell? ⟨tb,tq,none⟩=some (.int .i64 z):=(O.out.bel.cell (p:=⟨tb,tq,none⟩) W).trans al;have bF:tb<D.heap.size:=Az W O.out.bel.size;have tT:(0:Int)<(L:Int):=(by have:=aw.out;omega);obtain⟨R2,hI⟩:=Z.out z (by rw[dWy ak,Ay,U];simp) (by omega);have HI:=fQ hI;clear hI U aN al W Z;go_wp2;exact⟨⟨_,_,_,_,rfl,HI⟩,aW.out _ _ O.out (AK N)⟩
      have cz:(c.op == 273)=false:=(by simp[ak]);by_cases ad:c.op=274
      ·as_aux_lemma=>
       have cA:(c.op == 274)=true:=by simp[ad]
       have eE:nA=1:=by
        have hf:=aJ.out;rw[ad]at hf;have hf:(if c.n=0 then some (([127]:List Int),([]:List Int))else none)=some (fi,fo):=hf
        split at hf
        ·cases hf;have h1:=a7.out;have h2:=aD.out;rw[<-h2,h1];rfl
        ·cases hf
       obtain⟨E,ay⟩:∃ E,(argV C.p.env r c V)[0]? = some E:=⟨_,Aq (by have:=bx.out;omega)⟩;obtain⟨ag,ac,ea,eF,_,_⟩:=mW aM.out (by omega);injection ea with ea _ eG;subst ea;have cT:D.cell? ⟨ag,0,none⟩=some (.int .u64 (E:Int)):=(by rw[aM.out.cellAt 0 (by omega)];simp[u64V,ay]);have J:(0:Int)<(nA:Int):=(by omega);have az:(argV C.p.env r c V).getD 0 0=E:=(by rw[Ay,ay];rfl);by_cases hz:E=0
       ·have t0:((E:Int) != 0)=false:=(by simp[hz]);obtain⟨R2,hI⟩:=Z.out (k+1) (by rw[dZq ad,az,if_pos hz]) (aQc HC.out aT.out (by unfold nextOf;rw[if_neg (by omega),if_neg (by omega),if_pos ad];simp));have HI:=fQ hI;clear hI ay Z hz az;go_wp2;exact⟨⟨_,_,_,_,rfl,HI⟩,aW.out _ _ O.out (AK N)⟩
       ·have t0:((E:Int) != 0)=true:=(by simp;omega);have bE:1<=c.to.length:=(by have:=b5.out;rw[ad]at this;have:(1:Int)<=c.to.length:=this;omega);obtain⟨t,U⟩:∃ t,c.to[0]? = some t:=⟨_,Aq bE⟩;have aN:=bt.out t (Ak U);obtain⟨z,rfl⟩:∃ z:Nat,t=z:=⟨t.toNat,by omega⟩;obtain⟨tb,tq,e5,W,al⟩:=J3.out.ir.cell U;subst e5;rw[Ah]at al;have ax:D.cell? ⟨tb,tq,none⟩=some (.int .i64 z):=(O.out.bel.cell (p:=⟨tb,tq,none⟩) W).trans al;have bF:tb<D.heap.size:=Az W O.out.bel.size;have tT:(0:Int)<(L:Int):=(by have:=aw.out;omega);obtain⟨R2,hI⟩:=Z.out z (by rw[dZq ad,az,if_neg hz,Ay,U];simp) (by omega);have HI:=fQ hI;clear hI U aN al W Z ay hz az;go_wp2;exact⟨⟨_,_,_,_,rfl,HI⟩,aW.out _ _ O.out (AK N)⟩
      have cA:(c.op == 274)=false:=(by simp[ad]);by_cases ae:c.op=275
      ·as_aux_lemma=>
       have cB:(c.op == 275)=true:=by simp[ae]
       have eE:nA=1:=by
        have hf:=aJ.out;rw[ae]at hf;have hf:(if c.n=0 then some (([127]:List Int),([]:List Int))else none)=some (fi,fo):=hf
        split at hf
        ·cases hf;have h1:=a7.out;have h2:=aD.out;rw[<-h2,h1];rfl
        ·cases hf
       obtain⟨E,ay⟩:∃ E,(argV C.p.env r c V)[0]? = some E:=⟨_,Aq (by have:=bx.out;omega)⟩;obtain⟨ag,ac,ea,eF,_,_⟩:=mW aM.out (by omega);injection ea with ea _ eG;subst ea;have cT:D.cell? ⟨ag,0,none⟩=some (.int .u64 (E:Int)):=(by rw[aM.out.cellAt 0 (by omega)];simp[u64V,ay]);have J:(0:Int)<(nA:Int):=(by omega);have az:(argV C.p.env r c V).getD 0 0=E:=(by rw[Ay,ay];rfl);have bE:1<=c.to.length:=(by have:=b5.out;rw[ae]at this;have:(1:Int)<=c.to.length:=this;omega);have aY:L<=17592186043904:=(by have:=(J3.out.fQb).2.2.1;have:=aw.out;omega);obtain⟨T,hT⟩:=fX (L - 1);have wT:IntKind.i64.wrap ((L:Int) - 1)=(T:Int):=(by rw[AZ _ (by omega)];have:=aw.out;omega);have wU:IntKind.u64.wrap (T:Int)=(T:Int):=(by rw[IntKind.wrap_u64];omega)
       have bc:∀ q,min E (c.to.length - 1)=q->q<c.to.length:=fun q e=>by omega
       by_cases hz:E<T
       ·have t0:decide ((E:Int)<(T:Int))=true:=(by simp;omega);have wI:IntKind.i64.wrap (E:Int)=(E:Int):=AZ _ (by omega);obtain⟨t,U⟩:∃ t,c.to[E]? = some t:=⟨_,Aq (by have:=aw.out;omega)⟩;have aN:=bt.out t (Ak U);obtain⟨z,rfl⟩:∃ z:Nat,t=z:=⟨t.toNat,by omega⟩;obtain⟨tb,tq,e5,W,al⟩:=J3.out.ir.cell U;subst e5;have ax:D.cell? ⟨tb,tq+E,none⟩=some (.int .i64 z):=(O.out.bel.cell (p:=⟨tb,tq+E,none⟩) W).trans al;have bF:tb<D.heap.size:=Az W O.out.bel.size;have tT:(E:Int)<(L:Int):=(by omega);obtain⟨R2,hI⟩:=Z.out z (by rw[bVb ae,az,show min E (c.to.length - 1)=E by have:=aw.out;omega,Ay,U];simp) (by omega);have HI:=fQ hI;clear hI U aN al W Z ay az bc hT;go_wp2;exact⟨⟨_,_,_,_,rfl,HI⟩,aW.out _ _ O.out (AK N)⟩
       ·have t0:decide ((E:Int)<(T:Int))=false:=(by simp;omega);obtain⟨t,U⟩:∃ t,c.to[T]? = some t:=⟨_,Aq (by have:=aw.out;omega)⟩;have aN:=bt.out t (Ak U);obtain⟨z,rfl⟩:∃ z:Nat,t=z:=⟨t.toNat,by omega⟩;obtain⟨tb,tq,e5,W,al⟩:=J3.out.ir.cell U;subst e5;have ax:D.cell? ⟨tb,tq+T,none⟩=some (.int .i64 z):=(O.out.bel.cell (p:=⟨tb,tq+T,none⟩) W).trans al;have bF:tb<D.heap.size:=Az W O.out.bel.size;have tT:(T:Int)<(L:Int):=(by have:=aw.out;omega);obtain⟨R2,hI⟩:=Z.out z (by rw[bVb ae,az,show min E (c.to.length - 1)=T by have:=aw.out;omega,Ay,U];simp) (by omega);have HI:=fQ hI;clear hI U aN al W Z ay az bc hT;go_wp2;exact⟨⟨_,_,_,_,rfl,HI⟩,aW.out _ _ O.out (AK N)⟩
      have cB:(c.op == 275)=false:=(by simp[ae]);clear Z f17;obtain⟨s2,e2,dc,wd,l,aO,cC,cD⟩:=Ev.step IR.out.ev aT.out ak ad ae ah;have bd:=ak;have be:=ad;have bf:=ae;have bg:=ah;have bj:=an;have cE:=fQ (bN c bY.out);have dm:w.heap.size<=vb:=(by omega);have aA:=fQ aO;have eH:=fQ cC;have eI:=fQ cD
      have dp:MRunB { x1 with cnt:=N+1 } dc:=by
       have tb:=IR.out.b
       have hle:1+dc<=R'.cnt:=by
        by_cases dq:e2=0
        ·obtain⟨R2,_,hR,_⟩:=cC dq;rw[hR];show 1+dc<=1+dc+R2.cnt;omega
        ·rw[cD dq];exact Aj _
       exact⟨by show N+1+dc<=_;have:=tb.cnt;have:=aC.out;omega,by show x1.s.log.length+9*dc<=_;have:=tb.log;omega,tb.wle,tb.wmx,tb.wcr,tb.dle⟩
      have dr:UR D (.slice A3 nA c3) (argV C.p.env r c V):=bZp aM.out (by omega) (vV _ _ _ IR.out.v64);have bk:(argV C.p.env r c V).length=(inK C.p.env r.sig c).length:=(by rw[bx.out];unfold inK;rw[aJ.out];show nA=fi.length;have:=a7.out;have:=aD.out;omega);have CO:=fQ (bO { x1 with cnt:=N+1 } D c k (.slice pA nA pc) (.slice qA B qc) (.slice eA L ec) (.slice A3 nA c3) (argV C.p.env r c V) s2 e2 dc wd l IR.out.d IR.out.e0 bY.out ak ad ae ah an O.out IR.out.ok dp dr eu.out bk (bVd _ _) aO);clear aO cC cD dp dr bk ak ad ae ah an dk;go_wp2_with fail;refine CO.out.mono ?_;rintro en w4 ⟨v4,x4,rfl,M4,K4,ds,dt,du,dv,dw,dx,⟨A4,n4,c4,rfl⟩,dy⟩;have dz:vb<D.heap.size:=bD.out.lt;have cF:=fQ (show RL4 C x x4 w w4 vb w.heap.size g D.heap.size V l (#[G,H,.int .i64 r.places,.slice J m tc,.slice (some ⟨cb,co,none⟩) Q X]) (#[.int .i64 c.op,.int .u64 (c.n:Int),.slice pA nA pc,.slice qA B qc,.slice eA L ec]) (.slice A4 n4 c4) e2 w4 from⟨M4,bz.out.trans K4,K4.blk bD.out IR.out.vo,K4.blk ct.out IR.out.ro,K4.blk cw.out cX.out,fun e=>(dy e).1,M4.bel⟩);have aP:=fQ (K4.keep vb bD.out.lt IR.out.vo).2;have cG:=fQ (K4.keep w.heap.size ct.out.lt IR.out.ro).2;have bG:=fQ ds;have cH:=fQ dt;have dA:Hid (x4.cnt=N+1+dc/\x4.wmax=max x1.wmax (x1.wcur+wd)/\x4.wcur=x1.wcur/\x4.d=x1.d):=⟨du,dv,dw,dx⟩;clear M4 K4 ds dt du dv dw dx dy k0 k1 k2 k3 k4 yc ym CO;obtain⟨M,hM⟩:∃ M:Nat,C.p.env.imports=M:=⟨C.p.env.imports.toNat,by have:=(lV HC.out.env).2.1;omega⟩;have eJ:M<=64:=(by have:=lV HC.out.env;omega);have wM:IntKind.u64.wrap (M:Int)=(M:Int):=(by rw[IntKind.wrap_u64];omega);have bl:=fQ (show wW C.p.env c=decide (c.op=16/\M<=c.n) by unfold wW;rw[hM];congr 1;apply propext;constructor <;> (intro h;omega));have eK:=fQ hM;clear hM;go_upto_block 7 with fail;go_cut [18] (fun fk wx=>Hid (RL4 C x x4 w w4 vb w.heap.size g D.heap.size (zIf C.p.env c C.lost V) l (#[G,H,.int .i64 r.places,.slice J m tc,.slice (some ⟨cb,co,none⟩) Q X]) (#[.int .i64 c.op,.int .u64 (c.n:Int),.slice pA nA pc,.slice qA B qc,.slice eA L ec]) (.slice A4 n4 c4) e2 wx))
      case first=>
       go_wp2_with fail;go_loopw [18] (fun i wr=>∃ j:Nat,j<=P/\j<=C.lost/\(j=0\/wW C.p.env c=true)/\i = .int .i64 j/\Hid (RL4 C x x4 w w4 vb w.heap.size g D.heap.size (aJl j V) l (#[G,H,.int .i64 r.places,.slice J m tc,.slice (some ⟨cb,co,none⟩) Q X]) (#[.int .i64 c.op,.int .u64 (c.n:Int),.slice pA nA pc,.slice qA B qc,.slice eA L ec]) (.slice A4 n4 c4) e2 wr)) (fun i _=>P - (intOf i).toNat)
       case atStart=>exact⟨0,by omega,by omega,.inl rfl,rfl,by rw[dZm];exact cF⟩
       case round=>
        clear cF;obtain⟨j,hj,eL,bH,rfl,IJ⟩:=hrel;obtain⟨h1,h2,S,h4,h5,Y,h7⟩:=IJ.out;obtain⟨k0,k1,k2,k3,k4⟩:=gQ h5;obtain⟨r0,r1,r2,r3,r4⟩:=gQ h4;have yr:=h4.lt;have yc:=h5.lt;have ym:=h1.blk.lt;have yv:=S.lt;have m12:wr.cell? ⟨C.mb,12,none⟩=some (.int .i64 C.lost):=(by rw[h1.cell 12];rfl);have m1:wr.cell? ⟨C.mb,1,none⟩=some (.int .i64 M):=(by rw[h1.cell 1,<-eK.out];rfl);have fv:=frz S j;have dB:V.length=P:=(by rw[IR.out.vl,aG.out];rfl);by_cases b1:j<C.lost
        ·by_cases b2:j<P
         ·have fl:(j:Int)<P:=Int.ofNat_lt.2 b2;by_cases b3:c.op=16
          ·have eM:(c.op == 16)=true:=(by simp[b3]);by_cases b4:M<=c.n
           ·as_aux_lemma=>
            have bm:wW C.p.env c=true:=(by rw[bl.out];simp[b3,b4]);obtain⟨u,hu⟩:∃ u,wr.cell? ⟨vb,j,none⟩=some u:=(by rw[S.cell j];exact⟨_,AV (by simp[u64V,dWv (show j<=V.length by omega)];omega)⟩)
            have Z:=fQ (fun q:Nat=>show RL4 C x x4 w w4 vb w.heap.size g D.heap.size (aJl (j+1) V) l (#[G,H,.int .i64 r.places,.slice J m tc,.slice (some ⟨cb,co,none⟩) Q X]) (#[.int .i64 c.op,.int .u64 (c.n:Int),.slice pA nA pc,.slice qA B qc,.slice eA L ec]) (.slice A4 n4 c4) e2 ((wr.drewN q).setCell ⟨vb,j,none⟩ (.int .u64 0)) by
             rw[<-dZn (show j<V.length by omega)]
             exact(IJ.out.below (fK (AJ _ _) q)).put (y:=0) aP.out dm IR.out.vlo (by omega) (by omega) dz)
            clear h1 h2 S h4 h5 Y h7 IJ b3;go_wp2_with fail;go_quiet (fail);go_wp2;exact⟨⟨j+1,by omega,by omega,.inr bm,by simp,Z.out nq⟩,by simp[intOf];omega⟩
           ·as_aux_lemma=>
            have av:=fQ (show RL4 C x x4 w w4 vb w.heap.size g D.heap.size (zIf C.p.env c C.lost V) l (#[G,H,.int .i64 r.places,.slice J m tc,.slice (some ⟨cb,co,none⟩) Q X]) (#[.int .i64 c.op,.int .u64 (c.n:Int),.slice pA nA pc,.slice qA B qc,.slice eA L ec]) (.slice A4 n4 c4) e2 wr by rw[<-aYx (i:=j) (.inl ⟨by rw[bl.out];simp[b4],by rcases bH with h | h;exact h;rw[bl.out]at h;simp[b4]at h⟩)];exact IJ.out);clear h1 h2 S h4 h5 Y h7 IJ;go_wp2_with fail;go_quiet (fail);have IZ:=fQ (av.out.below (fK (AJ _ _) nq));clear av;generalize wr.drewN nq=wz at IZ ⊢;go_wp2_with fail;go_meet;exact IZ
          ·have eM:(c.op == 16)=false:=by simp[b3]
           as_aux_lemma=>
           have av:=fQ (show RL4 C x x4 w w4 vb w.heap.size g D.heap.size (zIf C.p.env c C.lost V) l (#[G,H,.int .i64 r.places,.slice J m tc,.slice (some ⟨cb,co,none⟩) Q X]) (#[.int .i64 c.op,.int .u64 (c.n:Int),.slice pA nA pc,.slice qA B qc,.slice eA L ec]) (.slice A4 n4 c4) e2 wr by rw[<-aYx (i:=j) (.inl ⟨by rw[bl.out];simp[b3],by rcases bH with h | h;exact h;rw[bl.out]at h;simp[b3]at h⟩)];exact IJ.out);clear h1 h2 S h4 h5 Y h7 IJ;go_wp2_with fail;go_quiet (fail);have IZ:=fQ (av.out.below (fK (AJ _ _) nq));clear av;generalize wr.drewN nq=wz at IZ ⊢;go_wp2_with fail;go_meet;exact IZ
         ·as_aux_lemma=>
          have av:=fQ (show RL4 C x x4 w w4 vb w.heap.size g D.heap.size (zIf C.p.env c C.lost V) l (#[G,H,.int .i64 r.places,.slice J m tc,.slice (some ⟨cb,co,none⟩) Q X]) (#[.int .i64 c.op,.int .u64 (c.n:Int),.slice pA nA pc,.slice qA B qc,.slice eA L ec]) (.slice A4 n4 c4) e2 wr by rw[<-aYx (i:=j) (by cases bm:wW C.p.env c;exact .inl ⟨rfl,by rcases bH with h | h;exact h;rw[bm]at h;cases h⟩;exact .inr ⟨rfl,by rw[dB];omega⟩)];exact IJ.out);clear h1 h2 S h4 h5 Y h7 IJ;go_wp2_with fail;go_quiet (fail);have IZ:=fQ (av.out.below (fK (AJ _ _) nq));clear av;generalize wr.drewN nq=wz at IZ ⊢;go_wp2_with fail;go_meet;exact IZ
        ·as_aux_lemma=>
         have av:=fQ (show RL4 C x x4 w w4 vb w.heap.size g D.heap.size (zIf C.p.env c C.lost V) l (#[G,H,.int .i64 r.places,.slice J m tc,.slice (some ⟨cb,co,none⟩) Q X]) (#[.int .i64 c.op,.int .u64 (c.n:Int),.slice pA nA pc,.slice qA B qc,.slice eA L ec]) (.slice A4 n4 c4) e2 wr by rw[<-aYx (i:=j) (by cases bm:wW C.p.env c;exact .inl ⟨rfl,by rcases bH with h | h;exact h;rw[bm]at h;cases h⟩;exact .inr ⟨rfl,by rw[dB];omega⟩)];exact IJ.out);clear h1 h2 S h4 h5 Y h7 IJ;go_wp2_with fail;go_quiet (fail);have IZ:=fQ (av.out.below (fK (AJ _ _) nq));clear av;generalize wr.drewN nq=wz at IZ ⊢;go_wp2_with fail;go_meet;exact IZ
      case rest=>
       have IZ:=hcut;clear hcut cF;generalize wc=wz at IZ ⊢;go_wp2_with fail;go_loopw [19] (fun i wr=>∃ j:Nat,j<=B/\(e2=0\/j=0)/\i = .int .i64 j/\Hid (RL4 C x x4 w w4 vb w.heap.size g D.heap.size (putV (c.outs.take j) (l.take j) (zIf C.p.env c C.lost V)) l (#[G,H,.int .i64 r.places,.slice J m tc,.slice (some ⟨cb,co,none⟩) Q X]) (#[.int .i64 c.op,.int .u64 (c.n:Int),.slice pA nA pc,.slice qA B qc,.slice eA L ec]) (.slice A4 n4 c4) e2 wr)) (fun i _=>B - (intOf i).toNat)
       case atStart=>exact⟨0,by omega,.inr rfl,rfl,fQ (by rw[cKw];exact IZ.out)⟩
       case round=>
        clear IZ;obtain⟨j,hj,fm,rfl,IJ⟩:=hrel;obtain⟨h1,h2,S,h4,h5,Y,h7⟩:=IJ.out;obtain⟨k0,k1,k2,k3,k4⟩:=gQ h5;have yc:=h5.lt;have ym:=h1.blk.lt;have yv:=S.lt;have dk:wr.cell? ⟨C.mb,17,none⟩=some (.int .i64 e2):=(by rw[h1.cell 17];simp[mCells,cH.out]);by_cases aq:e2=0
        ·have u0:(e2 == 0)=true:=(by simp[aq]);have u1:(e2 != 0)=false:=(by simp[aq]);by_cases ee:j<B
         ·as_aux_lemma=>
          have v1:decide ((j:Int)<B)=true:=(by simp;omega);have v2:(j:Int)<B:=(by omega);obtain⟨o,ho⟩:∃ o,c.outs[j]? = some o:=⟨_,Aq (by have:=a6.out;omega)⟩;have aR:=ed.out o (Ak ho);obtain⟨z,rfl⟩:∃ z:Nat,o=z:=⟨o.toNat,by omega⟩;have eN:=aA.out.len hp a8.out aq;obtain⟨y,hy⟩:∃ y,l[j]? = some y:=⟨_,Aq (by have:=a6.out;omega)⟩;have eO:=eXn (Y aq);have eL:j<l.length:=(List.getElem?_eq_some_iff.1 hy).1;obtain⟨og,oc,eo,fp,_,_⟩:=mW (Y aq) (by omega);injection eo with eo _ eP;subst eo;subst eP;rw[eO]at Y;have fq:wr.cell? ⟨og,j,none⟩=some (.int .u64 (y:Int)):=(by rw[(Y aq).cellAt j (by omega)];simp[u64V,hy]);have v3:(j:Int)<n4:=(by omega);have cS:z<P:=(by have:=aG.out;omega);have v4:(z:Int)<P:=(by omega);obtain⟨tb,tq,e5,W,al⟩:=J2.out.ir.cell ho;subst e5;have ax:wr.cell? ⟨tb,tq+j,none⟩=some (.int .i64 z):=(h7.cell (p:=⟨tb,tq+j,none⟩) W).trans al;have bF:tb<wr.heap.size:=Az W h7.size;obtain⟨u,hu⟩:∃ u,wr.cell? ⟨vb,z,none⟩=some u:=(by rw[S.cell z];exact⟨_,AV (by simp[u64V,aZa,cZq,IR.out.vl];have:=aG.out;omega)⟩);have fv:=frz S z
          have Z:=fQ (show RL4 C x x4 w w4 vb w.heap.size g D.heap.size (putV (c.outs.take (j+1)) (l.take (j+1)) (zIf C.p.env c C.lost V)) l (#[G,H,.int .i64 r.places,.slice J m tc,.slice (some ⟨cb,co,none⟩) Q X]) (#[.int .i64 c.op,.int .u64 (c.n:Int),.slice pA nA pc,.slice (some ⟨tb,tq,none⟩) B qc,.slice eA L ec]) (.slice (some ⟨og,0,none⟩) n4 c4) e2 (wr.setCell ⟨vb,z,none⟩ (.int .u64 (y:Int))) by
           rw[aWz _ _ _ j z y ho hy,Ad]
           exact IJ.out.put aP.out dm IR.out.vlo (by omega) (by omega) dz)
          clear h1 h2 S h4 h5 Y h7 IJ ho hy aR eN al W;go_wp2_with fail;go_region
          all_goals
           go_wp2;exact⟨⟨j+1,by omega,.inl aq,by simp,fQ (Z.out.below (hJ _))⟩,by simp[intOf];omega⟩
         ·as_aux_lemma=>
          have v1:decide ((j:Int)<B)=false:=(by simp;omega);obtain rfl:B=j:=(by omega);have e1:putV (c.outs.take B) (l.take B) (zIf C.p.env c C.lost V)=putV c.outs l (zIf C.p.env c C.lost V):=bYw _ _ _ _ (by have:=a6.out;omega);rw[e1]at S;obtain⟨R2,dC,aB,_⟩:=eH.out aq;have cI:=aA.out.ok bM IR.out.ok (vV _ _ _ IR.out.v64) cE.out;obtain⟨bI,bJ,cJ,cK⟩:=dA.out;have bn:=aQc HC.out aT.out (show((k+1:Nat):Int)∈nextOf c k by rw[xZ bd be bf bg bj];simp);have tb:=IR.out.b;have HI:=fQ (bYy (k2:=k+1) (dc:=dc) (wd:=wd) IR.out h1 h2 (by rw[bG.out];exact dC) aB (by rw[bI,aC.out]) bJ cJ cK (by rw[cH.out];exact aq) (by rw[bG.out];exact aA.out.log hp (bJr HC.out a8.out V)) (by rw[bJ];have h8:=aA.out.wd hp;have h9:=tb.wmx;have eQ:=tb.wcr;have eR:=tb.dle;have eS:=IR.out.d;rw[eS]at eQ eR;omega) S (by rw[aZa,cZq];exact IR.out.vl) (aXj _ _ _ cI.2 (eKl IR.out.v64)) aP.out h4 cG.out (by rw[bG.out];exact cI.1) bn);have HM:=fQ h1;clear h1 h2 S h4 h5 Y h7 IJ dC aB cI bn tb e1;go_wp2;exact⟨⟨_,_,_,_,rfl,HI⟩,aW.out _ _ HM.out (by rw[bI];omega)⟩
        ·as_aux_lemma=>
         have u0:(e2 == 0)=false:=(by simpa using aq);have u1:(e2 != 0)=true:=(by simpa using aq);obtain rfl:j=0:=(by omega);obtain⟨bI,bJ,cJ,cK⟩:=dA.out;have aB:=eI.out aq;have HO:=fQ (fun(v:Bj) (hv:∃ A n c,v = .slice A n c)=>bJt (v:=v) IR.out h1 h2 (by rw[aB];exact bG.out.symm) (by rw[aB];exact cH.out.symm) (by rw[aB,bI];show N+1+dc=x1.cnt+(1+dc);rw[aC.out];omega) (by rw[aB];exact bJ) cJ cK hv (fun h=>absurd (by rw[aB]at h;exact h) aq));clear h1 h2 S h4 h5 Y h7 IJ aB;by_cases fu:0<B
         ·have v1:decide (((0:Nat):Int)<B)=true:=(by simp;omega);have v2:(0:Int)<B:=(by omega);go_wp2;go_ret;exact HO.out _ ⟨_,_,_,rfl⟩
         ·have v1:decide (((0:Nat):Int)<B)=false:=(by simp;omega);obtain rfl:B=0:=(by omega);go_wp2;go_ret;exact HO.out _ ⟨_,_,_,rfl⟩
end Go.Proofs.YtabibkpfgmolkaaGreat

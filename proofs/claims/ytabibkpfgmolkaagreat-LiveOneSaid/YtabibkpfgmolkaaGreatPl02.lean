/- Lemmas for the claim, part 2. Conditions: none. -/
import Derived.Test.YtabibkpfgmolkaaGreatPl01
import Derived.Test.YtabibkpfgmolkaaGreatProg
set_option maxRecDepth 100000
set_option maxHeartbeats 16000000
set_option linter.unusedVariables false
set_option linter.unusedSimpArgs false
open Go.Lib renaming hid→fQ
open Go.Proofs.Tryz renaming prog→fZ
open Go.Proofs.Tryz
open Go.RowKit
open Nat renaming le_refl→Aj
open Go.RowKit.Below renaming refl→Aq
open Option renaming map_eq_some_iff→Ax,map_eq_none_iff→Az
open Go renaming World→Ak,Calls→Av
namespace Go.Proofs.YtabibkpfgmolkaaGreat
variable {op a k b:Int}{st:Bool}
def qY:List (Int×Int×Int×Int):=[(69,1,0,127),(70,10,1,127),(80,1,0,126),(81,10,1,126),(103,3,2,127),(106,15,3,127),(121,3,2,126),(124,15,3,126),(167,1,4,126),(172,2,5,127),(192,2,6,127),(194,3,6,126)]
def inG(op:Int)(g:Int×Int×Int×Int):Bool:=decide (g.1<=op) && decide (op - g.1<g.2.1)
def fV(op:Int):Option (Int×Int×Int×Int):=qY.find? (inG op)
def gV(g:Int×Int×Int×Int):Value:=.agg #[.int .i64 g.1,.int .i64 g.2.1,.int .i64 g.2.2.1,.int .i64 g.2.2.2]
def rQ:Array Value:=(qY.flatMap fun g=>[Value.int .i64 g.1,.int .i64 g.2.1,.int .i64 g.2.2.1,.int .i64 g.2.2.2]).toArray
theorem dKl:∀ i,i<12->∃ a b c d,qY[i]? = some (a,b,c,d)/\rQ[i*4]? = some (.int .i64 a)/\rQ[i*4+1]? = some (.int .i64 b)/\rQ[i*4+2]? = some (.int .i64 c)/\rQ[i*4+3]? = some (.int .i64 d)/\69<=a/\a<=194/\1<=b/\b<=15:=by
 intro i hi;have h:i=0\/i=1\/i=2\/i=3\/i=4\/i=5\/i=6\/i=7\/i=8\/i=9\/i=10\/i=11:=(by omega);rcases h with rfl | rfl | rfl | rfl | rfl | rfl | rfl | rfl | rfl | rfl | rfl | rfl <;> exact⟨_,_,_,_,rfl,rfl,rfl,rfl,rfl,by decide,by decide,by decide,by decide⟩
theorem oQ{k:Nat}{g:Int×Int×Int×Int}(a:∀ j,j<k->∀ g,qY[j]? = some g->inG op g=false)(hg:qY[k]? = some g)(h:inG op g=true):fV op=some g:=by
 rw[fV,List.find?_eq_some_iff_getElem];obtain⟨b,e⟩:=List.getElem?_eq_some_iff.1 hg;exact⟨h,k,b,e,fun j c=>by simp[a j c _ (List.getElem?_eq_getElem (by omega))]⟩
theorem aWy(b:∀ j,j<12->∀ g,qY[j]? = some g->inG op g=false):fV op=none:=by
 rw[fV,List.find?_eq_none];intro g hg;obtain⟨j,a,e⟩:=List.mem_iff_getElem.1 hg;simp[b j (by simpa[qY]using a) g (by rw[<-e];exact List.getElem?_eq_getElem a)]
theorem bYd(w:Ak):Av fZ 158 #[] w fun e w'=>e = .returned (.slice (some ⟨w.heap.size,0,none⟩) 12 12)/\w.alloc (.cells rQ 201)=w':=by
 go_in;go_wp2;go_ret;exact⟨rfl,rfl⟩
def dXr(w0:Ak)(G:Nat)(op:Int)(a:Nat)(i:Value)(wr:Ak):Prop:=
 ∃ k:Nat,k<=12/\i = .int .i64 k/\Hid (∀ j,j<k->∀ g,qY[j]? = some g->inG op g=false)/\Hid (Blk wr G 201 rQ)/\Hid (Blk wr a 201 #[.int .i64 0,.int .i64 0,.int .i64 0,.int .i64 0])/\Hid (Below w0.heap.size w0 wr)
theorem bWh{w wr:Ak}{G b k:Nat}{g:Int×Int×Int×Int}{o:Obj}(h:Hid (∀ j,j<k->∀ g,qY[j]? = some g->inG op g=false))(c:Hid (Blk wr G 201 rQ))(d:Hid (Blk wr b 201 #[.int .i64 0,.int .i64 0,.int .i64 0,.int .i64 0]))(f:Hid (Below w.heap.size w wr))
  (hg:qY[k]? = some g) (hn:inG op g=false) (hk:k<12):dXr w G op b (.int .i64 ((k:Int)+1)) (wr.alloc o)/\13 - (intOf (.int .i64 ((k:Int)+1))).toNat<13 - (intOf (.int .i64 (k:Int))).toNat:=by
 refine⟨⟨k+1,by omega,by simp,fQ (fun j hj x a=>?_),fQ (c.out.below ((Aq wr.heap.size _).alloc (Aj _) _) c.out.lt),fQ (d.out.below ((Aq wr.heap.size _).alloc (Aj _) _) d.out.lt),fQ (f.out.alloc f.out.size _)⟩,by simp[intOf];omega⟩;by_cases e:j=k
 ·subst e;rw[hg]at a;injection a with a;rw[<-a];exact hn
 ·exact h.out j (by omega) x a
def aZz(op:Int):Value:=match fV op with
 | none=>.tuple #[.agg #[.int .i64 0,.int .i64 0,.int .i64 0,.int .i64 0],.int .i64 0,.bool false]
 | some g=>.tuple #[gV g,.int .i64 (op - g.1),.bool true]
theorem aWh(op:Int)(w:Ak)(h1 : -9223372036854775808<=op)(h2:op<=9223372036854775807):Av fZ 148 #[.int .i64 op] w fun e w'=>e = .returned (aZz op)/\Below w.heap.size w w':=by
 go_in;go_wp2_with fail;refine(bYd _).mono ?_;rintro e w1 ⟨rfl,rfl⟩;go_wp2_with fail;have u:=fQ (show Below w.heap.size w ((w.alloc (.cells #[.int .i64 0,.int .i64 0,.int .i64 0,.int .i64 0] 201)).alloc (.cells rQ 201))from((Aq _ _).alloc (Aj _) _).alloc (by simp) _)
 have x:=fQ (show Blk ((w.alloc (.cells #[.int .i64 0,.int .i64 0,.int .i64 0,.int .i64 0] 201)).alloc (.cells rQ 201)) w.heap.size 201 #[.int .i64 0,.int .i64 0,.int .i64 0,.int .i64 0]from
  (Blk.new w 201 _).below ((Aq (w.heap.size+1) _).alloc (by simp) _) (by omega))
 have y:=fQ (show Blk ((w.alloc (.cells #[.int .i64 0,.int .i64 0,.int .i64 0,.int .i64 0] 201)).alloc (.cells rQ 201)) (w.heap.size+1) 201 rQ from by
  have:=Blk.new (w.alloc (.cells #[.int .i64 0,.int .i64 0,.int .i64 0,.int .i64 0] 201)) 201 rQ
  simpa using this)
 go_loopw [9] (fun i wr=>dXr w (w.heap.size+1) op w.heap.size i wr) (fun i _=>13 - (intOf i).toNat)
 case atStart=>exact⟨0,by omega,rfl,fQ (fun j hj=>by omega),y,x,u⟩
 case round=>
  clear u x y;obtain⟨k,hk,rfl,o,g,f,q⟩:=hrel;by_cases s:k<12
  ·have ag:decide ((k:Int)<12)=true:=(by simp;omega);obtain⟨a,b,c,d,hg,e0,z,e2,A,ak,al,an,ao⟩:=dKl k s;have c0:=(g.out.cell (k*4)).trans e0;have c1:=(g.out.cell (k*4+1)).trans z;have c2:=(g.out.cell (k*4+2)).trans e2;have c3:=(g.out.cell (k*4+3)).trans A;have t:=fQ hg;have aq:w.heap.size+1<wr.heap.size:=g.out.lt;have B:w.heap.size<wr.heap.size:=(by omega);have h:=f.out.cell 0;have l:=f.out.cell 1;have m:=f.out.cell 2;have n:=f.out.cell 3;simp at h l m n;have C:=frozen_of_row wr w.heap.size 0 _ _ f.out;have D:=frozen_of_row wr w.heap.size 1 _ _ f.out;have E:=frozen_of_row wr w.heap.size 2 _ _ f.out;have F:=frozen_of_row wr w.heap.size 3 _ _ f.out;clear e0 z e2 A hg;by_cases q1:a<=op
   ·have G:decide (a<=op)=true:=(by simpa using q1);by_cases r:op - a<b
    ·have H:decide (op - a<b)=true:=(by simpa using r);go_wp2_with fail;go_region;go_wp2;refine bodyPost_ret (v:=.tuple #[.agg #[.int .i64 a,.int .i64 b,.int .i64 c,.int .i64 d],.int .i64 (op - a),.bool true]) (by simp[results,results148,go_sem,B,h,l,m,n]) rfl ⟨?_,?_⟩
     ·rw[aZz,oQ o.out t.out (by simp[inG,q1,r])];rfl
     ·exact(((((q.out.setCell (p:=⟨w.heap.size,0,none⟩) (Aj _) _).setCell (p:=⟨w.heap.size,1,none⟩) (Aj _) _).setCell (p:=⟨w.heap.size,2,none⟩) (Aj _) _).setCell (p:=⟨w.heap.size,3,none⟩) (Aj _) _).alloc (by simp;omega) _).drew
    ·have H:decide (op - a<b)=false:=(by simpa using r);go_wp2;exact bWh o g f q t.out (by simp[inG,r]) s
   ·have G:decide (a<=op)=false:=(by simpa using q1);go_wp2;exact bWh o g f q t.out (by simp[inG,q1]) s
  ·obtain rfl:k=12:=(by omega);have h:=f.out.cell 0;have l:=f.out.cell 1;have m:=f.out.cell 2;have n:=f.out.cell 3;simp at h l m n;have C:=frozen_of_row wr w.heap.size 0 _ _ f.out;have D:=frozen_of_row wr w.heap.size 1 _ _ f.out;have E:=frozen_of_row wr w.heap.size 2 _ _ f.out;have F:=frozen_of_row wr w.heap.size 3 _ _ f.out;go_wp2;refine bodyPost_ret (v:=.tuple #[.agg #[.int .i64 0,.int .i64 0,.int .i64 0,.int .i64 0],.int .i64 0,.bool false]) (by simp[results,results148,go_sem,h,l,m,n]) rfl ⟨?_,?_⟩
   ·rw[aZz,aWy o.out]
   ·exact(((q.out.setCell (p:=⟨w.heap.size,0,none⟩) (Aj _) _).setCell (p:=⟨w.heap.size,1,none⟩) (Aj _) _).setCell (p:=⟨w.heap.size,2,none⟩) (Aj _) _).setCell (p:=⟨w.heap.size,3,none⟩) (Aj _) _
def gX(op:Int):List Int:=match fV op with
 | none=>[]
 | some (_,_,c,d)=>if c=1\/c=3 then[d,d]else[d]
def kW(op:Int):Int:=match fV op with
 | none=>0
 | some (_,_,c,d)=>if c=0\/c=1\/c=4 then 127 else if c=5 then 126 else d
def aWz(l:List Int):List Value:=l.map (Value.int .i64)
theorem aJa{c d:Int}(h:fV op=some (a,b,c,d)):(c=0\/c=1\/c=2\/c=3\/c=4\/c=5\/c=6)/\(d=126\/d=127)/\69<=a/\a<=op/\op - a<b/\b<=15/\a<=194:=by
 have e:=List.mem_of_find?_eq_some h;have hp:=List.find?_some h;have f:∀ g∈qY,(g.2.2.1=0\/g.2.2.1=1\/g.2.2.1=2\/g.2.2.1=3\/g.2.2.1=4\/g.2.2.1=5\/g.2.2.1=6)/\(g.2.2.2=126\/g.2.2.2=127)/\69<=g.1/\g.2.1<=15/\g.1<=194:=(by decide);obtain⟨h1,h2,i,j,k⟩:=f _ e;simp[inG]at hp;exact⟨h1,h2,i,hp.1,hp.2,j,k⟩
def b01(b:Bool):Int:=if b then 1 else 0
def iK(t:Int)(n:Nat):Bool:=decide (t=126\/(t=127/\n<4294967296))
theorem uZ:(fZ.info? 3).map (fun i=>(i.zero,i.size,i.bytes))=some (some (.int .i64 0),1,8):=by kernel_rfl
def oX(op:Int)(w:Ak)(e:Ending)(w':Ak):Prop:=
 ∃ A c,e = .returned (.tuple #[.slice A (gX op).length c,.int .i64 (kW op),.bool (fV op).isSome])/\w'.ownsRow w.heap.size 3 1 (.slice A (gX op).length c) (gX op).length (aWz (gX op))/\Below w.heap.size w w'
theorem bWi(op:Int)(w:Ak)(h1 : -9223372036854775808<=op)(h2:op<=9223372036854775807):Av fZ 124 #[.int .i64 op] w (oX op w):=by
 cases hg:fV op with
 | none=>
  have i:=fQ (show aZz op = .tuple #[.agg #[.int .i64 0,.int .i64 0,.int .i64 0,.int .i64 0],.int .i64 0,.bool false] by simp[aZz,hg]);have j:=fQ (show gX op = [] by simp[gX,hg]);have k:=fQ (show kW op=0 by simp[kW,hg]);have l:=fQ (show(fV op).isSome=false by simp[hg]);clear hg;go_in;go_wp2_with fail;refine(aWh op _ h1 h2).mono ?_;rintro e w1 ⟨rfl,h⟩;rw[i.out];have f:=fQ h;clear h;go_wp2;go_ret3;unfold oX;rw[j.out,k.out,l.out];exact⟨none,0,rfl,World.ownsRow_nil _ _ _ _,f.out.alloc f.out.size _⟩
 | some g=>
  obtain⟨a,b,c,d⟩:=g;have i:=fQ (show aZz op = .tuple #[.agg #[.int .i64 a,.int .i64 b,.int .i64 c,.int .i64 d],.int .i64 (op - a),.bool true] by simp[aZz,hg,gV]);have j:=fQ (show gX op=if c=1\/c=3 then[d,d]else[d] by simp[gX,hg]);have k:=fQ (show kW op=if c=0\/c=1\/c=4 then 127 else if c=5 then 126 else d by simp[kW,hg]);have l:=fQ (show(fV op).isSome=true by simp[hg]);obtain⟨hc,_,_,_,_,_,_⟩:=aJa hg;clear hg;have q:(c=1\/c=3)\/(c=0\/c=2\/c=4\/c=5\/c=6):=(by omega);clear hc;rcases q with hc | hc
  ·rcases hc with rfl | rfl
   all_goals
    go_in;go_wp2_with fail;refine(aWh op _ h1 h2).mono ?_;rintro e w1 ⟨rfl,h⟩;rw[i.out];have f:=fQ h;clear h;go_wp2_with fail;go_region;go_wp2_with (at_builtin;refine aQw _ rfl (.tmp 28) (.tmp 31) 23 rfl (w1.heap.size+1) 3 (.int .i64 0) 8 underlying23 uZ rfl (.slice (some ⟨w1.heap.size+1,0,none⟩) 1 1) 1 [.int .i64 d] rfl ?_ (some ⟨w1.heap.size+1+1,0,none⟩) 1 1 [.int .i64 d] rfl ?_ (aZg _ _) (by unfold maxLen;omega) (by omega) ?_ ?_)
    ·exact Blk.own (n:=1) (cs:=#[.int .i64 d]) (((Blk.newAt _ _ _ (by simp)).alloc _).drew) (Aj _) rfl (by unfold maxLen;omega)
    ·exact Blk.eXm (cs:=#[.int .i64 d]) (Blk.newAt _ _ _ (by simp)).drew rfl
    ·simp
    rintro v r m o;have s:=o.cell (p:=⟨w1.heap.size,2,none⟩) (by simp);simp at s;have t:=fQ (lZ m (by have:=f.out.size;omega:w.heap.size<=w1.heap.size+1));have u:=fQ (show Below w.heap.size w r from((((f.out.alloc f.out.size _).alloc (by have:=f.out.size;simp;omega) _).alloc (by have:=f.out.size;simp;omega) _).drew).trans (o.mono (by have:=f.out.size;omega)));obtain⟨A2,c2,rfl,_⟩:=gZ m;clear m o;go_wp2;go_ret3;unfold oX;rw[j.out,k.out,l.out];exact⟨_,_,rfl,t.out,u.out⟩
  ·rcases hc with rfl | rfl | rfl | rfl | rfl
   all_goals
    go_in;go_wp2_with fail;refine(aWh op _ h1 h2).mono ?_;rintro e w1 ⟨rfl,h⟩;rw[i.out];have f:=fQ h;clear h;go_wp2_with fail;go_region;go_wp2;go_ret3;unfold oX;rw[j.out,k.out,l.out];exact⟨_,_,rfl,Blk.own (n:=1) (cs:=#[.int .i64 d]) (Blk.newAt _ _ _ (by simp)).drew (by have:=f.out.size;omega) rfl (by unfold maxLen;omega),((f.out.alloc f.out.size _).alloc (by have:=f.out.size;simp;omega) _).drew⟩
theorem uJ{w:Ak}(d:Int):(w.alloc (.cells #[.int .i64 d,.int .i64 d] 3)).ownsRow w.heap.size 3 1 (.slice (some ⟨w.heap.size,0,none⟩) 1 2) 1 (aWz [d]):=
 ⟨by simp[aWz],.inr ⟨w.heap.size,2,#[.int .i64 d,.int .i64 d],rfl,Aj _,Blk.new w 3 _,by omega,by unfold maxLen;omega,by simp,by simp[aWz]⟩⟩
def inB(op a b:Int):Bool:=decide (a<=op/\op<=b)
theorem inT(h1:a<=op)(h2:op<=b):inB op a b=true:=by simp[inB,h1,h2]
theorem inF(h:op<a\/b<op):inB op a b=false:=by simp[inB];omega
theorem eqF(h:op<a\/a<op):(op == a)=false:=by simp;omega
theorem eqT(h1:a<=op)(h2:op<=a):(op == a)=true:=by simp;omega
theorem iV(op a b:Int)(w:Ak):Av fZ 140 #[.int .i64 op,.int .i64 a,.int .i64 b] w fun e w'=>e = .returned (.bool (inB op a b))/\w=w':=by
 by_cases h1:a<=op
 ·have d:decide (a<=op)=true:=(by simpa using h1);have c:=fQ (show inB op a b=decide (op<=b) by simp[inB,h1]);clear h1;go_in;go_wp2;go_ret;rw[c.out];exact⟨rfl,rfl⟩
 ·have d:decide (a<=op)=false:=(by simpa using h1);have c:=fQ (show inB op a b=false by simp[inB,h1]);clear h1;go_in;go_wp2;go_ret;rw[c.out];exact⟨rfl,rfl⟩
theorem pQ(op:Int):(fV op=none/\(op<69\/90<op)/\(op<103\/138<op)/\(op<167\/167<op)/\(op<172\/173<op)/\(op<192\/196<op))\/(fV op=some (69,1,0,127)/\69<=op/\op<=69)\/(fV op=some (70,10,1,127)/\70<=op/\op<=79)\/(fV op=some (80,1,0,126)/\80<=op/\op<=80)\/(fV op=some (81,10,1,126)/\81<=op/\op<=90)\/(fV op=some (103,3,2,127)/\103<=op/\op<=105)\/(fV op=some (106,15,3,127)/\106<=op/\op<=120)\/(fV op=some (121,3,2,126)/\121<=op/\op<=123)\/(fV op=some (124,15,3,126)/\124<=op/\op<=138)\/(fV op=some (167,1,4,126)/\167<=op/\op<=167)\/(fV op=some (172,2,5,127)/\172<=op/\op<=173)\/(fV op=some (192,2,6,127)/\192<=op/\op<=193)\/(fV op=some (194,3,6,126)/\194<=op/\op<=196):=by
 have key:∀ g:Int×Int×Int×Int,inG op g=decide (g.1<=op/\op - g.1<g.2.1):=fun g=>by simp[inG]
 by_cases d:69<=op/\op<=69
 ·refine .inr (.inl ⟨oQ (k:=0) (fun j c x a=>?_) (show qY[0]? = some (69,1,0,127)from rfl) (by rw[key];simp;omega),d.1,d.2⟩);omega
 by_cases h1:70<=op/\op<=79
 ·refine .inr (.inr (.inl ⟨oQ (k:=1) (fun j c x a=>?_) (show qY[1]? = some (70,10,1,127)from rfl) (by rw[key];simp;omega),h1.1,h1.2⟩));have b:j=0:=(by omega);rcases b with rfl <;> (injection a with a;subst a;rw[key];simp;omega)
 by_cases h2:80<=op/\op<=80
 ·refine .inr (.inr (.inr (.inl ⟨oQ (k:=2) (fun j c x a=>?_) (show qY[2]? = some (80,1,0,126)from rfl) (by rw[key];simp;omega),h2.1,h2.2⟩)));have b:j=0\/j=1:=(by omega);rcases b with rfl | rfl <;> (injection a with a;subst a;rw[key];simp;omega)
 by_cases e:81<=op/\op<=90
 ·refine .inr (.inr (.inr (.inr (.inl ⟨oQ (k:=3) (fun j c x a=>?_) (show qY[3]? = some (81,10,1,126)from rfl) (by rw[key];simp;omega),e.1,e.2⟩))));have b:j=0\/j=1\/j=2:=(by omega);rcases b with rfl | rfl | rfl <;> (injection a with a;subst a;rw[key];simp;omega)
 by_cases f:103<=op/\op<=105
 ·refine .inr (.inr (.inr (.inr (.inr (.inl ⟨oQ (k:=4) (fun j c x a=>?_) (show qY[4]? = some (103,3,2,127)from rfl) (by rw[key];simp;omega),f.1,f.2⟩)))));have b:j=0\/j=1\/j=2\/j=3:=(by omega);rcases b with rfl | rfl | rfl | rfl <;> (injection a with a;subst a;rw[key];simp;omega)
 by_cases h:106<=op/\op<=120
 ·refine .inr (.inr (.inr (.inr (.inr (.inr (.inl ⟨oQ (k:=5) (fun j c x a=>?_) (show qY[5]? = some (106,15,3,127)from rfl) (by rw[key];simp;omega),h.1,h.2⟩))))));have b:j=0\/j=1\/j=2\/j=3\/j=4:=(by omega);rcases b with rfl | rfl | rfl | rfl | rfl <;> (injection a with a;subst a;rw[key];simp;omega)
 by_cases i:121<=op/\op<=123
 ·refine .inr (.inr (.inr (.inr (.inr (.inr (.inr (.inl ⟨oQ (k:=6) (fun j c x a=>?_) (show qY[6]? = some (121,3,2,126)from rfl) (by rw[key];simp;omega),i.1,i.2⟩)))))));have b:j=0\/j=1\/j=2\/j=3\/j=4\/j=5:=(by omega);rcases b with rfl | rfl | rfl | rfl | rfl | rfl <;> (injection a with a;subst a;rw[key];simp;omega)
 by_cases l:124<=op/\op<=138
 ·refine .inr (.inr (.inr (.inr (.inr (.inr (.inr (.inr (.inl ⟨oQ (k:=7) (fun j c x a=>?_) (show qY[7]? = some (124,15,3,126)from rfl) (by rw[key];simp;omega),l.1,l.2⟩))))))));have b:j=0\/j=1\/j=2\/j=3\/j=4\/j=5\/j=6:=(by omega);rcases b with rfl | rfl | rfl | rfl | rfl | rfl | rfl <;> (injection a with a;subst a;rw[key];simp;omega)
 by_cases m:167<=op/\op<=167
 ·refine .inr (.inr (.inr (.inr (.inr (.inr (.inr (.inr (.inr (.inl ⟨oQ (k:=8) (fun j c x a=>?_) (show qY[8]? = some (167,1,4,126)from rfl) (by rw[key];simp;omega),m.1,m.2⟩)))))))));have b:j=0\/j=1\/j=2\/j=3\/j=4\/j=5\/j=6\/j=7:=(by omega);rcases b with rfl | rfl | rfl | rfl | rfl | rfl | rfl | rfl <;> (injection a with a;subst a;rw[key];simp;omega)
 by_cases n:172<=op/\op<=173
 ·refine .inr (.inr (.inr (.inr (.inr (.inr (.inr (.inr (.inr (.inr (.inl ⟨oQ (k:=9) (fun j c x a=>?_) (show qY[9]? = some (172,2,5,127)from rfl) (by rw[key];simp;omega),n.1,n.2⟩))))))))));have b:j=0\/j=1\/j=2\/j=3\/j=4\/j=5\/j=6\/j=7\/j=8:=(by omega);rcases b with rfl | rfl | rfl | rfl | rfl | rfl | rfl | rfl | rfl <;> (injection a with a;subst a;rw[key];simp;omega)
 by_cases o:192<=op/\op<=193
 ·refine .inr (.inr (.inr (.inr (.inr (.inr (.inr (.inr (.inr (.inr (.inr (.inl ⟨oQ (k:=10) (fun j c x a=>?_) (show qY[10]? = some (192,2,6,127)from rfl) (by rw[key];simp;omega),o.1,o.2⟩)))))))))));have b:j=0\/j=1\/j=2\/j=3\/j=4\/j=5\/j=6\/j=7\/j=8\/j=9:=(by omega);rcases b with rfl | rfl | rfl | rfl | rfl | rfl | rfl | rfl | rfl | rfl <;> (injection a with a;subst a;rw[key];simp;omega)
 by_cases p:194<=op/\op<=196
 ·refine .inr (.inr (.inr (.inr (.inr (.inr (.inr (.inr (.inr (.inr (.inr (.inr (⟨oQ (k:=11) (fun j c x a=>?_) (show qY[11]? = some (194,3,6,126)from rfl) (by rw[key];simp;omega),p.1,p.2⟩))))))))))));have b:j=0\/j=1\/j=2\/j=3\/j=4\/j=5\/j=6\/j=7\/j=8\/j=9\/j=10:=(by omega);rcases b with rfl | rfl | rfl | rfl | rfl | rfl | rfl | rfl | rfl | rfl | rfl <;> (injection a with a;subst a;rw[key];simp;omega)
 refine .inl ⟨aWy (fun j c x a=>?_),by omega,by omega,by omega,by omega,by omega⟩;have b:j=0\/j=1\/j=2\/j=3\/j=4\/j=5\/j=6\/j=7\/j=8\/j=9\/j=10\/j=11:=(by omega);rcases b with rfl | rfl | rfl | rfl | rfl | rfl | rfl | rfl | rfl | rfl | rfl | rfl <;> (injection a with a;subst a;rw[key];simp;omega)
def ofV(op:Int):Int:=match fV op with
 | none=>0
 | some g=>g.2.2.2
theorem sJ(op:Int)(w:Ak):Av fZ 146 #[.int .i64 op] w fun e w'=>e = .returned (.int .i64 (ofV op))/\w=w':=by
 rcases pQ op with⟨hg,b,c,o,p,q⟩ | ⟨hg,b,c⟩ | ⟨hg,b,c⟩ | ⟨hg,b,c⟩ | ⟨hg,b,c⟩ | ⟨hg,b,c⟩ | ⟨hg,b,c⟩ | ⟨hg,b,c⟩ | ⟨hg,b,c⟩ | ⟨hg,b,c⟩ | ⟨hg,b,c⟩ | ⟨hg,b,c⟩ | ⟨hg,b,c⟩
 ·have a:=fQ (show ofV op=0 by simp[ofV,hg]);have d:inB op 69 79=false:=inF (by omega);have f:inB op 103 120=false:=inF (by omega);have j:(op == 172)=false:=eqF (by omega);have k:(op == 173)=false:=eqF (by omega);have l:(op == 192)=false:=eqF (by omega);have m:(op == 193)=false:=eqF (by omega);have g:inB op 80 90=false:=inF (by omega);have h:inB op 121 138=false:=inF (by omega);have n:(op == 167)=false:=eqF (by omega);have i:inB op 194 196=false:=inF (by omega);clear hg b c o p q;go_in;go_wp2_with (go_at_call 140;refine(iV _ _ _ _).mono ?_;rintro e w1 ⟨rfl,rfl⟩);go_ret;rw[a.out];exact⟨rfl,rfl⟩
 ·have a:=fQ (show ofV op=127 by simp[ofV,hg]);have d:inB op 69 79=true:=inT (by omega) (by omega);have f:inB op 103 120=false:=inF (by omega);have j:(op == 172)=false:=eqF (by omega);have k:(op == 173)=false:=eqF (by omega);have l:(op == 192)=false:=eqF (by omega);have m:(op == 193)=false:=eqF (by omega);have g:inB op 80 90=false:=inF (by omega);have h:inB op 121 138=false:=inF (by omega);have n:(op == 167)=false:=eqF (by omega);have i:inB op 194 196=false:=inF (by omega);clear hg b c;go_in;go_wp2_with (go_at_call 140;refine(iV _ _ _ _).mono ?_;rintro e w1 ⟨rfl,rfl⟩);go_ret;rw[a.out];exact⟨rfl,rfl⟩
 ·have a:=fQ (show ofV op=127 by simp[ofV,hg]);have d:inB op 69 79=true:=inT (by omega) (by omega);have f:inB op 103 120=false:=inF (by omega);have j:(op == 172)=false:=eqF (by omega);have k:(op == 173)=false:=eqF (by omega);have l:(op == 192)=false:=eqF (by omega);have m:(op == 193)=false:=eqF (by omega);have g:inB op 80 90=false:=inF (by omega);have h:inB op 121 138=false:=inF (by omega);have n:(op == 167)=false:=eqF (by omega);have i:inB op 194 196=false:=inF (by omega);clear hg b c;go_in;go_wp2_with (go_at_call 140;refine(iV _ _ _ _).mono ?_;rintro e w1 ⟨rfl,rfl⟩);go_ret;rw[a.out];exact⟨rfl,rfl⟩
 ·have a:=fQ (show ofV op=126 by simp[ofV,hg]);have d:inB op 69 79=false:=inF (by omega);have f:inB op 103 120=false:=inF (by omega);have j:(op == 172)=false:=eqF (by omega);have k:(op == 173)=false:=eqF (by omega);have l:(op == 192)=false:=eqF (by omega);have m:(op == 193)=false:=eqF (by omega);have g:inB op 80 90=true:=inT (by omega) (by omega);have h:inB op 121 138=false:=inF (by omega);have n:(op == 167)=false:=eqF (by omega);have i:inB op 194 196=false:=inF (by omega);clear hg b c;go_in;go_wp2_with (go_at_call 140;refine(iV _ _ _ _).mono ?_;rintro e w1 ⟨rfl,rfl⟩);go_ret;rw[a.out];exact⟨rfl,rfl⟩
 ·have a:=fQ (show ofV op=126 by simp[ofV,hg]);have d:inB op 69 79=false:=inF (by omega);have f:inB op 103 120=false:=inF (by omega);have j:(op == 172)=false:=eqF (by omega);have k:(op == 173)=false:=eqF (by omega);have l:(op == 192)=false:=eqF (by omega);have m:(op == 193)=false:=eqF (by omega);have g:inB op 80 90=true:=inT (by omega) (by omega);have h:inB op 121 138=false:=inF (by omega);have n:(op == 167)=false:=eqF (by omega);have i:inB op 194 196=false:=inF (by omega);clear hg b c;go_in;go_wp2_with (go_at_call 140;refine(iV _ _ _ _).mono ?_;rintro e w1 ⟨rfl,rfl⟩);go_ret;rw[a.out];exact⟨rfl,rfl⟩
 ·have a:=fQ (show ofV op=127 by simp[ofV,hg]);have d:inB op 69 79=false:=inF (by omega);have f:inB op 103 120=true:=inT (by omega) (by omega);have j:(op == 172)=false:=eqF (by omega);have k:(op == 173)=false:=eqF (by omega);have l:(op == 192)=false:=eqF (by omega);have m:(op == 193)=false:=eqF (by omega);have g:inB op 80 90=false:=inF (by omega);have h:inB op 121 138=false:=inF (by omega);have n:(op == 167)=false:=eqF (by omega);have i:inB op 194 196=false:=inF (by omega);clear hg b c;go_in;go_wp2_with (go_at_call 140;refine(iV _ _ _ _).mono ?_;rintro e w1 ⟨rfl,rfl⟩);go_ret;rw[a.out];exact⟨rfl,rfl⟩
 ·have a:=fQ (show ofV op=127 by simp[ofV,hg]);have d:inB op 69 79=false:=inF (by omega);have f:inB op 103 120=true:=inT (by omega) (by omega);have j:(op == 172)=false:=eqF (by omega);have k:(op == 173)=false:=eqF (by omega);have l:(op == 192)=false:=eqF (by omega);have m:(op == 193)=false:=eqF (by omega);have g:inB op 80 90=false:=inF (by omega);have h:inB op 121 138=false:=inF (by omega);have n:(op == 167)=false:=eqF (by omega);have i:inB op 194 196=false:=inF (by omega);clear hg b c;go_in;go_wp2_with (go_at_call 140;refine(iV _ _ _ _).mono ?_;rintro e w1 ⟨rfl,rfl⟩);go_ret;rw[a.out];exact⟨rfl,rfl⟩
 ·have a:=fQ (show ofV op=126 by simp[ofV,hg]);have d:inB op 69 79=false:=inF (by omega);have f:inB op 103 120=false:=inF (by omega);have j:(op == 172)=false:=eqF (by omega);have k:(op == 173)=false:=eqF (by omega);have l:(op == 192)=false:=eqF (by omega);have m:(op == 193)=false:=eqF (by omega);have g:inB op 80 90=false:=inF (by omega);have h:inB op 121 138=true:=inT (by omega) (by omega);have n:(op == 167)=false:=eqF (by omega);have i:inB op 194 196=false:=inF (by omega);clear hg b c;go_in;go_wp2_with (go_at_call 140;refine(iV _ _ _ _).mono ?_;rintro e w1 ⟨rfl,rfl⟩);go_ret;rw[a.out];exact⟨rfl,rfl⟩
 ·have a:=fQ (show ofV op=126 by simp[ofV,hg]);have d:inB op 69 79=false:=inF (by omega);have f:inB op 103 120=false:=inF (by omega);have j:(op == 172)=false:=eqF (by omega);have k:(op == 173)=false:=eqF (by omega);have l:(op == 192)=false:=eqF (by omega);have m:(op == 193)=false:=eqF (by omega);have g:inB op 80 90=false:=inF (by omega);have h:inB op 121 138=true:=inT (by omega) (by omega);have n:(op == 167)=false:=eqF (by omega);have i:inB op 194 196=false:=inF (by omega);clear hg b c;go_in;go_wp2_with (go_at_call 140;refine(iV _ _ _ _).mono ?_;rintro e w1 ⟨rfl,rfl⟩);go_ret;rw[a.out];exact⟨rfl,rfl⟩
 ·have a:=fQ (show ofV op=126 by simp[ofV,hg]);have d:inB op 69 79=false:=inF (by omega);have f:inB op 103 120=false:=inF (by omega);have j:(op == 172)=false:=eqF (by omega);have k:(op == 173)=false:=eqF (by omega);have l:(op == 192)=false:=eqF (by omega);have m:(op == 193)=false:=eqF (by omega);have g:inB op 80 90=false:=inF (by omega);have h:inB op 121 138=false:=inF (by omega);have n:(op == 167)=true:=eqT (by omega) (by omega);have i:inB op 194 196=false:=inF (by omega);clear hg b c;go_in;go_wp2_with (go_at_call 140;refine(iV _ _ _ _).mono ?_;rintro e w1 ⟨rfl,rfl⟩);go_ret;rw[a.out];exact⟨rfl,rfl⟩
 ·rcases(show op=172\/op=173 by omega)with rfl | rfl
  ·have a:=fQ (show ofV 172=127 by simp[ofV,hg]);clear hg b c;have d:inB 172 69 79=false:=(by decide);have f:inB 172 103 120=false:=(by decide);have g:inB 172 80 90=false:=(by decide);have h:inB 172 121 138=false:=(by decide);have i:inB 172 194 196=false:=(by decide);go_in;go_wp2_with (go_at_call 140;refine(iV _ _ _ _).mono ?_;rintro e w1 ⟨rfl,rfl⟩);go_ret;rw[a.out];exact⟨rfl,rfl⟩
  ·have a:=fQ (show ofV 173=127 by simp[ofV,hg]);clear hg b c;have d:inB 173 69 79=false:=(by decide);have f:inB 173 103 120=false:=(by decide);have g:inB 173 80 90=false:=(by decide);have h:inB 173 121 138=false:=(by decide);have i:inB 173 194 196=false:=(by decide);go_in;go_wp2_with (go_at_call 140;refine(iV _ _ _ _).mono ?_;rintro e w1 ⟨rfl,rfl⟩);go_ret;rw[a.out];exact⟨rfl,rfl⟩
 ·rcases(show op=192\/op=193 by omega)with rfl | rfl
  ·have a:=fQ (show ofV 192=127 by simp[ofV,hg]);clear hg b c;have d:inB 192 69 79=false:=(by decide);have f:inB 192 103 120=false:=(by decide);have g:inB 192 80 90=false:=(by decide);have h:inB 192 121 138=false:=(by decide);have i:inB 192 194 196=false:=(by decide);go_in;go_wp2_with (go_at_call 140;refine(iV _ _ _ _).mono ?_;rintro e w1 ⟨rfl,rfl⟩);go_ret;rw[a.out];exact⟨rfl,rfl⟩
  ·have a:=fQ (show ofV 193=127 by simp[ofV,hg]);clear hg b c;have d:inB 193 69 79=false:=(by decide);have f:inB 193 103 120=false:=(by decide);have g:inB 193 80 90=false:=(by decide);have h:inB 193 121 138=false:=(by decide);have i:inB 193 194 196=false:=(by decide);go_in;go_wp2_with (go_at_call 140;refine(iV _ _ _ _).mono ?_;rintro e w1 ⟨rfl,rfl⟩);go_ret;rw[a.out];exact⟨rfl,rfl⟩
 ·have a:=fQ (show ofV op=126 by simp[ofV,hg]);have d:inB op 69 79=false:=inF (by omega);have f:inB op 103 120=false:=inF (by omega);have j:(op == 172)=false:=eqF (by omega);have k:(op == 173)=false:=eqF (by omega);have l:(op == 192)=false:=eqF (by omega);have m:(op == 193)=false:=eqF (by omega);have g:inB op 80 90=false:=inF (by omega);have h:inB op 121 138=false:=inF (by omega);have n:(op == 167)=false:=eqF (by omega);have i:inB op 194 196=true:=inT (by omega) (by omega);clear hg b c;go_in;go_wp2_with (go_at_call 140;refine(iV _ _ _ _).mono ?_;rintro e w1 ⟨rfl,rfl⟩);go_ret;rw[a.out];exact⟨rfl,rfl⟩
def unB(op:Int):Bool:=match fV op with
 | none=>false
 | some g=>decide (g.2.2.1≠1/\g.2.2.1≠3)
theorem pX(op:Int)(w:Ak)(hs:fV op≠none):Av fZ 147 #[.int .i64 op] w fun e w'=>e = .returned (.bool (unB op))/\w=w':=by
 rcases pQ op with⟨hg,a,b,z3,z4,z5⟩ | ⟨hg,a,b⟩ | ⟨hg,a,b⟩ | ⟨hg,a,b⟩ | ⟨hg,a,b⟩ | ⟨hg,a,b⟩ | ⟨hg,a,b⟩ | ⟨hg,a,b⟩ | ⟨hg,a,b⟩ | ⟨hg,a,b⟩ | ⟨hg,a,b⟩ | ⟨hg,a,b⟩ | ⟨hg,a,b⟩
 ·exact absurd hg hs
 ·have c:=fQ (show unB op=true by simp[unB,hg]);have d:(op == 69)=true:=eqT (by omega) (by omega);have f:(op == 80)=false:=eqF (by omega);have g:inB op 103 105=false:=inF (by omega);have h:inB op 121 123=false:=inF (by omega);have i:decide (167<=op)=false:=(by simp;omega);clear hs hg a b;go_in;go_wp2_with (go_at_call 140;refine(iV _ _ _ _).mono ?_;rintro e w1 ⟨rfl,rfl⟩);go_ret;rw[c.out];exact⟨rfl,rfl⟩
 ·have c:=fQ (show unB op=false by simp[unB,hg]);have d:(op == 69)=false:=eqF (by omega);have f:(op == 80)=false:=eqF (by omega);have g:inB op 103 105=false:=inF (by omega);have h:inB op 121 123=false:=inF (by omega);have i:decide (167<=op)=false:=(by simp;omega);clear hs hg a b;go_in;go_wp2_with (go_at_call 140;refine(iV _ _ _ _).mono ?_;rintro e w1 ⟨rfl,rfl⟩);go_ret;rw[c.out];exact⟨rfl,rfl⟩
 ·have c:=fQ (show unB op=true by simp[unB,hg]);have d:(op == 69)=false:=eqF (by omega);have f:(op == 80)=true:=eqT (by omega) (by omega);have g:inB op 103 105=false:=inF (by omega);have h:inB op 121 123=false:=inF (by omega);have i:decide (167<=op)=false:=(by simp;omega);clear hs hg a b;go_in;go_wp2_with (go_at_call 140;refine(iV _ _ _ _).mono ?_;rintro e w1 ⟨rfl,rfl⟩);go_ret;rw[c.out];exact⟨rfl,rfl⟩
 ·have c:=fQ (show unB op=false by simp[unB,hg]);have d:(op == 69)=false:=eqF (by omega);have f:(op == 80)=false:=eqF (by omega);have g:inB op 103 105=false:=inF (by omega);have h:inB op 121 123=false:=inF (by omega);have i:decide (167<=op)=false:=(by simp;omega);clear hs hg a b;go_in;go_wp2_with (go_at_call 140;refine(iV _ _ _ _).mono ?_;rintro e w1 ⟨rfl,rfl⟩);go_ret;rw[c.out];exact⟨rfl,rfl⟩
 ·have c:=fQ (show unB op=true by simp[unB,hg]);have d:(op == 69)=false:=eqF (by omega);have f:(op == 80)=false:=eqF (by omega);have g:inB op 103 105=true:=inT (by omega) (by omega);have h:inB op 121 123=false:=inF (by omega);have i:decide (167<=op)=false:=(by simp;omega);clear hs hg a b;go_in;go_wp2_with (go_at_call 140;refine(iV _ _ _ _).mono ?_;rintro e w1 ⟨rfl,rfl⟩);go_ret;rw[c.out];exact⟨rfl,rfl⟩
 ·have c:=fQ (show unB op=false by simp[unB,hg]);have d:(op == 69)=false:=eqF (by omega);have f:(op == 80)=false:=eqF (by omega);have g:inB op 103 105=false:=inF (by omega);have h:inB op 121 123=false:=inF (by omega);have i:decide (167<=op)=false:=(by simp;omega);clear hs hg a b;go_in;go_wp2_with (go_at_call 140;refine(iV _ _ _ _).mono ?_;rintro e w1 ⟨rfl,rfl⟩);go_ret;rw[c.out];exact⟨rfl,rfl⟩
 ·have c:=fQ (show unB op=true by simp[unB,hg]);have d:(op == 69)=false:=eqF (by omega);have f:(op == 80)=false:=eqF (by omega);have g:inB op 103 105=false:=inF (by omega);have h:inB op 121 123=true:=inT (by omega) (by omega);have i:decide (167<=op)=false:=(by simp;omega);clear hs hg a b;go_in;go_wp2_with (go_at_call 140;refine(iV _ _ _ _).mono ?_;rintro e w1 ⟨rfl,rfl⟩);go_ret;rw[c.out];exact⟨rfl,rfl⟩
 ·have c:=fQ (show unB op=false by simp[unB,hg]);have d:(op == 69)=false:=eqF (by omega);have f:(op == 80)=false:=eqF (by omega);have g:inB op 103 105=false:=inF (by omega);have h:inB op 121 123=false:=inF (by omega);have i:decide (167<=op)=false:=(by simp;omega);clear hs hg a b;go_in;go_wp2_with (go_at_call 140;refine(iV _ _ _ _).mono ?_;rintro e w1 ⟨rfl,rfl⟩);go_ret;rw[c.out];exact⟨rfl,rfl⟩
 ·have c:=fQ (show unB op=true by simp[unB,hg]);have d:(op == 69)=false:=eqF (by omega);have f:(op == 80)=false:=eqF (by omega);have g:inB op 103 105=false:=inF (by omega);have h:inB op 121 123=false:=inF (by omega);have i:decide (167<=op)=true:=(by simp;omega);clear hs hg a b;go_in;go_wp2_with (go_at_call 140;refine(iV _ _ _ _).mono ?_;rintro e w1 ⟨rfl,rfl⟩);go_ret;rw[c.out];exact⟨rfl,rfl⟩
 ·have c:=fQ (show unB op=true by simp[unB,hg]);have d:(op == 69)=false:=eqF (by omega);have f:(op == 80)=false:=eqF (by omega);have g:inB op 103 105=false:=inF (by omega);have h:inB op 121 123=false:=inF (by omega);have i:decide (167<=op)=true:=(by simp;omega);clear hs hg a b;go_in;go_wp2_with (go_at_call 140;refine(iV _ _ _ _).mono ?_;rintro e w1 ⟨rfl,rfl⟩);go_ret;rw[c.out];exact⟨rfl,rfl⟩
 ·have c:=fQ (show unB op=true by simp[unB,hg]);have d:(op == 69)=false:=eqF (by omega);have f:(op == 80)=false:=eqF (by omega);have g:inB op 103 105=false:=inF (by omega);have h:inB op 121 123=false:=inF (by omega);have i:decide (167<=op)=true:=(by simp;omega);clear hs hg a b;go_in;go_wp2_with (go_at_call 140;refine(iV _ _ _ _).mono ?_;rintro e w1 ⟨rfl,rfl⟩);go_ret;rw[c.out];exact⟨rfl,rfl⟩
 ·have c:=fQ (show unB op=true by simp[unB,hg]);have d:(op == 69)=false:=eqF (by omega);have f:(op == 80)=false:=eqF (by omega);have g:inB op 103 105=false:=inF (by omega);have h:inB op 121 123=false:=inF (by omega);have i:decide (167<=op)=true:=(by simp;omega);clear hs hg a b;go_in;go_wp2_with (go_at_call 140;refine(iV _ _ _ _).mono ?_;rintro e w1 ⟨rfl,rfl⟩);go_ret;rw[c.out];exact⟨rfl,rfl⟩
theorem jJ(op:Int)(w:Ak):Av fZ 122 #[.int .i64 op] w (oX op w):=by
 rcases pQ op with⟨hg,f,g,o,p,q⟩ | ⟨hg,f,g⟩ | ⟨hg,f,g⟩ | ⟨hg,f,g⟩ | ⟨hg,f,g⟩ | ⟨hg,f,g⟩ | ⟨hg,f,g⟩ | ⟨hg,f,g⟩ | ⟨hg,f,g⟩ | ⟨hg,f,g⟩ | ⟨hg,f,g⟩ | ⟨hg,f,g⟩ | ⟨hg,f,g⟩
 ·have a:=fQ (show ofV op=0 by simp[ofV,hg]);have b:=fQ (show gX op = [] by simp[gX,hg]);have c:=fQ (show kW op=0 by simp[kW,hg]);have d:=fQ (show(fV op).isSome=false by simp[hg]);clear hg f g o p q;go_in;go_wp2_with fail;refine(sJ op _).mono ?_;rintro e w1 ⟨rfl,rfl⟩;rw[a.out];go_wp2;go_ret3;unfold oX;rw[b.out,c.out,d.out];exact⟨none,0,rfl,World.ownsRow_nil _ _ _ _,Aq _ _⟩
 ·have a:=fQ (show ofV op=127 by simp[ofV,hg]);have h:=fQ (show unB op=true by simp[unB,hg]);have b:=fQ (show gX op = [127] by simp[gX,hg]);have c:=fQ (show kW op=127 by simp[kW,hg]);have d:=fQ (show(fV op).isSome=true by simp[hg]);have i:=fQ (show fV op≠none by simp[hg]);have j:inB op 69 90=true:=inT (by omega) (by omega);have k:(op == 167)=false:=eqF (by omega);have l:(op == 172)=false:=eqF (by omega);have m:(op == 173)=false:=eqF (by omega);clear hg f g;go_in;go_wp2_with fail;refine(sJ op _).mono ?_;rintro e w1 ⟨rfl,rfl⟩;rw[a.out];go_wp2_with fail;refine(pX op _ i.out).mono ?_;rintro e w1 ⟨rfl,rfl⟩;rw[h.out];go_wp2_with (go_at_call 140;refine(iV _ _ _ _).mono ?_;rintro e w1 ⟨rfl,rfl⟩);go_ret3;unfold oX;rw[b.out,c.out,d.out];exact⟨_,_,rfl,uJ 127,(Aq _ _).alloc (Aj _) _⟩
 ·have a:=fQ (show ofV op=127 by simp[ofV,hg]);have h:=fQ (show unB op=false by simp[unB,hg]);have b:=fQ (show gX op = [127,127] by simp[gX,hg]);have c:=fQ (show kW op=127 by simp[kW,hg]);have d:=fQ (show(fV op).isSome=true by simp[hg]);have i:=fQ (show fV op≠none by simp[hg]);have j:inB op 69 90=true:=inT (by omega) (by omega);have k:(op == 167)=false:=eqF (by omega);have l:(op == 172)=false:=eqF (by omega);have m:(op == 173)=false:=eqF (by omega);clear hg f g;go_in;go_wp2_with fail;refine(sJ op _).mono ?_;rintro e w1 ⟨rfl,rfl⟩;rw[a.out];go_wp2_with fail;refine(pX op _ i.out).mono ?_;rintro e w1 ⟨rfl,rfl⟩;rw[h.out];go_wp2_with (go_at_call 140;refine(iV _ _ _ _).mono ?_;rintro e w1 ⟨rfl,rfl⟩);go_ret3;unfold oX;rw[b.out,c.out,d.out];exact⟨_,_,rfl,Blk.own (n:=2) (cs:=#[.int .i64 127,.int .i64 127]) (Blk.newAt _ _ _ rfl) (Aj _) rfl (by unfold maxLen;omega),(Aq _ _).alloc (Aj _) _⟩
 ·have a:=fQ (show ofV op=126 by simp[ofV,hg]);have h:=fQ (show unB op=true by simp[unB,hg]);have b:=fQ (show gX op = [126] by simp[gX,hg]);have c:=fQ (show kW op=127 by simp[kW,hg]);have d:=fQ (show(fV op).isSome=true by simp[hg]);have i:=fQ (show fV op≠none by simp[hg]);have j:inB op 69 90=true:=inT (by omega) (by omega);have k:(op == 167)=false:=eqF (by omega);have l:(op == 172)=false:=eqF (by omega);have m:(op == 173)=false:=eqF (by omega);clear hg f g;go_in;go_wp2_with fail;refine(sJ op _).mono ?_;rintro e w1 ⟨rfl,rfl⟩;rw[a.out];go_wp2_with fail;refine(pX op _ i.out).mono ?_;rintro e w1 ⟨rfl,rfl⟩;rw[h.out];go_wp2_with (go_at_call 140;refine(iV _ _ _ _).mono ?_;rintro e w1 ⟨rfl,rfl⟩);go_ret3;unfold oX;rw[b.out,c.out,d.out];exact⟨_,_,rfl,uJ 126,(Aq _ _).alloc (Aj _) _⟩
 ·have a:=fQ (show ofV op=126 by simp[ofV,hg]);have h:=fQ (show unB op=false by simp[unB,hg]);have b:=fQ (show gX op = [126,126] by simp[gX,hg]);have c:=fQ (show kW op=127 by simp[kW,hg]);have d:=fQ (show(fV op).isSome=true by simp[hg]);have i:=fQ (show fV op≠none by simp[hg]);have j:inB op 69 90=true:=inT (by omega) (by omega);have k:(op == 167)=false:=eqF (by omega);have l:(op == 172)=false:=eqF (by omega);have m:(op == 173)=false:=eqF (by omega);clear hg f g;go_in;go_wp2_with fail;refine(sJ op _).mono ?_;rintro e w1 ⟨rfl,rfl⟩;rw[a.out];go_wp2_with fail;refine(pX op _ i.out).mono ?_;rintro e w1 ⟨rfl,rfl⟩;rw[h.out];go_wp2_with (go_at_call 140;refine(iV _ _ _ _).mono ?_;rintro e w1 ⟨rfl,rfl⟩);go_ret3;unfold oX;rw[b.out,c.out,d.out];exact⟨_,_,rfl,Blk.own (n:=2) (cs:=#[.int .i64 126,.int .i64 126]) (Blk.newAt _ _ _ rfl) (Aj _) rfl (by unfold maxLen;omega),(Aq _ _).alloc (Aj _) _⟩
 ·have a:=fQ (show ofV op=127 by simp[ofV,hg]);have h:=fQ (show unB op=true by simp[unB,hg]);have b:=fQ (show gX op = [127] by simp[gX,hg]);have c:=fQ (show kW op=127 by simp[kW,hg]);have d:=fQ (show(fV op).isSome=true by simp[hg]);have i:=fQ (show fV op≠none by simp[hg]);have j:inB op 69 90=false:=inF (by omega);have k:(op == 167)=false:=eqF (by omega);have l:(op == 172)=false:=eqF (by omega);have m:(op == 173)=false:=eqF (by omega);clear hg f g;go_in;go_wp2_with fail;refine(sJ op _).mono ?_;rintro e w1 ⟨rfl,rfl⟩;rw[a.out];go_wp2_with fail;refine(pX op _ i.out).mono ?_;rintro e w1 ⟨rfl,rfl⟩;rw[h.out];go_wp2_with (go_at_call 140;refine(iV _ _ _ _).mono ?_;rintro e w1 ⟨rfl,rfl⟩);go_ret3;unfold oX;rw[b.out,c.out,d.out];exact⟨_,_,rfl,uJ 127,(Aq _ _).alloc (Aj _) _⟩
 ·have a:=fQ (show ofV op=127 by simp[ofV,hg]);have h:=fQ (show unB op=false by simp[unB,hg]);have b:=fQ (show gX op = [127,127] by simp[gX,hg]);have c:=fQ (show kW op=127 by simp[kW,hg]);have d:=fQ (show(fV op).isSome=true by simp[hg]);have i:=fQ (show fV op≠none by simp[hg]);have j:inB op 69 90=false:=inF (by omega);have k:(op == 167)=false:=eqF (by omega);have l:(op == 172)=false:=eqF (by omega);have m:(op == 173)=false:=eqF (by omega);clear hg f g;go_in;go_wp2_with fail;refine(sJ op _).mono ?_;rintro e w1 ⟨rfl,rfl⟩;rw[a.out];go_wp2_with fail;refine(pX op _ i.out).mono ?_;rintro e w1 ⟨rfl,rfl⟩;rw[h.out];go_wp2_with (go_at_call 140;refine(iV _ _ _ _).mono ?_;rintro e w1 ⟨rfl,rfl⟩);go_ret3;unfold oX;rw[b.out,c.out,d.out];exact⟨_,_,rfl,Blk.own (n:=2) (cs:=#[.int .i64 127,.int .i64 127]) (Blk.newAt _ _ _ rfl) (Aj _) rfl (by unfold maxLen;omega),(Aq _ _).alloc (Aj _) _⟩
 ·have a:=fQ (show ofV op=126 by simp[ofV,hg]);have h:=fQ (show unB op=true by simp[unB,hg]);have b:=fQ (show gX op = [126] by simp[gX,hg]);have c:=fQ (show kW op=126 by simp[kW,hg]);have d:=fQ (show(fV op).isSome=true by simp[hg]);have i:=fQ (show fV op≠none by simp[hg]);have j:inB op 69 90=false:=inF (by omega);have k:(op == 167)=false:=eqF (by omega);have l:(op == 172)=false:=eqF (by omega);have m:(op == 173)=false:=eqF (by omega);clear hg f g;go_in;go_wp2_with fail;refine(sJ op _).mono ?_;rintro e w1 ⟨rfl,rfl⟩;rw[a.out];go_wp2_with fail;refine(pX op _ i.out).mono ?_;rintro e w1 ⟨rfl,rfl⟩;rw[h.out];go_wp2_with (go_at_call 140;refine(iV _ _ _ _).mono ?_;rintro e w1 ⟨rfl,rfl⟩);go_ret3;unfold oX;rw[b.out,c.out,d.out];exact⟨_,_,rfl,uJ 126,(Aq _ _).alloc (Aj _) _⟩
 ·have a:=fQ (show ofV op=126 by simp[ofV,hg]);have h:=fQ (show unB op=false by simp[unB,hg]);have b:=fQ (show gX op = [126,126] by simp[gX,hg]);have c:=fQ (show kW op=126 by simp[kW,hg]);have d:=fQ (show(fV op).isSome=true by simp[hg]);have i:=fQ (show fV op≠none by simp[hg]);have j:inB op 69 90=false:=inF (by omega);have k:(op == 167)=false:=eqF (by omega);have l:(op == 172)=false:=eqF (by omega);have m:(op == 173)=false:=eqF (by omega);clear hg f g;go_in;go_wp2_with fail;refine(sJ op _).mono ?_;rintro e w1 ⟨rfl,rfl⟩;rw[a.out];go_wp2_with fail;refine(pX op _ i.out).mono ?_;rintro e w1 ⟨rfl,rfl⟩;rw[h.out];go_wp2_with (go_at_call 140;refine(iV _ _ _ _).mono ?_;rintro e w1 ⟨rfl,rfl⟩);go_ret3;unfold oX;rw[b.out,c.out,d.out];exact⟨_,_,rfl,Blk.own (n:=2) (cs:=#[.int .i64 126,.int .i64 126]) (Blk.newAt _ _ _ rfl) (Aj _) rfl (by unfold maxLen;omega),(Aq _ _).alloc (Aj _) _⟩
 ·have a:=fQ (show ofV op=126 by simp[ofV,hg]);have h:=fQ (show unB op=true by simp[unB,hg]);have b:=fQ (show gX op = [126] by simp[gX,hg]);have c:=fQ (show kW op=127 by simp[kW,hg]);have d:=fQ (show(fV op).isSome=true by simp[hg]);have i:=fQ (show fV op≠none by simp[hg]);have j:inB op 69 90=false:=inF (by omega);have k:(op == 167)=true:=eqT (by omega) (by omega);have l:(op == 172)=false:=eqF (by omega);have m:(op == 173)=false:=eqF (by omega);clear hg f g;go_in;go_wp2_with fail;refine(sJ op _).mono ?_;rintro e w1 ⟨rfl,rfl⟩;rw[a.out];go_wp2_with fail;refine(pX op _ i.out).mono ?_;rintro e w1 ⟨rfl,rfl⟩;rw[h.out];go_wp2_with (go_at_call 140;refine(iV _ _ _ _).mono ?_;rintro e w1 ⟨rfl,rfl⟩);go_ret3;unfold oX;rw[b.out,c.out,d.out];exact⟨_,_,rfl,uJ 126,(Aq _ _).alloc (Aj _) _⟩
 ·rcases(show op=172\/op=173 by omega)with rfl | rfl
  ·have a:=fQ (show ofV 172=127 by simp[ofV,hg]);have h:=fQ (show unB 172=true by simp[unB,hg]);have b:=fQ (show gX 172 = [127] by simp[gX,hg]);have c:=fQ (show kW 172=126 by simp[kW,hg]);have d:=fQ (show(fV 172).isSome=true by simp[hg]);have i:=fQ (show fV 172≠none by simp[hg]);have j:inB 172 69 90=false:=(by decide);clear hg f g;go_in;go_wp2_with fail;refine(sJ 172 _).mono ?_;rintro e w1 ⟨rfl,rfl⟩;rw[a.out];go_wp2_with fail;refine(pX 172 _ i.out).mono ?_;rintro e w1 ⟨rfl,rfl⟩;rw[h.out];go_wp2_with (go_at_call 140;refine(iV _ _ _ _).mono ?_;rintro e w1 ⟨rfl,rfl⟩);go_ret3;unfold oX;rw[b.out,c.out,d.out];exact⟨_,_,rfl,uJ 127,(Aq _ _).alloc (Aj _) _⟩
  ·have a:=fQ (show ofV 173=127 by simp[ofV,hg]);have h:=fQ (show unB 173=true by simp[unB,hg]);have b:=fQ (show gX 173 = [127] by simp[gX,hg]);have c:=fQ (show kW 173=126 by simp[kW,hg]);have d:=fQ (show(fV 173).isSome=true by simp[hg]);have i:=fQ (show fV 173≠none by simp[hg]);have j:inB 173 69 90=false:=(by decide);clear hg f g;go_in;go_wp2_with fail;refine(sJ 173 _).mono ?_;rintro e w1 ⟨rfl,rfl⟩;rw[a.out];go_wp2_with fail;refine(pX 173 _ i.out).mono ?_;rintro e w1 ⟨rfl,rfl⟩;rw[h.out];go_wp2_with (go_at_call 140;refine(iV _ _ _ _).mono ?_;rintro e w1 ⟨rfl,rfl⟩);go_ret3;unfold oX;rw[b.out,c.out,d.out];exact⟨_,_,rfl,uJ 127,(Aq _ _).alloc (Aj _) _⟩
 ·have a:=fQ (show ofV op=127 by simp[ofV,hg]);have h:=fQ (show unB op=true by simp[unB,hg]);have b:=fQ (show gX op = [127] by simp[gX,hg]);have c:=fQ (show kW op=127 by simp[kW,hg]);have d:=fQ (show(fV op).isSome=true by simp[hg]);have i:=fQ (show fV op≠none by simp[hg]);have j:inB op 69 90=false:=inF (by omega);have k:(op == 167)=false:=eqF (by omega);have l:(op == 172)=false:=eqF (by omega);have m:(op == 173)=false:=eqF (by omega);clear hg f g;go_in;go_wp2_with fail;refine(sJ op _).mono ?_;rintro e w1 ⟨rfl,rfl⟩;rw[a.out];go_wp2_with fail;refine(pX op _ i.out).mono ?_;rintro e w1 ⟨rfl,rfl⟩;rw[h.out];go_wp2_with (go_at_call 140;refine(iV _ _ _ _).mono ?_;rintro e w1 ⟨rfl,rfl⟩);go_ret3;unfold oX;rw[b.out,c.out,d.out];exact⟨_,_,rfl,uJ 127,(Aq _ _).alloc (Aj _) _⟩
 ·have a:=fQ (show ofV op=126 by simp[ofV,hg]);have h:=fQ (show unB op=true by simp[unB,hg]);have b:=fQ (show gX op = [126] by simp[gX,hg]);have c:=fQ (show kW op=126 by simp[kW,hg]);have d:=fQ (show(fV op).isSome=true by simp[hg]);have i:=fQ (show fV op≠none by simp[hg]);have j:inB op 69 90=false:=inF (by omega);have k:(op == 167)=false:=eqF (by omega);have l:(op == 172)=false:=eqF (by omega);have m:(op == 173)=false:=eqF (by omega);clear hg f g;go_in;go_wp2_with fail;refine(sJ op _).mono ?_;rintro e w1 ⟨rfl,rfl⟩;rw[a.out];go_wp2_with fail;refine(pX op _ i.out).mono ?_;rintro e w1 ⟨rfl,rfl⟩;rw[h.out];go_wp2_with (go_at_call 140;refine(iV _ _ _ _).mono ?_;rintro e w1 ⟨rfl,rfl⟩);go_ret3;unfold oX;rw[b.out,c.out,d.out];exact⟨_,_,rfl,uJ 126,(Aq _ _).alloc (Aj _) _⟩
def bJg(k w:Int)(st a:Bool):Value:=.agg #[.int .i64 k,.int .i64 w,.bool st,.bool a]
def aXv:List (Int×Int×Int×Bool×Bool):=[
 (40,127,4,false,false),
 (41,126,8,false,false),
 (44,127,1,false,true),
 (45,127,1,false,false),
 (46,127,2,false,true),
 (47,127,2,false,false),
 (48,126,1,false,true),
 (49,126,1,false,false),
 (50,126,2,false,true),
 (51,126,2,false,false),
 (52,126,4,false,true),
 (53,126,4,false,false),
 (54,127,4,true,false),
 (55,126,8,true,false),
 (58,127,1,true,false),
 (59,127,2,true,false),
 (60,126,1,true,false),
 (61,126,2,true,false),
 (62,126,4,true,false)]
def nK:List (Int×Value):=aXv.map fun r=>(r.1,bJg r.2.1 r.2.2.1 r.2.2.2.1 r.2.2.2.2)
def acc(op:Int):Option (Int×Int×Bool×Bool):=(aXv.find? fun r=>decide (op=r.1)).map (·.2)
theorem aJz(op:Int):∀ (l:List (Int×Int×Int×Bool×Bool)) (j:Nat),
  (kY op (l.map fun r=>(r.1,bJg r.2.1 r.2.2.1 r.2.2.2.1 r.2.2.2.2)) j).map (·.2)=(l.find? fun r=>decide (op=r.1)).map fun r=>bJg r.2.1 r.2.2.1 r.2.2.2.1 r.2.2.2.2
 | [],_=>rfl
 | r :: l,j=>by
  simp only[List.map_cons,kY,List.find?_cons];by_cases h:op=r.1
  ·simp[h]
  ·simp only[if_neg h,decide_eq_false h];exact aJz op l (j+1)
theorem bYe(h:acc op=none):kY op nK 0=none:=by
 have h1:=aJz op aXv 0;unfold acc at h;rw[Az]at h;rw[h,Option.map_none,Az]at h1;exact h1
theorem cXg{wd:Int}{a:Bool}(h:acc op=some (k,wd,st,a)):∃ j,kY op nK 0=some (j,bJg k wd st a):=by
 have h1:=aJz op aXv 0;unfold acc at h;rw[Ax]at h;obtain⟨r,b,c⟩:=h;rw[b,Option.map_some,Ax]at h1;obtain⟨p,hp,he⟩:=h1;refine⟨p.1,?_⟩;rw[c]at he;show kY op (aXv.map _) 0=_;rw[hp,<-he]
theorem nZ{wd:Int}{b:Bool}(h:acc op=some (k,wd,st,b)):(k=127\/k=126)/\(wd=1\/wd=2\/wd=4\/wd=8)/\40<=op/\op<=62:=by
 unfold acc at h;rw[Ax]at h;obtain⟨r,a,c⟩:=h;have d:=List.mem_of_find?_eq_some a;have hp:=List.find?_some a;have e:∀ r∈aXv,(r.2.1=127\/r.2.1=126)/\(r.2.2.1=1\/r.2.2.1=2\/r.2.2.1=4\/r.2.2.1=8)/\40<=r.1/\r.1<=62:=(by decide);have:=e r d;rw[c]at this;simp at hp;rw[hp];exact this
def mQ(i:Nat):Obj:=lit (nK.take i)
theorem eQo(W:Ak):(Instr.mapUpdate 216 (.map (some W.heap.size)) (.int .i64 40) (.agg #[.int .i64 127,.int .i64 4,.bool false,.bool false])).run fZ (W.alloc (mQ 0)) = .ok () (W.alloc (mQ 1)):=
 jX W 216 3 214 (nK.take 0) 40 _ underlying216 underlying3 (by decide +kernel)
theorem eQp(W:Ak):(Instr.mapUpdate 216 (.map (some W.heap.size)) (.int .i64 41) (.agg #[.int .i64 126,.int .i64 8,.bool false,.bool false])).run fZ (W.alloc (mQ 1)) = .ok () (W.alloc (mQ 2)):=
 jX W 216 3 214 (nK.take 1) 41 _ underlying216 underlying3 (by decide +kernel)
theorem eQq(W:Ak):(Instr.mapUpdate 216 (.map (some W.heap.size)) (.int .i64 44) (.agg #[.int .i64 127,.int .i64 1,.bool false,.bool true])).run fZ (W.alloc (mQ 2)) = .ok () (W.alloc (mQ 3)):=
 jX W 216 3 214 (nK.take 2) 44 _ underlying216 underlying3 (by decide +kernel)
theorem eQr(W:Ak):(Instr.mapUpdate 216 (.map (some W.heap.size)) (.int .i64 45) (.agg #[.int .i64 127,.int .i64 1,.bool false,.bool false])).run fZ (W.alloc (mQ 3)) = .ok () (W.alloc (mQ 4)):=
 jX W 216 3 214 (nK.take 3) 45 _ underlying216 underlying3 (by decide +kernel)
theorem eQs(W:Ak):(Instr.mapUpdate 216 (.map (some W.heap.size)) (.int .i64 46) (.agg #[.int .i64 127,.int .i64 2,.bool false,.bool true])).run fZ (W.alloc (mQ 4)) = .ok () (W.alloc (mQ 5)):=
 jX W 216 3 214 (nK.take 4) 46 _ underlying216 underlying3 (by decide +kernel)
theorem eQt(W:Ak):(Instr.mapUpdate 216 (.map (some W.heap.size)) (.int .i64 47) (.agg #[.int .i64 127,.int .i64 2,.bool false,.bool false])).run fZ (W.alloc (mQ 5)) = .ok () (W.alloc (mQ 6)):=
 jX W 216 3 214 (nK.take 5) 47 _ underlying216 underlying3 (by decide +kernel)
theorem eQu(W:Ak):(Instr.mapUpdate 216 (.map (some W.heap.size)) (.int .i64 48) (.agg #[.int .i64 126,.int .i64 1,.bool false,.bool true])).run fZ (W.alloc (mQ 6)) = .ok () (W.alloc (mQ 7)):=
 jX W 216 3 214 (nK.take 6) 48 _ underlying216 underlying3 (by decide +kernel)
theorem eQv(W:Ak):(Instr.mapUpdate 216 (.map (some W.heap.size)) (.int .i64 49) (.agg #[.int .i64 126,.int .i64 1,.bool false,.bool false])).run fZ (W.alloc (mQ 7)) = .ok () (W.alloc (mQ 8)):=
 jX W 216 3 214 (nK.take 7) 49 _ underlying216 underlying3 (by decide +kernel)
theorem eQw(W:Ak):(Instr.mapUpdate 216 (.map (some W.heap.size)) (.int .i64 50) (.agg #[.int .i64 126,.int .i64 2,.bool false,.bool true])).run fZ (W.alloc (mQ 8)) = .ok () (W.alloc (mQ 9)):=
 jX W 216 3 214 (nK.take 8) 50 _ underlying216 underlying3 (by decide +kernel)
theorem eQx(W:Ak):(Instr.mapUpdate 216 (.map (some W.heap.size)) (.int .i64 51) (.agg #[.int .i64 126,.int .i64 2,.bool false,.bool false])).run fZ (W.alloc (mQ 9)) = .ok () (W.alloc (mQ 10)):=
 jX W 216 3 214 (nK.take 9) 51 _ underlying216 underlying3 (by decide +kernel)
theorem dYn(W:Ak):(Instr.mapUpdate 216 (.map (some W.heap.size)) (.int .i64 52) (.agg #[.int .i64 126,.int .i64 4,.bool false,.bool true])).run fZ (W.alloc (mQ 10)) = .ok () (W.alloc (mQ 11)):=
 jX W 216 3 214 (nK.take 10) 52 _ underlying216 underlying3 (by decide +kernel)
theorem dYo(W:Ak):(Instr.mapUpdate 216 (.map (some W.heap.size)) (.int .i64 53) (.agg #[.int .i64 126,.int .i64 4,.bool false,.bool false])).run fZ (W.alloc (mQ 11)) = .ok () (W.alloc (mQ 12)):=
 jX W 216 3 214 (nK.take 11) 53 _ underlying216 underlying3 (by decide +kernel)
theorem dYp(W:Ak):(Instr.mapUpdate 216 (.map (some W.heap.size)) (.int .i64 54) (.agg #[.int .i64 127,.int .i64 4,.bool true,.bool false])).run fZ (W.alloc (mQ 12)) = .ok () (W.alloc (mQ 13)):=
 jX W 216 3 214 (nK.take 12) 54 _ underlying216 underlying3 (by decide +kernel)
theorem dYq(W:Ak):(Instr.mapUpdate 216 (.map (some W.heap.size)) (.int .i64 55) (.agg #[.int .i64 126,.int .i64 8,.bool true,.bool false])).run fZ (W.alloc (mQ 13)) = .ok () (W.alloc (mQ 14)):=
 jX W 216 3 214 (nK.take 13) 55 _ underlying216 underlying3 (by decide +kernel)
theorem dYr(W:Ak):(Instr.mapUpdate 216 (.map (some W.heap.size)) (.int .i64 58) (.agg #[.int .i64 127,.int .i64 1,.bool true,.bool false])).run fZ (W.alloc (mQ 14)) = .ok () (W.alloc (mQ 15)):=
 jX W 216 3 214 (nK.take 14) 58 _ underlying216 underlying3 (by decide +kernel)
theorem dYs(W:Ak):(Instr.mapUpdate 216 (.map (some W.heap.size)) (.int .i64 59) (.agg #[.int .i64 127,.int .i64 2,.bool true,.bool false])).run fZ (W.alloc (mQ 15)) = .ok () (W.alloc (mQ 16)):=
 jX W 216 3 214 (nK.take 15) 59 _ underlying216 underlying3 (by decide +kernel)
theorem dYt(W:Ak):(Instr.mapUpdate 216 (.map (some W.heap.size)) (.int .i64 60) (.agg #[.int .i64 126,.int .i64 1,.bool true,.bool false])).run fZ (W.alloc (mQ 16)) = .ok () (W.alloc (mQ 17)):=
 jX W 216 3 214 (nK.take 16) 60 _ underlying216 underlying3 (by decide +kernel)
theorem dYu(W:Ak):(Instr.mapUpdate 216 (.map (some W.heap.size)) (.int .i64 61) (.agg #[.int .i64 126,.int .i64 2,.bool true,.bool false])).run fZ (W.alloc (mQ 17)) = .ok () (W.alloc (mQ 18)):=
 jX W 216 3 214 (nK.take 17) 61 _ underlying216 underlying3 (by decide +kernel)
theorem dYv(W:Ak):(Instr.mapUpdate 216 (.map (some W.heap.size)) (.int .i64 62) (.agg #[.int .i64 126,.int .i64 4,.bool true,.bool false])).run fZ (W.alloc (mQ 18)) = .ok () (W.alloc (mQ 19)):=
 jX W 216 3 214 (nK.take 18) 62 _ underlying216 underlying3 (by decide +kernel)
theorem aKa(w:Ak):Av fZ 159 #[] w fun e w'=>e = .returned (.map (some w.heap.size))/\w.alloc (mQ 19)=w':=by
 have aa:∀ (t:TypeId) (w:Ak),(Instr.makeMap t none).run fZ w = .ok (.map (some w.heap.size)) (w.alloc (mQ 0)):=fun _ _=>rfl;have i0:=eQo;have i1:=eQp;have i2:=eQq;have i3:=eQr;have i4:=eQs;have i5:=eQt;have i6:=eQu;have i7:=eQv;have i8:=eQw;have i9:=eQx;have ab:=dYn;have ad:=dYo;have i12:=dYp;have ae:=dYq;have af:=dYr;have ag:=dYs;have i16:=dYt;have ah:=dYu;have ai:=dYv;go_in;go_wp2;go_ret;exact⟨rfl,rfl⟩
theorem bWj(w:Ak):(zeroValue 214).run fZ w = .ok (bJg 0 0 false false) w:=by kernel_rfl
theorem cXh(h:acc op=none)(W:Ak):(Instr.lookup 216 (.map (some W.heap.size)) (.int .i64 op) true).run fZ (W.alloc (mQ 19)) = .ok (.tuple #[.agg #[.int .i64 0,.int .i64 0,.bool false,.bool false],.bool false]) (W.alloc (mQ 19)):=by
 have:=aZi (P:=fZ) W 216 3 214 _ (nK.take 19) op underlying216 underlying3 bWj;rw[show nK.take 19=nK from rfl,bYe h]at this;exact this
theorem cXi{wd:Int}{a:Bool}(h:acc op=some (k,wd,st,a))(W:Ak):(Instr.lookup 216 (.map (some W.heap.size)) (.int .i64 op) true).run fZ (W.alloc (mQ 19)) = .ok (.tuple #[.agg #[.int .i64 k,.int .i64 wd,.bool st,.bool a],.bool true]) (W.alloc (mQ 19)):=by
 have:=aZi (P:=fZ) W 216 3 214 _ (nK.take 19) op underlying216 underlying3 bWj;obtain⟨j,b⟩:=cXg h;rw[show nK.take 19=nK from rfl,b]at this;exact this
def fJ(op:Int):Value:=match acc op with
 | some (k,wd,st,_)=>.tuple #[.int .i64 k,.int .i64 wd,.bool st,.bool true]
 | none=>.tuple #[.int .i64 0,.int .i64 0,.bool false,.bool false]
theorem jZ{fn:Func}{t u v x:Tmp}(h:fn.results=#[.tmp t,.tmp u,.tmp v,.tmp x])(tmps:Array Value)(P:Program)(w:Ak):
  (results fn tmps).run P w = .ok (.tuple #[tmps.getD t undef,tmps.getD u undef,tmps.getD v undef,tmps.getD x undef]) w:=by simp[results,h]
theorem wJ(op:Int)(w:Ak):Av fZ 149 #[.int .i64 op] w fun e w'=>e = .returned (fJ op)/\Below w.heap.size w w':=by
 have hb:Below w.heap.size w (w.alloc (mQ 19)):=(Aq _ _).alloc (Aj _) _
 cases h:acc op with
 | none=>
  have a:=fQ (show fJ op = .tuple #[.int .i64 0,.int .i64 0,.bool false,.bool false] by simp[fJ,h]);have b:=cXh h;clear h;go_in;go_wp2_with fail;refine(aKa _).mono ?_;rintro e w1 ⟨rfl,rfl⟩;go_wp2_with fail;go_quiet (fail);go_wp2;refine bodyPost_ret (jZ rfl _ _ _) rfl ⟨?_,?_⟩
  ·rw[a.out];rfl
  ·exact fK (hb.alloc (by simp) _) _
 | some r=>
  obtain⟨k,wd,st,sg⟩:=r;have a:=fQ (show fJ op = .tuple #[.int .i64 k,.int .i64 wd,.bool st,.bool true] by simp[fJ,h]);have b:=cXi h;clear h;go_in;go_wp2_with fail;refine(aKa _).mono ?_;rintro e w1 ⟨rfl,rfl⟩;go_wp2_with fail;go_quiet (fail);go_wp2;refine bodyPost_ret (jZ rfl _ _ _) rfl ⟨?_,?_⟩
  ·rw[a.out];rfl
  ·exact fK (hb.alloc (by simp) _) _
theorem cXj:acc 40=some (127,4,false,false):=by kernel_rfl
theorem cXk:acc 41=some (126,8,false,false):=by kernel_rfl
theorem cXl:acc 44=some (127,1,false,true):=by kernel_rfl
theorem cXm:acc 45=some (127,1,false,false):=by kernel_rfl
theorem cXn:acc 46=some (127,2,false,true):=by kernel_rfl
theorem cXo:acc 47=some (127,2,false,false):=by kernel_rfl
theorem cXp:acc 48=some (126,1,false,true):=by kernel_rfl
theorem cXq:acc 49=some (126,1,false,false):=by kernel_rfl
theorem cXr:acc 50=some (126,2,false,true):=by kernel_rfl
theorem cXs:acc 51=some (126,2,false,false):=by kernel_rfl
theorem cXt:acc 52=some (126,4,false,true):=by kernel_rfl
theorem cXu:acc 53=some (126,4,false,false):=by kernel_rfl
theorem cXv:acc 54=some (127,4,true,false):=by kernel_rfl
theorem cXw:acc 55=some (126,8,true,false):=by kernel_rfl
theorem cXx:acc 58=some (127,1,true,false):=by kernel_rfl
theorem cXy:acc 59=some (127,2,true,false):=by kernel_rfl
theorem cXz:acc 60=some (126,1,true,false):=by kernel_rfl
theorem cZa:acc 61=some (126,2,true,false):=by kernel_rfl
theorem cZb:acc 62=some (126,4,true,false):=by kernel_rfl
theorem bXf{Q:Int->Prop}(t:Q 40)(u:Q 41)(v:Q 44)(w:Q 45)(x:Q 46)(y:Q 47)(z:Q 48)(A:Q 49)(B:Q 50)(C:Q 51)(D:Q 52)(E:Q 53)(F:Q 54)(G:Q 55)(H:Q 58)(I:Q 59)(J:Q 60)(K:Q 61)(L:Q 62)(hn:∀ op,(op == 40)=false->(op == 41)=false->(op == 44)=false->(op == 45)=false->(op == 46)=false->(op == 47)=false->(op == 48)=false->(op == 49)=false->(op == 50)=false->(op == 51)=false->(op == 52)=false->(op == 53)=false->(op == 54)=false->(op == 55)=false->(op == 58)=false->(op == 59)=false->(op == 60)=false->(op == 61)=false->(op == 62)=false->Q op)(op:Int):Q op:=by
 by_cases a:op=40
 ·subst a;exact t
 by_cases b:op=41
 ·subst b;exact u
 by_cases c:op=44
 ·subst c;exact v
 by_cases d:op=45
 ·subst d;exact w
 by_cases e:op=46
 ·subst e;exact x
 by_cases f:op=47
 ·subst f;exact y
 by_cases g:op=48
 ·subst g;exact z
 by_cases h:op=49
 ·subst h;exact A
 by_cases i:op=50
 ·subst i;exact B
 by_cases j:op=51
 ·subst j;exact C
 by_cases k:op=52
 ·subst k;exact D
 by_cases l:op=53
 ·subst l;exact E
 by_cases m:op=54
 ·subst m;exact F
 by_cases n:op=55
 ·subst n;exact G
 by_cases o:op=58
 ·subst o;exact H
 by_cases p:op=59
 ·subst p;exact I
 by_cases q:op=60
 ·subst q;exact J
 by_cases r:op=61
 ·subst r;exact K
 by_cases s:op=62
 ·subst s;exact L
 exact hn op (beq_false_of_ne a) (beq_false_of_ne b) (beq_false_of_ne c) (beq_false_of_ne d) (beq_false_of_ne e) (beq_false_of_ne f) (beq_false_of_ne g) (beq_false_of_ne h) (beq_false_of_ne i) (beq_false_of_ne j) (beq_false_of_ne k) (beq_false_of_ne l) (beq_false_of_ne m) (beq_false_of_ne n) (beq_false_of_ne o) (beq_false_of_ne p) (beq_false_of_ne q) (beq_false_of_ne r) (beq_false_of_ne s)
theorem bWk(aa:(op == 40)=false)(ab:(op == 41)=false)(ad:(op == 44)=false)(ae:(op == 45)=false)(af:(op == 46)=false)(ag:(op == 47)=false)(ah:(op == 48)=false)(ai:(op == 49)=false)(aj:(op == 50)=false)(ak:(op == 51)=false)(al:(op == 52)=false)(an:(op == 53)=false)(ao:(op == 54)=false)(aq:(op == 55)=false)(ar:(op == 58)=false)(au:(op == 59)=false)(av:(op == 60)=false)(aw:(op == 61)=false)(ax:(op == 62)=false):acc op=none:=by
 simp only[beq_eq_false_iff_ne,ne_eq]at *;simp[acc,aXv, *]
theorem cZc(w:Ak):Av fZ 116 #[.int .i64 40] w fun e w'=>e = .returned (.tuple #[.int .i64 127,.int .i64 4,.bool false,.bool true])/\w=w':=by
 go_in;go_wp2;refine bodyPost_ret (jZ rfl _ _ _) rfl ⟨rfl,rfl⟩
theorem cZd(w:Ak):Av fZ 116 #[.int .i64 41] w fun e w'=>e = .returned (.tuple #[.int .i64 126,.int .i64 8,.bool false,.bool true])/\w=w':=by
 go_in;go_wp2;refine bodyPost_ret (jZ rfl _ _ _) rfl ⟨rfl,rfl⟩
theorem cZe(w:Ak):Av fZ 116 #[.int .i64 44] w fun e w'=>e = .returned (.tuple #[.int .i64 127,.int .i64 1,.bool false,.bool true])/\w=w':=by
 go_in;go_wp2;refine bodyPost_ret (jZ rfl _ _ _) rfl ⟨rfl,rfl⟩
theorem cZf(w:Ak):Av fZ 116 #[.int .i64 45] w fun e w'=>e = .returned (.tuple #[.int .i64 127,.int .i64 1,.bool false,.bool true])/\w=w':=by
 go_in;go_wp2;refine bodyPost_ret (jZ rfl _ _ _) rfl ⟨rfl,rfl⟩
theorem cZg(w:Ak):Av fZ 116 #[.int .i64 46] w fun e w'=>e = .returned (.tuple #[.int .i64 127,.int .i64 2,.bool false,.bool true])/\w=w':=by
 go_in;go_wp2;refine bodyPost_ret (jZ rfl _ _ _) rfl ⟨rfl,rfl⟩
theorem cZh(w:Ak):Av fZ 116 #[.int .i64 47] w fun e w'=>e = .returned (.tuple #[.int .i64 127,.int .i64 2,.bool false,.bool true])/\w=w':=by
 go_in;go_wp2;refine bodyPost_ret (jZ rfl _ _ _) rfl ⟨rfl,rfl⟩
theorem cZi(w:Ak):Av fZ 116 #[.int .i64 48] w fun e w'=>e = .returned (.tuple #[.int .i64 126,.int .i64 1,.bool false,.bool true])/\w=w':=by
 go_in;go_wp2;refine bodyPost_ret (jZ rfl _ _ _) rfl ⟨rfl,rfl⟩
theorem cZj(w:Ak):Av fZ 116 #[.int .i64 49] w fun e w'=>e = .returned (.tuple #[.int .i64 126,.int .i64 1,.bool false,.bool true])/\w=w':=by
 go_in;go_wp2;refine bodyPost_ret (jZ rfl _ _ _) rfl ⟨rfl,rfl⟩
theorem cZk(w:Ak):Av fZ 116 #[.int .i64 50] w fun e w'=>e = .returned (.tuple #[.int .i64 126,.int .i64 2,.bool false,.bool true])/\w=w':=by
 go_in;go_wp2;refine bodyPost_ret (jZ rfl _ _ _) rfl ⟨rfl,rfl⟩
theorem cZl(w:Ak):Av fZ 116 #[.int .i64 51] w fun e w'=>e = .returned (.tuple #[.int .i64 126,.int .i64 2,.bool false,.bool true])/\w=w':=by
 go_in;go_wp2;refine bodyPost_ret (jZ rfl _ _ _) rfl ⟨rfl,rfl⟩
theorem cZm(w:Ak):Av fZ 116 #[.int .i64 52] w fun e w'=>e = .returned (.tuple #[.int .i64 126,.int .i64 4,.bool false,.bool true])/\w=w':=by
 go_in;go_wp2;refine bodyPost_ret (jZ rfl _ _ _) rfl ⟨rfl,rfl⟩
theorem cZn(w:Ak):Av fZ 116 #[.int .i64 53] w fun e w'=>e = .returned (.tuple #[.int .i64 126,.int .i64 4,.bool false,.bool true])/\w=w':=by
 go_in;go_wp2;refine bodyPost_ret (jZ rfl _ _ _) rfl ⟨rfl,rfl⟩
theorem cZo(w:Ak):Av fZ 116 #[.int .i64 54] w fun e w'=>e = .returned (.tuple #[.int .i64 127,.int .i64 4,.bool true,.bool true])/\w=w':=by
 go_in;go_wp2;refine bodyPost_ret (jZ rfl _ _ _) rfl ⟨rfl,rfl⟩
theorem cZp(w:Ak):Av fZ 116 #[.int .i64 55] w fun e w'=>e = .returned (.tuple #[.int .i64 126,.int .i64 8,.bool true,.bool true])/\w=w':=by
 go_in;go_wp2;refine bodyPost_ret (jZ rfl _ _ _) rfl ⟨rfl,rfl⟩
theorem cZq(w:Ak):Av fZ 116 #[.int .i64 58] w fun e w'=>e = .returned (.tuple #[.int .i64 127,.int .i64 1,.bool true,.bool true])/\w=w':=by
 go_in;go_wp2;refine bodyPost_ret (jZ rfl _ _ _) rfl ⟨rfl,rfl⟩
theorem cZr(w:Ak):Av fZ 116 #[.int .i64 59] w fun e w'=>e = .returned (.tuple #[.int .i64 127,.int .i64 2,.bool true,.bool true])/\w=w':=by
 go_in;go_wp2;refine bodyPost_ret (jZ rfl _ _ _) rfl ⟨rfl,rfl⟩
theorem cZs(w:Ak):Av fZ 116 #[.int .i64 60] w fun e w'=>e = .returned (.tuple #[.int .i64 126,.int .i64 1,.bool true,.bool true])/\w=w':=by
 go_in;go_wp2;refine bodyPost_ret (jZ rfl _ _ _) rfl ⟨rfl,rfl⟩
theorem cZt(w:Ak):Av fZ 116 #[.int .i64 61] w fun e w'=>e = .returned (.tuple #[.int .i64 126,.int .i64 2,.bool true,.bool true])/\w=w':=by
 go_in;go_wp2;refine bodyPost_ret (jZ rfl _ _ _) rfl ⟨rfl,rfl⟩
theorem cZu(w:Ak):Av fZ 116 #[.int .i64 62] w fun e w'=>e = .returned (.tuple #[.int .i64 126,.int .i64 4,.bool true,.bool true])/\w=w':=by
 go_in;go_wp2;refine bodyPost_ret (jZ rfl _ _ _) rfl ⟨rfl,rfl⟩
theorem bYf(w:Ak)(aa:(op == 40)=false)(ab:(op == 41)=false)(ad:(op == 44)=false)(ae:(op == 45)=false)(af:(op == 46)=false)(ag:(op == 47)=false)(ah:(op == 48)=false)(ai:(op == 49)=false)(aj:(op == 50)=false)(ak:(op == 51)=false)(al:(op == 52)=false)(an:(op == 53)=false)(ao:(op == 54)=false)(aq:(op == 55)=false)(ar:(op == 58)=false)(au:(op == 59)=false)(av:(op == 60)=false)(aw:(op == 61)=false)(ax:(op == 62)=false):Av fZ 116 #[.int .i64 op] w fun e w'=>e = .returned (.tuple #[.int .i64 0,.int .i64 0,.bool false,.bool false])/\w=w':=by
 go_in;go_wp2;refine bodyPost_ret (jZ rfl _ _ _) rfl ⟨rfl,rfl⟩
theorem fY(op:Int)(w:Ak):Av fZ 116 #[.int .i64 op] w fun e w'=>e = .returned (fJ op)/\w=w':=by
 revert op
 refine bXf (by rw[fJ,cXj];exact cZc w) (by rw[fJ,cXk];exact cZd w) (by rw[fJ,cXl];exact cZe w) (by rw[fJ,cXm];exact cZf w) (by rw[fJ,cXn];exact cZg w) (by rw[fJ,cXo];exact cZh w) (by rw[fJ,cXp];exact cZi w) (by rw[fJ,cXq];exact cZj w) (by rw[fJ,cXr];exact cZk w) (by rw[fJ,cXs];exact cZl w) (by rw[fJ,cXt];exact cZm w) (by rw[fJ,cXu];exact cZn w) (by rw[fJ,cXv];exact cZo w) (by rw[fJ,cXw];exact cZp w) (by rw[fJ,cXx];exact cZq w) (by rw[fJ,cXy];exact cZr w) (by rw[fJ,cXz];exact cZs w) (by rw[fJ,cZa];exact cZt w) (by rw[fJ,cZb];exact cZu w) ?_;intro op a b c d f g h i j k l m n o p q r s t;rw[fJ,bWk a b c d f g h i j k l m n o p q r s t];exact bYf w a b c d f g h i j k l m n o p q r s t
def sgn(op:Int):Bool:=match acc op with
 | some (_,_,_,a)=>a
 | none=>false
theorem bYg{wd:Int}{a:Bool}(h:acc op=some (k,wd,st,a))(w:Ak):Av fZ 137 #[.int .i64 op] w fun e w'=>e = .returned (.bool a)/\w=w':=by
 have key:∀ op:Int,sgn op=(op == 44 || (op == 46 || (op == 48 || (op == 50 || op == 52)))):=by
  refine bXf (by rw[sgn,cXj];rfl) (by rw[sgn,cXk];rfl) (by rw[sgn,cXl];rfl) (by rw[sgn,cXm];rfl) (by rw[sgn,cXn];rfl) (by rw[sgn,cXo];rfl) (by rw[sgn,cXp];rfl) (by rw[sgn,cXq];rfl) (by rw[sgn,cXr];rfl) (by rw[sgn,cXs];rfl) (by rw[sgn,cXt];rfl) (by rw[sgn,cXu];rfl) (by rw[sgn,cXv];rfl) (by rw[sgn,cXw];rfl) (by rw[sgn,cXx];rfl) (by rw[sgn,cXy];rfl) (by rw[sgn,cXz];rfl) (by rw[sgn,cZa];rfl) (by rw[sgn,cZb];rfl) ?_;intro op i j b l c m d n f o g p q r s t u v x;rw[sgn,bWk i j b l c m d n f o g p q r s t u v x,b,c,d,f,g];rfl
 have y:=fQ (show a=(op == 44 || (op == 46 || (op == 48 || (op == 50 || op == 52)))) by rw[<-key op,sgn,h]);clear h key;go_in;go_wp2
 all_goals go_ret
 all_goals refine⟨?_,rfl⟩
 all_goals rw[y.out]
 all_goals (simp_all [Bool.or_assoc])
end Go.Proofs.YtabibkpfgmolkaaGreat

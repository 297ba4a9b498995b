/- Lemmas for the claim, part 11. Conditions: none. -/
import Derived.Test.YtabibkpfgmolkaaGreatDoorPm10
import Derived.LaidMore
import Derived.OpenShut
import Derived.ProofKit
import Derived.Stop.Joined
import Derived.Test.YtabibkpfgmolkaaGreatDoorRows
set_option maxRecDepth 100000
set_option maxHeartbeats 16000000
set_option linter.unusedVariables false
set_option linter.unusedSimpArgs false
open Go.Proofs.Tryz renaming prog→fZ
open Go.Proofs.Tryz
open Go.RowKit
open List renaming getElem?_eq_getElem→Aj,length_map→Ax,getElem?_eq_none→Az,getElem?_map→Ak
open Nat renaming zero_lt_succ→Aq,mul_one→Av
namespace Go.Proofs.YtabibkpfgmolkaaGreatDoor
theorem xX{a:List Nat}{n k:Nat}(h:a.length=n)(hk:k<n):∃ x,a[k]? = some x:=⟨_,Aj (by omega)⟩
theorem dXe(C:MaC)(x:MaS)(w:World)(r:RowD)(c:CodeD)(l cb m va:Value)(a:List Nat)(h:MRef C x w)(ha:UR w va a)(T:∀ k,va.ownBlock=some k->¬MOwn C x k)(t:StOk C.p.env x.s)(U:codeOk C.p.env r c=true)(V:a.length=(inK C.p.env r.sig c).length)
  (G:c.op≠16) (h1:c.op≠273) (h2:c.op≠274) (W:c.op≠275) (O:c.op≠276) (X:c.op≠277) :
  Calls fZ 87 #[.pointer (some ⟨C.mb,0,none⟩),.agg #[.int .i64 c.op,.int .u64 (c.n:Int),l,cb,m],va] w (oZ C x c a w):=by
 obtain⟨op,b,Y,Z,K3⟩:=c;simp only at G h1 h2 W O X;have post:∀ en w',oZ C x ⟨op,b,[],[],[]⟩ a w en w'->oZ C x ⟨op,b,Y,Z,K3⟩ a w en w':=fun en w' h=>h;refine Calls.mono ?_ post;obtain⟨i,o,hf,_⟩:=iQ U;have hf:iJ C.p.env r.sig op b=some (i,o):=hf
 have v:a.length=i.length:=by
  rw[V];unfold inK;show((iJ C.p.env r.sig op b).getD ([],[])).1.length=_;rw[hf];rfl
 have P:=(show All64 a by obtain⟨A,Q,e,_,_,_,_,ay⟩:=ha;exact ay);have g64:∀ {k y:Nat},a[k]? = some y->y<18446744073709551616:=fun h=>P _ (List.mem_of_getElem? h);have B:=t.fQj;by_cases H:op=256
 ·subst H;exact dQy C x w b l cb m va a [] h ha
 by_cases I:op=272
 ·subst I;have hf:(if b=0 then some (([0]:List Int),([0]:List Int))else none)=some (i,o):=hf
  split at hf
  ·cases hf;obtain⟨f,j⟩:=xX v (k:=0) (by decide);exact dVq C x w b l cb m va a [] h ha f j
  ·cases hf
 by_cases R:op=258
 ·subst R;by_cases az:x.s.fuel=0
  ·exact dQz C x w b l cb m va a [] h ha az
  ·exact dXa C x w b l cb m va a [] h ha _ rfl (by omega) t.fuel
 by_cases J:op=27
 ·subst J;have hf:(if b=0 then some (([0,0,127]:List Int),([0]:List Int))else none)=some (i,o):=hf
  split at hf
  ·cases hf;obtain⟨f,j⟩:=xX v (k:=0) (by decide);obtain⟨D,h1⟩:=xX v (k:=1) (by decide);obtain⟨K,h2⟩:=xX v (k:=2) (by decide);by_cases u:K=0
   ·exact dVr C x w b l cb m va a [] h ha f D K j h1 h2 u
   ·exact dVs C x w b l cb m va a [] h ha f D K j h1 h2 u
  ·cases hf
 by_cases L:op=35
 ·subst L;have hf:(C.p.env.globals[b]?).map (fun g=>(([]:List Int),[g]))=some (i,o):=hf
  cases hg:C.p.env.globals[b]? with
  | none=>rw[hg]at hf;cases hf
  | some g=>
   have hl:=(List.getElem?_eq_some_iff.1 hg).1;have:=t.glen;exact dVu C x w b l cb m va a [] h ha _ _ rfl (Aj (by omega))
 by_cases M:op=36
 ·subst M;have hf:(match C.p.env.globals[b]?,C.p.env.muts[b]? with | some g,some true=>some ([g],([]:List Int)) | _,_=>none)=some (i,o):=hf
  cases hg:C.p.env.globals[b]? with
  | none=>rw[hg]at hf;cases hf
  | some g=>
   rw[hg]at hf;have hl:=(List.getElem?_eq_some_iff.1 hg).1;have:=t.glen
   have hi:i.length=1:=by
    revert hf
    split
    ·intro hf;cases hf;rfl
    ·intro hf;cases hf
   obtain⟨f,j⟩:=xX v (k:=0) (by omega);exact dVv C x w b l cb m va a [] h ha _ _ f rfl (Aj (by omega)) j (g64 j)
 by_cases E:(fW op).isSome
 ·have z:acc op=none:=by
   cases z:acc op with
   | none=>rfl
   | some y=>
    obtain⟨k,wd,st,F⟩:=y;have hb:=lZ z
    cases hg:fW op with
    | none=>rw[hg]at E;cases E
    | some g=>
     obtain⟨p,q,Q,d⟩:=g;have:=(aQr hg);omega
  have N:op≠257/\op≠63/\op≠64:=by
   cases hg:fW op with
   | none=>rw[hg]at E;cases E
   | some g=>
    obtain⟨p,q,Q,d⟩:=g;have:=(aQr hg);omega
  exact dVx C x w op z ⟨H,I,R,J,L,M,N.1,N.2.1,N.2.2⟩ G b l cb m va a [] h ha P
 ·have hq:mJ C.p.env.mem op b=some (i,o):=by
   unfold iJ at hf;rw[if_neg H,if_neg I,if_neg (by omega),if_neg (by omega),if_neg O,if_neg J,if_neg G,if_neg L,if_neg M,if_neg E]at hf;exact hf
  clear hf;unfold mJ at hq
  split at hq
  ·cases hq
  by_cases S:op=257
  ·subst S;rw[if_pos rfl]at hq
   split at hq
   ·cases hq;obtain⟨f,j⟩:=xX v (k:=0) (Aq _);cases u:pK x.s.mem.length f b
    ·exact cJq C x w b l cb m va a [] h ha f j B u
    ·exact cJr C x w b l cb m va a [] h ha f j B u
   ·cases hq
  rw[if_neg S]at hq
  cases z:acc op with
  | some y=>
   obtain⟨k,wd,st,F⟩:=y;rw[z]at hq;simp only at hq
   split at hq
   ·cases st with
    | true=>
     cases hq;obtain⟨f,j⟩:=xX v (k:=0) (Aq _);obtain⟨D,h1⟩:=xX v (k:=1) (Nat.lt_succ_self 1);by_cases u:kZ x.s.mem.length op f b D=0
     ·exact cJt C x w op k wd F z b l cb m va a [] h ha f j B D h1 t.memB u
     ·exact cJs C x w op k wd F z b l cb m va a [] h ha f j B D h1 t.memB u
    | false=>
     cases hq;obtain⟨f,j⟩:=xX v (k:=0) (Aq _);by_cases u:(mW x.s.mem op f b).2=0
     ·exact dXd C x w op k wd F z b l cb m va a [] h ha f j B t.memB u
     ·exact dXc C x w op k wd F z b l cb m va a [] h ha f j B t.memB u
   ·cases hq
  | none=>
   rw[z]at hq;simp only at hq
   split at hq
   ·rename_i aA;subst aA;exact dVt C x w b l cb m va a [] h ha B
   ·split at hq
    ·rename_i o64;subst o64
     split at hq
     ·cases hq;obtain⟨f,j⟩:=xX v (k:=0) (Aq _);exact dVw C x w b l cb m va a [] h ha f j T B t.most (by have:=t.memL;omega) (g64 j) t.memB
     ·cases hq
    ·cases hq
theorem RunR.from{C:MaC}{x:MaS}{s2:StD}{e2:Int}{dc wd:Nat}{l:List Nat}{w a:World}{en:Ending}{w':World}(h:RunR C x s2 e2 dc wd l a en w')(k:MK C x x w a):RunR C x s2 e2 dc wd l w en w':=by
 obtain⟨v,x',rfl,h1,h2,c,d,f,g,i,j,m,b⟩:=h;exact⟨v,x',rfl,h1,k.trans h2,c,d,f,g,i,j,m,fun e=>⟨jQ (b e).1 k.size,(b e).2⟩⟩
section
variable {H:Type} {enc:TypeId×Value->H} {w:World}
theorem eVh:qY enc fZ w 27 (fun w cs (l:List RowD)=>∃ v,cs = [v]/\Structs 5 RowC w v l):=by
 intro fuel cs x h a;obtain⟨l,v,e,hs,_⟩:=vZ (enc:=enc) (w:=w) underlying27 (show fZ.cellsOf 89=5 by kernel_rfl) (by omega) (show 1<=fZ.bytesOf 89 by decide +kernel) eZp fuel cs x h a;exact⟨l,v,e,hs⟩
theorem cen:fZ.cellsOf 26=5:=by kernel_rfl
theorem crs:fZ.cellsOf 27=1:=by kernel_rfl
theorem rows_open{r:Reach}{j:Nat}{v:Value}{d:DataW H}{q:List MemPlace}(hv:Value.okWide fZ w r j 29 v)(h:DataW.Trod enc fZ w 0 (fun _=>true) true 29 v d q)(hs:aVf fZ 29 d):∃ p,RowsV w v p:=by
 obtain⟨cs,rfl⟩:=cWl (t:=29) (fs:=_) underlying29 hv;obtain⟨fuel,hf⟩:=h;obtain⟨e,e0⟩:=lJ underlying29 hf hs 0 0 5 26 rfl eZo rfl rfl cen;obtain⟨l,v1,f,k⟩:=lJ underlying29 hf hs 1 5 1 27 rfl eVh rfl rfl crs;obtain⟨_,_,_,_,m,_,_⟩:=DataW.trod_struct underlying29 hf;have g:(Value.agg cs).cells.toList.length=6:=m.trans (by kernel_rfl);have hc:(Value.agg cs).cells.toList=cs.toList:=rfl;rw[hc]at e0 f g
 match i:cs.toList,g with
 | [x0,x1,x2,x3,x4,x5],_=>
  rw[i]at e0 f;obtain⟨a,b,c,hq,h1,h2,n⟩:=e0;simp at hq f;obtain⟨rfl,rfl,rfl,rfl,rfl⟩:=hq;subst f;refine⟨⟨e,l⟩,x0,x2,x3,x5,?_,h1,h2,n,k⟩
  have:cs=#[x0,.int .i64 e.imports,x2,x3,.bool e.mem,x5]:=by
   apply Array.ext';rw[i]
  rw[this]
end
section
open Go.ChangeShapes Go.WideShapes Go.Deep
structure AskD where
 n:Int
 args:List Nat
 s:RawS
def aZc(w:World)(v:Value)(q:AskD):Prop:=∃ a m i g j h l,v = .agg #[.int .i64 q.n,a,m,.int .i64 i,g,.int .i64 j,h,l] /\ -9223372036854775808<=q.n/\q.n<=9223372036854775807/\UR w a q.args/\StV w (.agg #[m,.int .i64 i,g,.int .i64 j,h,l]) q.s/\i=q.s.most/\j=q.s.fuel
section
variable {H:Type} {enc:TypeId×Value->H} {P:Program} {w:World}
theorem bZd{t e:TypeId}{k:IntKind}{by_ M:Nat}(m:P.underlying t=some (.slice e))(he:P.underlying e=some (.int k))(o:P.cellsOf e=1)(p:P.bytesOf e=by_)(ag:1<=by_)(q:∀ a:Int,(Lit.int k a).wf=true->0<=a/\a<(M:Int)):
  qY enc P w t (fun w cs (l:List Nat)=>∃ A c,cs = [.slice A l.length c]/\Src w A l.length (l.map fun(n:Nat)=>Value.int k (n:Int))/\l.length<=c/\(A=none->c=0)/\c*by_<=140737488351232/\∀ x∈l,x<M):=by
 intro fuel cs x h r;obtain⟨l,v,rfl,⟨A,c,vs,rfl,h1,h2,h3,h4,s,b,d⟩,u⟩:=vZ (enc:=enc) (w:=w) m o (by omega) (by omega) (aJy he) fuel cs x h r;have f:=u _ _ _ rfl;rw[p]at f;have g:∀ i (hi:i<l.length),0<=l[i]/\l[i]<(M:Int):=fun i hi=>q _ (b i _ _ (Aj (by omega)) (Aj hi)).2;refine⟨l.map Int.toNat,A,c,by rw[Ax],?_,by rw[Ax];exact h1,h2,f,fun x z=>?_⟩
 ·rw[Ax]
  have B:vs.flatten=(l.map Int.toNat).map fun(n:Nat)=>Value.int k (n:Int):=by
   apply List.ext_getElem?;intro i;by_cases hi:i<l.length
   ·have hv:vs[i]? = some (vs[i]'(by omega)):=Aj (by omega);have C:=(b i _ _ hv (Aj hi)).1;have:=aXj (j:=0) s hv (by rw[C];rfl);rw[Av,Nat.add_zero]at this;rw[this];have D:=(g i hi).1;simp[Ak,Aj hi,Int.toNat_of_nonneg D]
   ·have E:=d.1;rw[Az (by rw[E];omega),Az (by simp;omega)]
  rw[<-B]
  simpa using d
 ·obtain⟨y,F,rfl⟩:=List.mem_map.1 z;obtain⟨i,hi,rfl⟩:=List.mem_iff_getElem.1 F;have:=g i hi;omega
end
end
section
variable {H:Type} {enc:TypeId×Value->H} {w:World}
theorem aYv:qY enc fZ w 30 (fun w cs (l:List Nat)=>∃ v,cs = [v]/\UR w v l):=by
 intro fuel cs x h b;obtain⟨l,A,c,rfl,h1,h2,d,h4,e⟩:=bZd (enc:=enc) (w:=w) (k:=.u64) (by_:=8) (M:=18446744073709551616) underlying30 underlying52 (by kernel_rfl) (by kernel_rfl) (by omega) (fun a ha=>bXc ha) fuel cs x h b;exact⟨l,_,rfl,A,c,rfl,h1,h2,d,⟨by omega,by omega⟩,e⟩
theorem eJd:qY enc fZ w 31 (fun w cs (l:List Nat)=>∃ v,cs = [v]/\BR w v l):=by
 intro fuel cs x h b;obtain⟨l,A,c,rfl,h1,h2,d,h4,e⟩:=bZd (enc:=enc) (w:=w) (k:=.u8) (by_:=1) (M:=256) underlying31 underlying5 (by kernel_rfl) (by kernel_rfl) (by omega) (fun a ha=>cKf ha) fuel cs x h b;exact⟨l,_,rfl,A,c,rfl,h1,h2,d,⟨by omega,by omega⟩,e⟩
theorem eYi:fZ.cellsOf 31=1:=by kernel_rfl
theorem bVv:fZ.cellsOf 30=1:=by kernel_rfl
theorem cst:fZ.cellsOf 33=6:=by kernel_rfl
theorem dVy:qY enc fZ w 33 (fun w cs (s:RawS)=>∃ a g i l,cs = [a,.int .i64 s.most,g,.int .i64 s.fuel,i,l]/\BR w a s.mem/\UR w g s.globals/\UR w i s.input/\UR w l s.log):=by
 intro fuel cs x h e;obtain⟨o,v0,e0,p⟩:=lJ underlying33 h e 0 0 1 31 rfl eJd rfl rfl eYi;obtain⟨q,j,i1⟩:=lJ underlying33 h e 1 1 1 3 rfl aKo rfl rfl ci;obtain⟨r,v2,e2,t⟩:=lJ underlying33 h e 2 2 1 30 rfl aYv rfl rfl bVv;obtain⟨l3,k,i3⟩:=lJ underlying33 h e 3 3 1 3 rfl aKo rfl rfl ci;obtain⟨l4,v4,m,u⟩:=lJ underlying33 h e 4 4 1 30 rfl aYv rfl rfl bVv;obtain⟨l5,v5,n,v⟩:=lJ underlying33 h e 5 5 1 30 rfl aYv rfl rfl bVv;obtain⟨_,_,_,_,y,_,_⟩:=DataW.trod_struct underlying33 h;have z:cs.length=6:=y.trans (by kernel_rfl)
 match cs,z with
 | [a,b,c,d,f,g],_=>
  simp at e0 j e2 k m n;subst e0;subst j;subst e2;subst k;subst m;subst n;exact⟨⟨o,q,r,l3,l4,l5⟩,_,_,_,_,rfl,p,t,u,v⟩
end
section
open Go.ChangeShapes Go.WideShapes Go.ChangeAt Go.WideMaps Go.WideElems
theorem own:ownKnob fZ.godebug=none:=by kernel_rfl
theorem eWe : fZ.globalNamed "math/bits.deBruijn64tab" = some 0 := by kernel_rfl
theorem eWf : fZ.globalNamed "math/bits.deBruijn32tab" = some 1 := by kernel_rfl
theorem eQx:fZ.underlying 219=some (.array 32 5):=by kernel_rfl
theorem eQy:fZ.underlying 218=some (.array 64 5):=by kernel_rfl
abbrev laid2 : List (String × DataW Unit) := [("math/bits.deBruijn32tab", Rows.laid_math_bits_deBruijn32tab), ("math/bits.deBruijn64tab", Rows.laid_math_bits_deBruijn64tab)]
theorem door_met(os:Os)(args:Array Value):laidMetH fZ laid2 ((World.doorLaid fZ 400 os).forCall (fun _ _=>0) ⟨#[],args,[]⟩).memory:=
 laidMetH_of_parts3 (fuel:=8) (laidMet_of_run' 8 (by kernel_rfl) (by kernel_rfl)) (by kernel_rfl) (by kernel_rfl)
theorem eJp{H:Type}:(Rows.laid_math_bits_deBruijn64tab:DataW H) = .agg (Lib.deBruijn64tab.map fun n:Nat=>.lit (.int .u8 (n:Int))):=by rfl
theorem eJq{H:Type}:(Rows.laid_math_bits_deBruijn32tab:DataW H) = .agg (Lib.deBruijn32tab.map fun n:Nat=>.lit (.int .u8 (n:Int))):=by rfl
theorem dXy{H:Type}{enc:TypeId×Value->H}{W:World}{base:Nat}{c:Nat->Bool}{held:Bool}{fuel n:Nat}{T e:TypeId}{cs:List Value}{l:List Nat}{ps:List MemPlace}(d:fZ.underlying T=some (.array n e))(he:fZ.underlying e=some (.int .u8))(hc:fZ.cellsOf e=1)
  (hl:l.length=n) (h:DataW.trod enc fZ W base c held fuel T cs=some (.agg (l.map fun n:Nat=>.lit (.int .u8 (n:Int))),ps)):∀ j,j<n->cs[j]? = some (.int .u8 ((l.getD j 0:Nat):Int)):=by
 obtain⟨f,m,_,a,_,ae,g⟩:=DataW.trod_array d h;intro j i;have b:=g j i;rw[hc,Av,Aj (by omega)]at b;obtain⟨k,o,e2,_⟩:=DataW.trod_int he b;simp only[Prod.mk.injEq,DataW.agg.injEq]at a;have h1:=congrArg (fun z=>z[j]?) a.1;simp only[Ak]at h1;rw[Aj (show j<l.length by omega),Aj (show j<f.length by omega),e2]at h1;simp at h1
 have h2:cs[j]? = some (.int .u8 k):=by
  have:=congrArg List.head? o;rw[List.head?_take,if_neg (by decide),List.head?_drop]at this;exact this
 rw[h2,List.getD_eq_getElem?_getD,Aj (show j<l.length by omega),<-h1];rfl
theorem of_laid{W:World}(h:laidMetH fZ laid2 W):Tabs W:=by
 rw[MakeChecks.laidMetH_plain _ _ _ (by kernel_rfl)]at h;obtain⟨ps,⟨g0,t0,ak,f0,p0,q0,b,i,k,c,⟨g1,t1,al,f1,p1,q1,d,l,m,e,_,_⟩,_⟩,_,_⟩:=h;obtain rfl:=Option.some.inj (eWf.symm.trans b);obtain rfl:=Option.some.inj (eWe.symm.trans d)
 have o:(fZ.globals[1]?).map (·.type)=some 219:=by kernel_rfl
 have p:(fZ.globals[0]?).map (·.type)=some 218:=by kernel_rfl
 obtain rfl:=Option.some.inj (o.symm.trans i);obtain rfl:=Option.some.inj (p.symm.trans l);simp only[eJq]at c;simp only[eJp]at e;have q:=dXy (n:=32) eQx underlying5 (by kernel_rfl) (by decide) c;have c1:=dXy (n:=64) eQy underlying5 (by kernel_rfl) (by decide) e
 have f:TabAt 1 Lib.deBruijn32tab W:=fun j a=>by
  rw[World.var?_cell b k j]
  simpa using q j a
 have g:TabAt 0 Lib.deBruijn64tab W:=fun j a=>by
  rw[World.var?_cell d m j]
  simpa using c1 j a
 refine⟨g,f,?_⟩;have r:=(aWa (f 0 (by decide))).2;have s:=(aWa (g 0 (by decide))).2;simp only at r s;omega
end
end Go.Proofs.YtabibkpfgmolkaaGreatDoor

/- Lemmas for the claim, part 10. Conditions: none. -/
import Derived.Test.YtabibkpfgmolkaaGreatDoorPt09
import Derived.LaidMore
import Derived.OpenShut
import Derived.ProofKit
import Derived.Stop.Joined
import Derived.Test.YtabibkpfgmolkaaGreatDoorRows
set_option maxRecDepth 100000
set_option maxHeartbeats 16000000
set_option linter.unusedVariables false
set_option linter.unusedSimpArgs false
open Go.Proofs.Tryz renaming prog→fZ
open Go.Proofs.Tryz
open Go.RowKit
open List renaming getElem?_eq_getElem→Aj,length_map→Ax,getElem?_eq_none→Az,getElem?_map→Ak
open Nat renaming zero_lt_succ→Aq,mul_one→Av
open Option renaming some->fF
namespace Go.Proofs.YtabibkpfgmolkaaGreatDoor
theorem yV{a:List Nat}{n k:Nat}(h:a.length=n)(hk:k<n):∃ x,a[k]? = fF x:=⟨_,Aj fu⟩
theorem dVa(C:jo)(x:jk)(w:World)(r:gR)(c:gP)(j cb l va:Value)(a:List Nat)(h:iB C x w)(ha:UR w va a)(U:∀ k,va.ownBlock=fF k->¬js C x k)(u:jh C.p.J x.s)(V:codeOk C.p.J r c=true)(W:a.length=(jL C.p.J r.a2 c).length)
  (F:c.op≠16) (h1:c.op≠273) (h2:c.op≠274) (X:c.op≠275) (P:c.op≠276) (Y:c.op≠277) :
  Calls fZ 87 #[.pointer (fF ⟨C.mb,0,none⟩),.agg #[.int .i64 c.op,.int .u64 (c.n:Int),j,cb,l],va] w (pV C x c a w):=by
 obtain⟨op,b,Z,K2,K3⟩:=c;simp only at F h1 h2 X P Y;have post:∀ G w',pV C x ⟨op,b,[],[],[]⟩ a w G w'->pV C x ⟨op,b,Z,K2,K3⟩ a w G w':=fun G w' h=>h;refine Calls.mono ?_ post;obtain⟨i,o,hf,_⟩:=hY V;have hf:iV C.p.J r.a2 op b=fF (i,o):=hf
 have t:a.length=i.length:=by
  rw[W];unfold jL;show((iV C.p.J r.a2 op b).getD ([],[])).1.length=_;rw[hf];rfl
 have Q:=(show ij a by obtain⟨A,R,e,_,_,_,_,ay⟩:=ha;exact ay);have kF:∀ {k y:Nat},a[k]? = fF y->y<18446744073709551616:=fun h=>Q _ (List.mem_of_getElem? h);have z:=u.pC;by_cases H:op=256
 ·subst H;exact dKu C x w b j cb l va a [] h ha
 by_cases I:op=272
 ·subst I;have hf:(if b=0 then fF (([0]:List Int),([0]:List Int))else none)=fF (i,o):=hf
  split at hf
  ·cases hf;obtain⟨m,f⟩:=yV t (k:=0) fy;exact eZn C x w b j cb l va a [] h ha m f
  ·cases hf
 by_cases S:op=258
 ·subst S;by_cases az:x.s.U=0
  ·exact dKv C x w b j cb l va a [] h ha az
  ·exact dKw C x w b j cb l va a [] h ha _ rfl fu u.U
 by_cases J:op=27
 ·subst J;have hf:(if b=0 then fF (([0,0,127]:List Int),([0]:List Int))else none)=fF (i,o):=hf
  split at hf
  ·cases hf;obtain⟨m,f⟩:=yV t (k:=0) fy;obtain⟨E,h1⟩:=yV t (k:=1) fy;obtain⟨K,h2⟩:=yV t (k:=2) fy;by_cases B:K=0
   ·exact eZo C x w b j cb l va a [] h ha m E K f h1 h2 B
   ·exact eZp C x w b j cb l va a [] h ha m E K f h1 h2 B
  ·cases hf
 by_cases L:op=35
 ·subst L;have hf:(C.p.J.E[b]?).map (fun g=>(([]:List Int),[g]))=fF (i,o):=hf
  cases hg:C.p.J.E[b]? with
  | none=>rw[hg]at hf;cases hf
  | some g=>
   have hl:=(gw hg).1;have:=u.kR;exact eZr C x w b j cb l va a [] h ha _ _ rfl (Aj fu)
 by_cases M:op=36
 ·subst M;have hf:(match C.p.J.E[b]?,C.p.J.a3[b]? with|fF g,fF true=>fF ([g],([]:List Int))|_,_=>none)=fF (i,o):=hf
  cases hg:C.p.J.E[b]? with
  | none=>rw[hg]at hf;cases hf
  | some g=>
   rw[hg]at hf;have hl:=(gw hg).1;have:=u.kR
   have hi:i.length=1:=by
    revert hf
    split
    ·intro hf;cases hf;rfl
    ·intro hf;cases hf
   obtain⟨m,f⟩:=yV t (k:=0) fu;exact eZs C x w b j cb l va a [] h ha _ _ m rfl (Aj fu) f (kF f)
 by_cases D:(gQ op).isSome
 ·have v:acc op=none:=by
   cases v:acc op with
   | none=>rfl
   | some y=>
    obtain⟨k,wd,st,N⟩:=y;have hb:=mK v
    cases hg:gQ op with
    | none=>rw[hg]at D;cases D
    | some g=>
     obtain⟨p,q,R,d⟩:=g;have:=(pq hg);omega
  have O:op≠257/\op≠63/\op≠64:=by
   cases hg:gQ op with
   | none=>rw[hg]at D;cases D
   | some g=>
    obtain⟨p,q,R,d⟩:=g;have:=(pq hg);omega
  exact eZv C x w op v ⟨H,I,S,J,L,M,O.1,O.2.1,O.2.2⟩ F b j cb l va a [] h ha Q
 ·have hq:mW C.p.J.L op b=fF (i,o):=by
   unfold iV at hf;rw[gy H,gy I,gy fu,gy fu,gy P,gy J,gy F,gy L,gy M,gy D]at hf;exact hf
  clear hf;unfold mW at hq
  split at hq
  ·cases hq
  by_cases T:op=257
  ·subst T;rw[gz rfl]at hq
   split at hq
   ·cases hq;obtain⟨m,f⟩:=yV t (k:=0) (Aq _);cases B:qJ x.s.L.length m b
    ·exact cWx C x w b j cb l va a [] h ha m f z B
    ·exact cWy C x w b j cb l va a [] h ha m f z B
   ·cases hq
  rw[gy T]at hq
  cases v:acc op with
  | some y=>
   obtain⟨k,wd,st,N⟩:=y;rw[v]at hq;simp only at hq
   split at hq
   ·cases st with
    | true=>
     cases hq;obtain⟨m,f⟩:=yV t (k:=0) (Aq _);obtain⟨E,h1⟩:=yV t (k:=1) (Nat.lt_succ_self 1);exact dKz C x w op k wd N v b j cb l va a [] h ha m f z E h1 u.k8
    | false=>
     cases hq;obtain⟨m,f⟩:=yV t (k:=0) (Aq _);exact eZt C x w op k wd N v b j cb l va a [] h ha m f z u.k8
   ·cases hq
  | none=>
   rw[v]at hq;simp only at hq
   split at hq
   ·rename_i aA;subst aA;exact eZq C x w b j cb l va a [] h ha z
   ·split at hq
    ·rename_i mr;subst mr
     split at hq
     ·cases hq;obtain⟨m,f⟩:=yV t (k:=0) (Aq _);exact eZu C x w b j cb l va a [] h ha m f U z u.Y (by have:=u.ls;omega) (kF f) u.k8
     ·cases hq
    ·cases hq
theorem kt.from{C:jo}{x:jk}{s2:iM}{e2:Int}{dc wd:Nat}{l:List Nat}{w a:World}{b:Ending}{w':World}(h:kt C x s2 e2 dc wd l a b w')(k:MK C x x w a):kt C x s2 e2 dc wd l w b w':=by
 obtain⟨v,x',rfl,h1,h2,d,f,g,i,j,m,n,c⟩:=h;exact⟨v,x',rfl,h1,k.trans h2,d,f,g,i,j,m,n,fun e=>⟨iQ (c e).1 k.size,(c e).2⟩⟩
section
variable {H:Type} {enc:TypeId×Value->H} {w:World}
theorem fJo:sZ enc fZ w 27 (fun w cs (l:List gR)=>∃ v,cs = [v]/\Structs 5 kr w v l):=by
 intro fuel cs x h a;obtain⟨l,v,e,hs,_⟩:=xZ (enc:=enc) (w:=w) underlying27 (show fZ.cellsOf 89=5 by kernel_rfl) fu (show 1<=fZ.bytesOf 89 by decide +kernel) fQx fuel cs x h a;exact⟨l,v,e,hs⟩
theorem cen:fZ.cellsOf 26=5:=fx
theorem crs:fZ.cellsOf 27=1:=fx
theorem rows_open{r:Reach}{j:Nat}{v:Value}{d:DataW H}{q:List MemPlace}(hv:Value.okWide fZ w r j 29 v)(h:DataW.Trod enc fZ w 0 (fun _=>true) true 29 v d q)(hs:pn fZ 29 d):∃ p,jf w v p:=by
 obtain⟨cs,rfl⟩:=dZg (t:=29) (fs:=_) underlying29 hv;obtain⟨fuel,hf⟩:=h;obtain⟨e,e0⟩:=lW underlying29 hf hs 0 0 5 26 rfl fQw rfl rfl cen;obtain⟨l,v1,f,k⟩:=lW underlying29 hf hs 1 5 1 27 rfl fJo rfl rfl crs;obtain⟨_,_,_,_,m,_,_⟩:=DataW.trod_struct underlying29 hf;have g:(Value.agg cs).cells.toList.length=6:=m.trans fx;have hc:(Value.agg cs).cells.toList=cs.toList:=rfl;rw[hc]at e0 f g
 match i:cs.toList,g with
 | [x0,x1,x2,x3,x4,x5],_=>
  rw[i]at e0 f;obtain⟨a,b,c,hq,h1,h2,n⟩:=e0;simp at hq f;obtain⟨rfl,rfl,rfl,rfl,rfl⟩:=hq;subst f;refine⟨⟨e,l⟩,x0,x2,x3,x5,?_,h1,h2,n,k⟩
  have:cs=#[x0,.int .i64 e.G,x2,x3,.bool e.L,x5]:=by
   apply Array.ext';rw[i]
  rw[this]
end
section
open Go.ChangeShapes Go.WideShapes Go.Deep
structure s8 where
 n:Int
 args:List Nat
 s:gT
def fXk(w:World)(v:Value)(q:s8):Prop:=∃ a m i g j h l,v = .agg #[.int .i64 q.n,a,m,.int .i64 i,g,.int .i64 j,h,l] /\ -9223372036854775808<=q.n/\q.n<=9223372036854775807/\UR w a q.args/\kf w (.agg #[m,.int .i64 i,g,.int .i64 j,h,l]) q.s/\i=q.s.Y/\j=q.s.U
section
variable {H:Type} {enc:TypeId×Value->H} {P:Program} {w:World}
theorem bJu{t e:TypeId}{k:IntKind}{ke M:Nat}(m:P.underlying t=fF (.slice e))(he:P.underlying e=fF (.int k))(o:P.cellsOf e=1)(p:P.bytesOf e=ke)(ag:1<=ke)(q:∀ a:Int,(Lit.int k a).wf=true->0<=a/\a<(M:Int)):
  sZ enc P w t (fun w cs (l:List Nat)=>∃ A c,cs = [.slice A l.length c]/\Src w A l.length (l.map fun(n:Nat)=>Value.int k (n:Int))/\l.length<=c/\(A=none->c=0)/\c*ke<=140737488351232/\∀ x∈l,x<M):=by
 intro fuel cs x h r;obtain⟨l,v,rfl,⟨A,c,vs,rfl,h1,h2,h3,h4,s,b,d⟩,u⟩:=xZ (enc:=enc) (w:=w) m o fu fu (aKs he) fuel cs x h r;have f:=u _ _ _ rfl;rw[p]at f;have g:∀ i (hi:i<l.length),0<=l[i]/\l[i]<(M:Int):=fun i hi=>q _ (b i _ _ (Aj fu) (Aj hi)).2;refine⟨l.map Int.toNat,A,c,by rw[Ax],?_,by rw[Ax];exact h1,h2,f,fun x z=>?_⟩
 ·rw[Ax]
  have B:vs.flatten=(l.map Int.toNat).map fun(n:Nat)=>Value.int k (n:Int):=by
   apply List.ext_getElem?;intro i;by_cases hi:i<l.length
   ·have hv:vs[i]? = fF (vs[i]' fu):=Aj fu;have C:=(b i _ _ hv (Aj hi)).1;have:=rP (j:=0) s hv (by rw[C];rfl);rw[Av,Nat.add_zero]at this;rw[this];have D:=(g i hi).1;simp[Ak,Aj hi,Int.toNat_of_nonneg D]
   ·have E:=d.1;rw[Az (by rw[E];omega),Az fw]
  rw[<-B]
  simpa using d
 ·obtain⟨y,F,rfl⟩:=List.mem_map.1 z;obtain⟨i,hi,rfl⟩:=List.mem_iff_getElem.1 F;have:=g i hi;omega
end
end
section
variable {H:Type} {enc:TypeId×Value->H} {w:World}
theorem bXe:sZ enc fZ w 30 (fun w cs (l:List Nat)=>∃ v,cs = [v]/\UR w v l):=by
 intro fuel cs x h b;obtain⟨l,A,c,rfl,h1,h2,d,h4,e⟩:=bJu (enc:=enc) (w:=w) (k:=.u64) (ke:=8) (M:=18446744073709551616) underlying30 underlying52 fx fx fu (fun a ha=>bZu ha) fuel cs x h b;exact⟨l,_,rfl,A,c,rfl,h1,h2,d,⟨fu,fu⟩,e⟩
theorem fXl:sZ enc fZ w 31 (fun w cs (l:List Nat)=>∃ v,cs = [v]/\BR w v l):=by
 intro fuel cs x h b;obtain⟨l,A,c,rfl,h1,h2,d,h4,e⟩:=bJu (enc:=enc) (w:=w) (k:=.u8) (ke:=1) (M:=256) underlying31 underlying5 fx fx fu (fun a ha=>cYv ha) fuel cs x h b;exact⟨l,_,rfl,A,c,rfl,h1,h2,d,⟨fu,fu⟩,e⟩
theorem fVs:fZ.cellsOf 31=1:=fx
theorem bYj:fZ.cellsOf 30=1:=fx
theorem cst:fZ.cellsOf 33=6:=fx
theorem eZw:sZ enc fZ w 33 (fun w cs (s:gT)=>∃ a g i l,cs = [a,.int .i64 s.Y,g,.int .i64 s.U,i,l]/\BR w a s.L/\UR w g s.E/\UR w i s.input/\UR w l s.a0):=by
 intro fuel cs x h e;obtain⟨o,v0,e0,p⟩:=lW underlying33 h e 0 0 1 31 rfl fXl rfl rfl fVs;obtain⟨q,j,i1⟩:=lW underlying33 h e 1 1 1 3 rfl qI rfl rfl ci;obtain⟨r,v2,e2,t⟩:=lW underlying33 h e 2 2 1 30 rfl bXe rfl rfl bYj;obtain⟨l3,k,i3⟩:=lW underlying33 h e 3 3 1 3 rfl qI rfl rfl ci;obtain⟨l4,v4,m,u⟩:=lW underlying33 h e 4 4 1 30 rfl bXe rfl rfl bYj;obtain⟨l5,v5,n,v⟩:=lW underlying33 h e 5 5 1 30 rfl bXe rfl rfl bYj;obtain⟨_,_,_,_,y,_,_⟩:=DataW.trod_struct underlying33 h;have z:cs.length=6:=y.trans fx
 match cs,z with
 | [a,b,c,d,f,g],_=>
  simp at e0 j e2 k m n;subst e0;subst j;subst e2;subst k;subst m;subst n;exact⟨⟨o,q,r,l3,l4,l5⟩,_,_,_,_,rfl,p,t,u,v⟩
end
section
open Go.ChangeShapes Go.WideShapes Go.ChangeAt Go.WideMaps Go.WideElems
theorem own:ownKnob fZ.godebug=none:=fx
theorem fKl : fZ.globalNamed "math/bits.deBruijn64tab" = fF 0 := by kernel_rfl
theorem fKm : fZ.globalNamed "math/bits.deBruijn32tab" = fF 1 := by kernel_rfl
theorem eWv:fZ.underlying 219=fF (.array 32 5):=fx
theorem eWw:fZ.underlying 218=fF (.array 64 5):=fx
abbrev laid2 : List (String × DataW Unit) := [("math/bits.deBruijn32tab", Rows.laid_math_bits_deBruijn32tab), ("math/bits.deBruijn64tab", Rows.laid_math_bits_deBruijn64tab)]
theorem door_met(os:Os)(args:Array Value):laidMetH fZ laid2 ((World.doorLaid fZ 400 os).forCall (fun _ _=>0) ⟨#[],args,[]⟩).memory:=
 laidMetH_of_parts3 (fuel:=8) (laidMet_of_run' 8 fx fx) fx fx
theorem fXw{H:Type}:(Rows.laid_math_bits_deBruijn64tab:DataW H) = .agg (Lib.deBruijn64tab.map fun n:Nat=>.lit (.int .u8 (n:Int))):=by rfl
theorem fXx{H:Type}:(Rows.laid_math_bits_deBruijn32tab:DataW H) = .agg (Lib.deBruijn32tab.map fun n:Nat=>.lit (.int .u8 (n:Int))):=by rfl
theorem dVx{H:Type}{enc:TypeId×Value->H}{W:World}{base:Nat}{c:Nat->Bool}{held:Bool}{fuel n:Nat}{T e:TypeId}{cs:List Value}{l:List Nat}{ps:List MemPlace}(d:fZ.underlying T=fF (.array n e))(he:fZ.underlying e=fF (.int .u8))(hc:fZ.cellsOf e=1)
  (hl:l.length=n) (h:DataW.trod enc fZ W base c held fuel T cs=fF (.agg (l.map fun n:Nat=>.lit (.int .u8 (n:Int))),ps)):∀ j,j<n->cs[j]? = fF (.int .u8 ((l.getD j 0:Nat):Int)):=by
 obtain⟨f,m,_,a,_,ae,g⟩:=DataW.trod_array d h;intro j hj;have b:=g j hj;rw[hc,Av,Aj fu]at b;obtain⟨k,i,e2,_⟩:=DataW.trod_int he b;simp only[Prod.mk.injEq,DataW.agg.injEq]at a;have h1:=gG (fun z=>z[j]?) a.1;simp only[Ak]at h1;rw[Aj (show j<l.length by omega),Aj (show j<f.length by omega),e2]at h1;simp at h1
 have h2:cs[j]? = fF (.int .u8 k):=by
  have:=gG List.head? i;rw[List.head?_take,gy fy,List.head?_drop]at this;exact this
 rw[h2,List.getD_eq_getElem?_getD,Aj (show j<l.length by omega),<-h1];rfl
theorem of_laid{W:World}(h:laidMetH fZ laid2 W):Tabs W:=by
 rw[MakeChecks.laidMetH_plain _ _ _ fx]at h;obtain⟨ps,⟨g0,t0,ak,f0,p0,q0,a,g,i,b,⟨g1,t1,al,f1,p1,q1,c,k,l,d,_,_⟩,_⟩,_,_⟩:=h;obtain rfl:=Option.some.inj (fKm.symm.trans a);obtain rfl:=Option.some.inj (fKl.symm.trans c)
 have m:(fZ.globals[1]?).map (·.type)=fF 219:=fx
 have o:(fZ.globals[0]?).map (·.type)=fF 218:=fx
 obtain rfl:=Option.some.inj (m.symm.trans g);obtain rfl:=Option.some.inj (o.symm.trans k);simp only[fXx]at b;simp only[fXw]at d;have p:=dVx (n:=32) eWv underlying5 fx fy b;have c1:=dVx (n:=64) eWw underlying5 fx fy d
 have e:TabAt 1 Lib.deBruijn32tab W:=fun j hj=>by
  rw[World.var?_cell a i j]
  simpa using p j hj
 have f:TabAt 0 Lib.deBruijn64tab W:=fun j hj=>by
  rw[World.var?_cell c l j]
  simpa using c1 j hj
 refine⟨f,e,?_⟩;have q:=(aYe (e 0 fy)).2;have r:=(aYe (f 0 fy)).2;simp only at q r;omega
end
end Go.Proofs.YtabibkpfgmolkaaGreatDoor

/- Lemmas for the claim, part 7. Conditions: none. -/
import Derived.Test.YtabibkpfgmolkaaDoorPd06
set_option maxRecDepth 100000
set_option maxHeartbeats 16000000
set_option linter.unusedVariables false
set_option linter.unusedSimpArgs false
open Go.Lib renaming hid→cQ
open Go.Proofs.Tryd renaming prog→cZ
open Go.Proofs.Tryd
open Go.RowKit
open Nat renaming lt_of_lt_of_le→Aj,le_refl→Aq,le_add_right→AX,zero_le→AK,le_trans→AV,add_comm→AW,add_sub_cancel_left→Ac,zero_add→Ae,add_right_comm→Bz,add_sub_cancel→Bk,min_eq_left→By,add_assoc→BX
open Go.RowKit.Below renaming heap_setCell→Ax,refl→Bx
open List renaming mem_of_getElem?→Az,mem_cons_self→Ak,length_set→Av,length_replicate→Aw,mem_cons_of_mem→Ay,map_cons→AZ,getD_eq_getElem?_getD→AY,getElem?_eq_getElem→Aa,drop_eq_nil_of_le→Ad,set_append_right→Af,mem_of_mem_take→Ag,mem_of_mem_drop→Ah,sum_cons→Bj,length_append→Bq,length_take→Bv,length_drop→Bw,length_map→BJ,replicate→BQ
open Go.World renaming setCell→AJ,ownsRow→BZ
open Bool renaming false_eq_true→AQ,and_eq_true→Ab
open Option renaming some→Ai
open Go renaming World→BK,Value→BV
open Go.RowKit renaming Below→BW
namespace Go.Proofs.YtabibkpfgmolkaaDoor
variable {w w' w0:BK}{k n c g i:Nat}{l V a:List Nat}{v v':BV}{e:TypeId}
structure StOk (e:EnvD) (s:StD):Prop where
 memB:AllB s.mem
 memL:(s.mem.length:Int)<=s.most
 most:s.most<=4096
 glen:s.globals.length=e.globals.length
 g64:All64 s.globals
 l64:All64 s.log
 i64:All64 s.input
 ilen:s.input.length<=100000
 fuel:s.fuel<=1024
theorem StOk.cWy{e:EnvD}{s:StD}(h:StOk e s):s.mem.length<=4096:=by have:=h.memL;have:=h.most;omega
theorem jV:All64 []:=fun x a=>by simp at a
theorem aVn{b:List Nat}(ha:All64 a)(c:All64 b):All64 (a++b):=fun x d=>by
 rcases List.mem_append.1 d with h | h
 ·exact ha x h
 ·exact c x h
theorem aVo(h:n<18446744073709551616):All64 [n]:=fun x a=>by rw[List.mem_singleton.1 a];exact h
theorem aQf(h:All64 l)(k:Nat):All64 (l.take k):=fun x a=>h x (Ag a)
theorem aQg(h:All64 l)(k:Nat):All64 (l.drop k):=fun x a=>h x (Ah a)
theorem aKa(h:All64 l)(k n:Nat)(hn:n<18446744073709551616):All64 (l.set k n):=fun x a=>by
 rcases List.mem_or_eq_of_mem_set a with h1 | h1
 ·exact h x h1
 ·omega
theorem kK:∀ (ks:List Int) (l:List Nat),All64 l->All64 (lowL ks l)
 | [],l,_=>by cases l <;> exact jV
 | t :: ks,[],_=>jV
 | t :: ks,x :: l,h=>fun y a=>by
  rcases List.mem_cons.1 a with rfl | a
  ·have:=h x (Ak ..);unfold jX
   split <;> omega
  ·exact kK ks l (fun z b=>h z (Ay _ b)) y a
theorem uK:∀ (os:List Int) (a V:List Nat),All64 a->All64 V->All64 (putV os a V)
 | [],a,V,_,h=>by cases a <;> exact h
 | o :: os,[],V,_,h=>h
 | o :: os,n :: a,V,hn,h=>uK os a _ (fun x b=>hn x (Ay _ b)) (aKa h _ _ (hn n (Ak ..)))
theorem aVp(n:Nat):All64 (BQ n 0):=fun x a=>by rw[List.eq_of_mem_replicate a];omega
theorem bXa(lost:Nat)(h:All64 V):All64 (zeroV lost V):=aVn (aVp _) (aQg h _)
theorem aZl(r:RowD)(h:All64 a):All64 (initV r a):=uK _ _ _ h (aVp _)
theorem aKb(h:All64 V)(l:List Int):All64 (getV V l):=fun x a=>by
 obtain⟨p,_,rfl⟩:=List.mem_map.1 a;exact aXn h _
theorem bJc(e:EnvD)(r:RowD)(c:CodeD)(h:All64 V):All64 (argV e r c V):=kK _ _ (aKb h _)
theorem bVp(k:Int)(a:Nat)(b:Bool){q:Nat}(h:q<18446744073709551616):nX (tX k a b q):=by
 have h1:nX (if b then sxV a (q:Int)else(q:Int)):=by
  split
  ·exact pV _
  ·exact⟨by omega,by omega⟩
 unfold tX aKt
 split
 ·exact(aKd _).cWw
 ·exact h1
theorem aVq{m:List Nat}(h:AllB m)(op:Int)(a o:Nat):nX (lZ m op a o).1:=by
 have b:nX 0:=⟨by omega,by omega⟩;unfold lZ
 cases c:acc op with
 | none=>exact b
 | some x=>
  obtain⟨k,wd,st,d⟩:=x;simp only
  split
  ·exact b
  ·split
   ·have hw:=(iV c).2.1;refine bVp k _ d ?_;have h2:=aYp ((m.drop (a+o)).take wd.toNat) (fun x e=>h x (Ah (Ag e)))
    have f:((m.drop (a+o)).take wd.toNat).length<=8:=by
     rw[Bv];omega
    exact Aj h2 (Nat.pow_le_pow_right (n:=256) (by omega) f)
   ·exact b
theorem aVr(op:Int)(h:All64 l):nX (lJ op l).1:=by
 have e:nX 0:=⟨by omega,by omega⟩;unfold lJ
 cases hg:fZ op with
 | none=>exact e
 | some g=>
  obtain⟨a,b,c,d⟩:=g;simp only
  split
  ·rename_i h2;exact bJi hg h h2.2
  ·exact e
theorem aQh{z:Int}(h:nX z):z.toNat<18446744073709551616/\((z.toNat:Nat):Int)=z:=by
 have h1:=h.1;have h2:=h.2;omega
theorem aJc{e:EnvD}{outs:List Int}{s:StD}(hs:StOk e s)(ha:All64 a)(hn:n<18446744073709551616):StOk e (hostV n outs a s).2.2/\All64 (hostV n outs a s).1:=by
 have c:All64 (s.log++n :: a):=aVn hs.l64 (fun x b=>by
  rcases List.mem_cons.1 b with rfl | b
  ·exact hn
  ·exact ha x b)
 unfold hostV
 split
 ·exact⟨⟨hs.memB,hs.memL,hs.most,hs.glen,hs.g64,c,aQg hs.i64 _,by show(s.input.drop _).length<=_;rw[Bw];have:=hs.ilen;omega,hs.fuel⟩,kK _ _ (aQf hs.i64 _)⟩
 ·exact⟨⟨hs.memB,hs.memL,hs.most,hs.glen,hs.g64,c,jV,AK _,hs.fuel⟩,jV⟩
theorem bXr{e:EnvD}{c:CodeD}{s:StD}(hs:StOk e s)(ha:All64 a)(hn:c.n<18446744073709551616):StOk e (eK c a s).2.2/\(eK c a s).1<18446744073709551616:=by
 have f:=aXn ha 0;have g1:=aXn ha 1;have b:(0:Nat)<18446744073709551616:=(by omega);unfold eK
 split;· exact⟨hs,hn⟩
 split;· exact⟨hs,f⟩
 split
 ·split
  ·exact⟨hs,b⟩
  ·exact⟨⟨hs.memB,hs.memL,hs.most,hs.glen,hs.g64,hs.l64,hs.i64,hs.ilen,by have:=hs.fuel;show s.fuel - 1<=_;omega⟩,b⟩
 split
 ·refine⟨hs,?_⟩;show(if a.getD 2 0=0 then a.getD 1 0 else a.getD 0 0)<_
  split <;> assumption
 split;· exact⟨hs,aXn hs.g64 _⟩
 split
 ·exact⟨⟨hs.memB,hs.memL,hs.most,(Av ..).trans hs.glen,aKa hs.g64 _ _ f,hs.l64,hs.i64,hs.ilen,hs.fuel⟩,b⟩
 split;· exact⟨hs,b⟩
 split
 ·rename_i ad
  split
  ·refine⟨⟨?_,?_,hs.most,hs.glen,hs.g64,hs.l64,hs.i64,hs.ilen,hs.fuel⟩,b⟩
   ·show AllB (fW _ _ _ _ _);rename_i d;unfold fW;rw[if_pos d];exact aJb hs.memB _ _ _
   ·show((fW _ _ _ _ _).length:Int)<=s.most;rename_i d;have:=hs.memL;unfold fW;rw[if_pos d,aQe];exact this
  ·exact⟨hs,b⟩
 ·split
  ·exact⟨hs,(aQh (aVq hs.memB _ _ _)).1⟩
  ·exact⟨hs,b⟩
 ·have hm:=hs.cWy
  split
  ·refine⟨hs,?_⟩;show s.mem.length / 256<_;omega
  split
  ·refine⟨⟨aVm hs.memB _ _,?_,hs.most,hs.glen,hs.g64,hs.l64,hs.i64,hs.ilen,hs.fuel⟩,?_⟩
   ·show((gX _ _ _).length:Int)<=s.most;have:=hs.memL;unfold gX
    split
    ·rename_i g;unfold tV at g;simp only[decide_eq_true_eq]at g;rw[Bq,Aw];omega
    ·exact this
   ·show oQ _ _ _<_;unfold oQ
    split <;> omega
  ·exact⟨hs,(aQh (aVr _ ha)).1⟩
theorem cZf{e:EnvD}{c:CodeD}{s:StD}(hs:StOk e s)(ha:All64 a)(hn:c.n<18446744073709551616):(∀ l s',actV e c k a s = .vals l s'->StOk e s'/\All64 l)/\(∀ x s',actV e c k a s = .trap x s'->StOk e s'):=by
 constructor
 ·intro l s' h;obtain⟨_,_,_,_,_,hv⟩:=qK h;rcases hv with⟨_,_,b⟩ | ⟨_,rfl,_,rfl⟩
  ·have:=aJc (n:=c.n) (outs:=(e.sigs.getD c.n ⟨[],[]⟩).out) hs ha hn;rw[b]at this;exact this
  ·have:=bXr hs ha hn (c:=c);exact⟨this.1,aVo this.2⟩
 ·intro x s' h;unfold actV at h;simp only at h
  repeat' split at h
  all_goals first
   | (injection h with h1 h2;subst h2;first | exact hs | exact(aJc hs ha hn).1 | exact(bXr hs ha hn).1)
   | cases h
structure RawS where
 mem:List Nat
 most:Int
 globals:List Nat
 fuel:Int
 input:List Nat
 log:List Nat
def StV(w:BK)(v:BV)(s:RawS):Prop:=∃ a g i l,v = .agg #[a,.int .i64 s.most,g,.int .i64 s.fuel,i,l]/\BR w a s.mem/\UR w g s.globals/\UR w i s.input/\UR w l s.log
theorem StV.below{w w':BK}{B:Nat}{v:BV}{s:RawS}(h:StV w v s)(b:BW B w w')(c:w.heap.size<=B):StV w' v s:=by
 obtain⟨a,g,i,l,e,h1,h2,d,f⟩:=h;exact⟨a,g,i,l,e,h1.below b c,h2.below b c,d.below b c,f.below b c⟩
def RawS.of(s:StD):RawS:=⟨s.mem,s.most,s.globals,s.fuel,s.input,s.log⟩
theorem BR.shape(h:BR w v l):∃ A c,v = .slice A l.length c:=by
 obtain⟨A,c,e,_⟩:=h;exact⟨A,c,e⟩
theorem BR.len{A:Option Addr}(h:BR w (.slice A n c) l):n=l.length/\Src w A n (bys l)/\n<=c/\(A=none->c=0)/\(n<=140737488355328/\c<=9223372036854775807)/\AllB l:=by
 obtain⟨A',c',e,r⟩:=h;injection e with a e2 b;subst a;subst e2;subst b;exact⟨rfl,r⟩
theorem vJ(w:BK)(a b:Obj):BW w.heap.size w ((w.alloc a).alloc b):=((Bx _ _).alloc (Aq _) _).alloc (by simp) _
theorem eX{a b c d f h:BV}(k:Blk w g e #[a,b,c,d,f,h]):
  w.cell? ⟨g,0,none⟩=some a/\w.cell? ⟨g,1,none⟩=some b/\w.cell? ⟨g,2,none⟩=some c/\w.cell? ⟨g,3,none⟩=some d/\w.cell? ⟨g,4,none⟩=some f/\w.cell? ⟨g,5,none⟩=some h:=
 ⟨by simpa using k.cell 0,by simpa using k.cell 1,by simpa using k.cell 2,by simpa using k.cell 3,by simpa using k.cell 4,by simpa using k.cell 5⟩
theorem bVv(v u:BV)(x y:List Nat)(w:BK)(ha:BR w v x)(a:BR w u y):Calls cZ 30 #[v,u] w fun e w'=>e = .returned (.bool (decide (x=y)))/\w=w':=by
 obtain⟨A,c,rfl⟩:=ha.shape;obtain⟨B,d,rfl⟩:=a.shape;obtain⟨_,b,_,_,_,f⟩:=ha.len;obtain⟨_,g,_,_,_,h⟩:=a.len;have h1:=aWp (P:=cZ) w 31 9 5 underlying31 underlying5 underlying9 A x.length c x b f;have h2:=aWp (P:=cZ) w 31 9 5 underlying31 underlying5 underlying9 B y.length d y g h;have i:=cQ (cXm f h);clear ha a b g;go_in;go_wp2;go_ret;rw[<-i.out];exact⟨rfl,rfl⟩
theorem bVw(va f:BV)(s:RawS)(w:BK)(h1:StV w va s)(h2:StV w f s):Calls cZ 16 #[va,f] w fun en w'=>en = .returned (.bool true)/\BW w.heap.size w w':=by
 obtain⟨a,g,i,l,rfl,h,o,p,q⟩:=h1;obtain⟨b,k,j,m,rfl,r,t,u,v⟩:=h2;have d:=cQ (vJ w (.cells #[a,.int .i64 s.most,g,.int .i64 s.fuel,i,l] 33) (.cells #[b,.int .i64 s.most,k,.int .i64 s.fuel,j,m] 33));have x:=cQ (fun(w':BK) (c:BW w.heap.size w w')=>h.below c (Aq _));have y:=cQ (fun(w':BK) (c:BW w.heap.size w w')=>o.below c (Aq _));have z:=cQ (fun(w':BK) (c:BW w.heap.size w w')=>p.below c (Aq _));have A:=cQ (fun(w':BK) (c:BW w.heap.size w w')=>q.below c (Aq _));have B:=cQ (fun(w':BK) (c:BW w.heap.size w w')=>r.below c (Aq _));have C:=cQ (fun(w':BK) (c:BW w.heap.size w w')=>t.below c (Aq _));have D:=cQ (fun(w':BK) (c:BW w.heap.size w w')=>u.below c (Aq _));have E:=cQ (fun(w':BK) (c:BW w.heap.size w w')=>v.below c (Aq _));clear h o p q r t u v;have e:=cQ (fun n:Nat=>dW d.out n);go_in;go_wp2_with fail;refine(bVv _ _ _ _ _ (x.out _ d.out) (B.out _ d.out)).mono ?_;rintro en w' ⟨rfl,rfl⟩;rw[decide_eq_true (rfl:s.mem=s.mem)];go_wp2_with fail;refine(xJ _ _ _ _ _ (y.out _ d.out) (C.out _ d.out)).mono ?_;rintro en w' ⟨rfl,n1,rfl⟩;rw[decide_eq_true (rfl:s.globals=s.globals)];go_wp2_with fail;refine(xJ _ _ _ _ _ (z.out _ (e.out _)) (D.out _ (e.out _))).mono ?_;rintro en w' ⟨rfl,n2,rfl⟩;rw[decide_eq_true (rfl:s.input=s.input)];go_wp2_with fail;refine(xJ _ _ _ _ _ (A.out _ (e.out _)) (E.out _ (e.out _))).mono ?_;rintro en w' ⟨rfl,n3,rfl⟩;rw[decide_eq_true (rfl:s.log=s.log)];go_wp2;go_ret;exact⟨rfl,e.out _⟩
structure HoldsP (ks:List Int) (m:Bool) (s:RawS):Prop where
 pg:s.mem.length % 256=0
 le:(s.mem.length:Int)<=s.most
 mx:s.most<=4096
 no:m=false->s.most=0
 gl:s.globals.length=ks.length
 f0:0<=s.fuel
 f1:s.fuel<=1024
 il:s.input.length<=4096
 ll:s.log.length<=4096
 ft:∀ (k:Nat) (t:Int) (n:Nat),ks[k]? = some t->s.globals[k]? = some n->fitsB t n=true
def GivP(ks:List Int)(l:List Nat):Prop:=ks.length=l.length/\∀ (k:Nat) (t:Int) (n:Nat),ks[k]? = some t->l[k]? = some n->fitsB t n=true
def cJq(Q:Prop)(w:BK)(en:Ending)(w':BK):Prop:=∃ b:Bool,en = .returned (.bool b)/\(b=true↔Q)/\BW w.heap.size w w'
theorem aKs{e:EnvD}(h:envOk e=true):e.globals.length<=100000:=by
 unfold envOk gY at h;simp only[Ab,decide_eq_true_eq]at h;have:=h.2.1.1;omega
def FitP(e:EnvD)(s:RawS):Prop:=envOk e=true/\HoldsP e.globals e.mem s
theorem aXf:∀ (os:List Int) (c V:List Nat) (k:Nat) (o:Int) (n:Nat),os[k]? = some o->c[k]? = some n->putV (os.take (k+1)) (c.take (k+1)) V=(putV (os.take k) (c.take k) V).set o.toNat n
 | [],c,V,k,o,n,h,_=>by simp at h
 | a :: os,[],V,k,o,n,_,h=>by simp at h
 | a :: os,b :: c,V,0,o,n,h,k=>by
  simp at h k;subst h;subst k;cases os <;> cases c <;> rfl
 | a :: os,b :: c,V,k+1,o,n,h,d=>by
  simp only[List.take_succ_cons,putV];exact aXf os c _ k o n (by simpa using h) (by simpa using d)
theorem aVs:∀ (os:List Int) (a V:List Nat),(putV os a V).length=V.length
 | [],a,V=>by cases a <;> rfl
 | o :: os,[],V=>rfl
 | o :: os,n :: a,V=>by rw[putV,aVs os a,Av]
def aXg(i:Nat)(V:List Nat):List Nat:=BQ i 0++V.drop i
theorem bVq(V:List Nat):aXg 0 V=V:=rfl
theorem bVr(h:i<V.length):(aXg i V).set i 0=aXg (i+1) V:=by
 unfold aXg;rw[Af _ _ (by simp),Aw,Nat.sub_self,List.replicate_succ',List.append_assoc]
 congr 1
 rw[List.drop_eq_getElem_cons h];rfl
theorem bVs{lost:Nat}(h:i=min lost V.length):aXg i V=zeroV lost V:=by
 unfold aXg zeroV;subst h;by_cases a:lost<=V.length
 ·rw[By a]
 ·rw[Nat.min_eq_right (by omega),Ad (Aq _),Ad (by omega)]
theorem bVt{l:List Int}{p:Int}(h:l[k]? = some p):getV V (l.take (k+1))=getV V (l.take k) ++ [V.getD p.toNat 0]:=by
 obtain⟨h1,h2⟩:=List.getElem?_eq_some_iff.1 h;unfold getV;rw[List.take_succ_eq_append_getElem h1,h2,List.map_append];rfl
theorem aXh{outs:List Int}{s:StD}(ha:a.length<=8):(hostV n outs a s).2.2.log.length<=s.log.length+9:=by
 unfold hostV
 split <;> (simp;omega)
theorem cQo(c:CodeD)(a:List Nat)(s:StD):(eK c a s).2.2.log=s.log:=by
 unfold eK
 repeat' split
 all_goals rfl
theorem aJd{e:EnvD}{c:CodeD}{s:StD}(ha:a.length<=8):(∀ l s',actV e c k a s = .vals l s'->s'.log.length<=s.log.length+9)/\(∀ x s',actV e c k a s = .trap x s'->s'.log.length<=s.log.length+9):=by
 have h1:=aXh (n:=c.n) (outs:=(e.sigs.getD c.n ⟨[],[]⟩).out) (s:=s) ha;have h2:=cQo c a s;constructor
 ·intro l s' h;obtain⟨_,_,_,_,_,hv⟩:=qK h;rcases hv with⟨_,_,b⟩ | ⟨_,_,_,rfl⟩
  ·rw[b]at h1;exact h1
  ·rw[h2];omega
 ·intro x s' h;unfold actV at h;simp only at h
  repeat' split at h
  all_goals first
   | (injection h with h3 d;subst d;first | exact AX _ _ | exact h1 | (rw[h2];exact AX _ _))
   | cases h
theorem yY:∀ (a:List Int) (l:List Nat),(lowL a l).length<=a.length
 | [],l=>by cases l <;> exact Aq _
 | t :: a,[]=>AK _
 | t :: a,x :: l=>by simp only[lowL,List.length_cons];have:=yY a l;omega
theorem aKu{e:EnvD}{r:RowD}{c:CodeD}(a:CheckP e r)(b:codeOk e r c=true)(V:List Nat):(argV e r c V).length<=8:=by
 obtain⟨i,o,hf,_⟩:=cK b;have:=(aVb a.env a.sig hf).1;unfold argV inK;rw[hf];exact AV (yY _ _) this
theorem Ev.log{p:RowsD}{lost d k:Nat}{r:RowD}{V:List Nat}{s:StD}{R:ResD}(hp:ProgP p)(h:Ev p lost d r k V s R):CheckP p.env r->R.s.log.length<=s.log.length+9*R.cnt:=by
 induction h with
 | ret hc ha=>intro _;exact AX _ _
 | trap hc ha=>
  intro a;exact(aJd (aKu a (a.code _ (Az hc)) _)).2 _ _ ha
 | go hc ha hn b=>intro a;have:=b a;dsimp only;omega
 | vals hc ha hn b=>
  intro a;have h1:=(aJd (aKu a (a.code _ (Az hc)) _)).1 _ _ ha;have:=b a;dsimp only;omega
 | call hc ha hd hq hg h1 he h2 ih1 ih2=>
  intro a;have c:=ih1 (hp.row _ _ hq).1;have a2:=ih2 a;dsimp only;omega
 | callT hc ha hd hq hg h1 he ih1=>
  intro a;have c:=ih1 (hp.row _ _ hq).1;dsimp only;omega
 | deep hc ha hd=>intro _;exact AX _ _
theorem cZg{e:EnvD}{r:RowD}{c:CodeD}(V:List Nat)(a:CheckP e r)(b:c∈r.code)(d:c.op=276):(argV e r c V).length=r.sig.out.length:=by
 obtain⟨i,o,hf,h1,_⟩:=cK (a.code c b);have f:=hf;rw[d]at hf;have hf:(if c.n=0 then some (r.sig.out,([]:List Int))else none)=some (i,o):=hf
 split at hf
 ·injection hf with hf;injection hf with h2 _;unfold argV inK;rw[f];show(lowL i (getV V c.args)).length=_;rw[kX _ _ (by unfold getV;rw[BJ];exact h1.symm),h2];unfold getV;rw[BJ];exact h1
 ·cases hf
theorem Ev.dQd{p:RowsD}{lost d:Nat}{r:RowD}{s:StD}{R:ResD}(h:Ev p lost d r k V s R)(b:CheckP p.env r)(a:R.e=0):R.out.length=r.sig.out.length:=by
 induction h with
 | ret hc ha=>
  obtain⟨f,rfl⟩:=aZz ha;exact cZg _ b (Az hc) f
 | trap hc ha=>exact absurd a (aXe ha)
 | go hc ha hn c=>exact c b a
 | vals hc ha hn c=>exact c b a
 | call hc ha hd hq hg h1 he h2 ih1 ih2=>exact ih2 b a
 | callT hc ha hd hq hg h1 he ih1=>exact absurd a he
 | deep hc ha hd=>exact absurd a (show ¬(37:Int)=0 by decide)
inductive CDid (p:RowsD) (lost d n:Nat) (g:SigD) (a:List Nat) (s:StD):StD->Int->Nat->Nat->List Nat->Prop
 | host (hi:(n:Int)<p.env.imports):CDid p lost d n g a s (hostV n g.out (lowL g.inn a) s).2.2 (hostV n g.out (lowL g.inn a) s).2.1 0 0 (hostV n g.out (lowL g.inn a) s).1
 | deep (hi:¬(n:Int)<p.env.imports) (hd:16<=d):CDid p lost d n g a s s 37 0 0 []
 | call {q:RowD} {R:ResD} (hi:¬(n:Int)<p.env.imports) (hd:d<16) (hq:p.fns[n - p.env.imports.toNat]? = Ai q) (h1:Ev p lost (d+1) q 0 (initV q (lowL g.inn a)) s R):CDid p lost d n g a s R.s R.e R.cnt (q.places.toNat+R.wds) R.out
structure FrD where
 fi:Nat
 r:RowD
 k:Nat
 V:List Nat
structure MaD where
 st:List FrD
 s:StD
 out:List Nat
 e:Int
 steps:Nat
 over:Bool
 first:Option (Nat×List Nat)
def aYk:CodeD:=⟨0,0,[],[],[]⟩
def jK(x:MaD)(s:StD)(out:List Nat)(e:Int):MaD:={ x with st:=[],s:=s,out:=if e=0 then out else x.out,e:=e,over:=true }
def aQb(x:MaD)(out:List Nat):List FrD->MaD
 | []=>jK x x.s out 0
 | g :: rest=>{ x with st:={ g with V:=putV ((g.r.code[g.k - 1]?).getD aYk).outs out (zeroV 8 g.V) } :: rest }
def doM(p:RowsD)(x:MaD)(f:FrD)(rest:List FrD)(c:CodeD):ActD->MaD
 | .go k=>{ x with st:={ f with k:=k } :: rest }
 | .ret l=>aQb x l rest
 | .vals l s=>{ x with st:={ f with k:=f.k+1,V:=putV c.outs l f.V } :: rest,s:=s }
 | .trap e s=>jK x s [] e
 | .call n=>
  if 16<=rest.length+1 then jK x x.s [] 37
  else match p.fns[n - p.env.imports.toNat]?,p.env.sigs[n]? with
   | some q,some g=>{ x with st:=⟨n - p.env.imports.toNat,q,0,initV q (lowL g.inn (argV p.env f.r c f.V))⟩ :: { f with k:=f.k+1 } :: rest }
   | _,_=>x
def goM(p:RowsD)(x:MaD):MaD:=match x.first with
 | some (n,a)=>
  let h:=hostV n (p.env.sigs.getD n ⟨[],[]⟩).out (lowL (p.env.sigs.getD n ⟨[],[]⟩).inn a) x.s
  jK x h.2.2 h.1 h.2.1
 | none=>match x.st with
  | []=>x
  | f :: rest=>match f.r.code[f.k]? with
   | none=>x
   | some c=>doM p x f rest c (actV p.env c f.k (argV p.env f.r c f.V) x.s)
def dK(p:RowsD)(x:MaD):MaD:=if x.over then x else goM p { x with steps:=x.steps+1 }
def stN(p:RowsD):Nat->MaD->MaD
 | 0,x=>x
 | k+1,x=>stN p k (dK p x)
def wdM(x:MaD):Nat:=(x.st.map fun f=>f.V.length).sum
def mwM(p:RowsD):Nat->MaD->Nat
 | 0,_=>0
 | k+1,x=>max (wdM x) (mwM p k (dK p x))
theorem vZ(p:RowsD)(i j:Nat)(x:MaD):stN p (i+j) x=stN p j (stN p i x):=by
 induction i generalizing x with
 | zero=>rw[Ae];rfl
 | succ i a=>rw[Bz];exact a (dK p x)
theorem cZd(p:RowsD)(i j:Nat)(x:MaD):mwM p (i+j) x=max (mwM p i x) (mwM p j (stN p i x)):=by
 induction i generalizing x with
 | zero=>rw[Ae];show _=max 0 _;rw[Nat.zero_max];rfl
 | succ i a=>
  rw[Bz];show max (wdM x) (mwM p (i+j) (dK p x))=max (max (wdM x) (mwM p i (dK p x))) (mwM p j (stN p i (dK p x)));rw[a,Nat.max_assoc]
theorem qZ:∀ (os:List Int) (a V:List Nat),(putV os a V).length=V.length
 | [],a,V=>by cases a <;> rfl
 | o :: os,[],V=>rfl
 | o :: os,n :: a,V=>by rw[putV,qZ,Av]
theorem uZ(lost:Nat)(V:List Nat):(zeroV lost V).length=V.length:=by
 unfold zeroV;rw[Bq,Aw,Bw];omega
theorem pJ(r:RowD)(a:List Nat):(initV r a).length=r.places.toNat:=by
 unfold initV;rw[qZ,Aw]
theorem nW{p:RowsD}{x:MaD}{f:FrD}{rest:List FrD}{c:CodeD}{A:ActD}(a:x.over=false)(hf:x.first=none)(hs:x.st=f :: rest)(hc:f.r.code[f.k]? = some c)(ha:actV p.env c f.k (argV p.env f.r c f.V) x.s=A):
  dK p x=doM p { x with steps:=x.steps+1 } f rest c A:=by
 unfold dK;rw[a];simp only[AQ,if_false];unfold goM;simp only[hf,hs,hc,ha]
def endM(x:MaD)(rest:List FrD)(R:ResD):MaD:=if R.e=0 then aQb { x with steps:=x.steps+R.cnt,s:=R.s } R.out rest else jK { x with steps:=x.steps+R.cnt,s:=R.s } R.s [] R.e
theorem aZc{p:RowsD}{x:MaD}(h:∀ j,j<i->(stN p j (dK p x)).over=false)(a:x.over=false):∀ j,j<i+1->(stN p j x).over=false
 | 0,_=>a
 | j+1,hj=>h j (by omega)
theorem cQe{p:RowsD}{d:Nat}{r:RowD}{s:StD}{R:ResD}(h:Ev p 8 d r k V s R):
  ∀ (x:MaD) (fi:Nat) (rest:List FrD),x.over=false->x.first=none->x.st=⟨fi,r,k,V⟩ :: rest->x.s=s->rest.length+1=d ->
   stN p R.cnt x=endM x rest R/\(∀ i,i<R.cnt->(stN p i x).over=false)/\mwM p R.cnt x=wdM x+R.wds:=by
 induction h with
 | @ret d r k V s c l hc ha=>
  intro x fi rest a hf b hs hd;have h1:=nW (p:=p) a hf b hc (hs ▸ ha);refine⟨?_,fun i hi=>?_,?_⟩
  ·show dK p x=_;rw[h1];simp only[doM,endM,if_true];rw[<-hs]
  ·have:i=0:=(by have:i<1:=hi;omega);subst this;exact a
  ·show max (wdM x) 0=_;simp
 | @trap d r k V s s' c e hc ha=>
  intro x fi rest a hf b hs hd;have h1:=nW (p:=p) a hf b hc (hs ▸ ha);refine⟨?_,fun i hi=>?_,?_⟩
  ·show dK p x=_;rw[h1];simp only[doM,endM,if_neg (aXe ha)];simp only[jK]
  ·have:i=0:=(by have:i<1:=hi;omega);subst this;exact a
  ·show max (wdM x) 0=_;simp
 | @go d r k k' V s c R hc ha hn w=>
  intro x fi rest a hf b hs hd;have h1:=nW (p:=p) a hf b hc (hs ▸ ha);have h2:=w (dK p x) fi rest (by rw[h1];exact a) (by rw[h1];exact hf) (by rw[h1];rfl) (by rw[h1];exact hs) hd;obtain⟨o,t,u⟩:=h2;have y:wdM (dK p x)=wdM x:=(by rw[h1];simp only[doM,wdM,b,AZ]);have m:(1+R.cnt:Nat)=R.cnt+1:=AW ..;refine⟨?_,fun i hi=>?_,?_⟩
  ·show stN p (1+R.cnt) x=_;rw[m];show stN p R.cnt (dK p x)=_;rw[o,h1];simp only[endM,doM,m,BX,AW 1]
   split <;> first | rfl | (cases rest <;> rfl)
  ·exact aZc (i:=R.cnt) t a i (by have:i<1+R.cnt:=hi;omega)
  ·show mwM p (1+R.cnt) x=wdM x+R.wds;rw[m];show max (wdM x) (mwM p R.cnt (dK p x))=_;rw[u,y];omega
 | @vals d r k V s s' c l R hc ha hn w=>
  intro x fi rest a hf b hs hd;have h1:=nW (p:=p) a hf b hc (hs ▸ ha);have h2:=w (dK p x) fi rest (by rw[h1];exact a) (by rw[h1];exact hf) (by rw[h1];rfl) (by rw[h1];rfl) hd;obtain⟨o,t,u⟩:=h2;have y:wdM (dK p x)=wdM x:=(by rw[h1];simp only[doM,wdM,b,AZ,qZ]);have m:(1+R.cnt:Nat)=R.cnt+1:=AW ..;refine⟨?_,fun i hi=>?_,?_⟩
  ·show stN p (1+R.cnt) x=_;rw[m];show stN p R.cnt (dK p x)=_;rw[o,h1];simp only[endM,doM,m,BX,AW 1]
   split <;> first | rfl | (cases rest <;> rfl)
  ·exact aZc (i:=R.cnt) t a i (by have:i<1+R.cnt:=hi;omega)
  ·show mwM p (1+R.cnt) x=wdM x+R.wds;rw[m];show max (wdM x) (mwM p R.cnt (dK p x))=_;rw[u,y];omega
 | @call d r q k n V s c g R1 R2 hc ha hd hq hg h1 he h2 ih1 ih2=>
  intro x fi rest a hf b hs z;have f:=nW (p:=p) a hf b hc (hs ▸ ha);have A:¬16<=rest.length+1:=(by omega);simp only[doM,if_neg A,hq,hg]at f;obtain⟨o,t,u⟩:=ih1 (dK p x) (n - p.env.imports.toNat) (⟨fi,r,k+1,V⟩ :: rest) (by rw[f];exact a) (by rw[f];exact hf) (by rw[f]) (by rw[f];exact hs) (by simp;omega)
  have v:stN p R1.cnt (dK p x)={ x with steps:=x.steps+1+R1.cnt,s:=R1.s,st:=⟨fi,r,k+1,putV c.outs R1.out (zeroV 8 V)⟩ :: rest }:=by
   rw[o,f];simp only[endM,he,if_true,aQb,Bk,hc,Option.getD_some]
  obtain⟨C,D,E⟩:=ih2 (stN p R1.cnt (dK p x)) fi rest (by rw[v];exact a) (by rw[v];exact hf) (by rw[v]) (by rw[v]) z;have B:wdM (dK p x)=wdM x+q.places.toNat:=(by rw[f];simp only[wdM,b,AZ,Bj,pJ];omega);have F:wdM (stN p R1.cnt (dK p x))=wdM x:=(by rw[v];simp only[wdM,b,AZ,Bj,qZ,uZ]);have m:(1+R1.cnt+R2.cnt:Nat)=(R1.cnt+R2.cnt)+1:=(by omega);refine⟨?_,fun i hi=>?_,?_⟩
  ·show stN p (1+R1.cnt+R2.cnt) x=_;rw[m];show stN p (R1.cnt+R2.cnt) (dK p x)=_;rw[vZ,C,v];simp only[endM];have e2:x.steps+1+R1.cnt+R2.cnt=x.steps+(R1.cnt+R2.cnt+1):=(by omega);rw[e2]
   split <;> first | rfl | (cases rest <;> rfl)
  ·refine aZc (i:=R1.cnt+R2.cnt) (fun j hj=>?_) a i (by have:i<1+R1.cnt+R2.cnt:=hi;omega);rcases Nat.lt_or_ge j R1.cnt with h | h
   ·exact t j h
   ·have:=D (j - R1.cnt) (by omega);rw[<-vZ]at this
    rwa[show R1.cnt+(j - R1.cnt)=j by omega]at this
  ·show mwM p (1+R1.cnt+R2.cnt) x=wdM x+max (q.places.toNat+R1.wds) R2.wds;rw[m];show max (wdM x) (mwM p (R1.cnt+R2.cnt) (dK p x))=_;rw[cZd,u,E,B,F];omega
 | @callT d r q k n V s c g R1 hc ha hd hq hg h1 he ih1=>
  intro x fi rest a hf b hs z;have f:=nW (p:=p) a hf b hc (hs ▸ ha);have A:¬16<=rest.length+1:=(by omega);simp only[doM,if_neg A,hq,hg]at f;obtain⟨o,t,u⟩:=ih1 (dK p x) (n - p.env.imports.toNat) (⟨fi,r,k+1,V⟩ :: rest) (by rw[f];exact a) (by rw[f];exact hf) (by rw[f]) (by rw[f];exact hs) (by simp;omega);have B:wdM (dK p x)=wdM x+q.places.toNat:=(by rw[f];simp only[wdM,b,AZ,Bj,pJ];omega);have m:(1+R1.cnt:Nat)=R1.cnt+1:=AW ..;refine⟨?_,fun i hi=>?_,?_⟩
  ·show stN p (1+R1.cnt) x=_;rw[m];show stN p R1.cnt (dK p x)=_;rw[o,f];simp only[endM,he,if_false,jK]
   congr 1
   omega
  ·exact aZc (i:=R1.cnt) t a i (by have:i<1+R1.cnt:=hi;omega)
  ·show mwM p (1+R1.cnt) x=wdM x+(q.places.toNat+R1.wds);rw[m];show max (wdM x) (mwM p R1.cnt (dK p x))=_;rw[u,B];omega
 | @deep d r k n V s c hc ha hd=>
  intro x fi rest a hf b hs z;have h1:=nW (p:=p) a hf b hc (hs ▸ ha);have G:16<=rest.length+1:=(by omega);simp only[doM,if_pos G]at h1;refine⟨?_,fun i hi=>?_,?_⟩
  ·show dK p x=_;rw[h1];simp only[endM,jK];rw[<-hs];rfl
  ·have:i=0:=(by have:i<1:=hi;omega);subst this;exact a
  ·show max (wdM x) 0=_;simp
def eJ(p:RowsD)(n:Nat)(a:List Nat)(s:StD):MaD:=
 if(n:Int)<p.env.imports then⟨[],s,[],0,0,false,some (n,a)⟩
 else match p.fns[n - p.env.imports.toNat]?,p.env.sigs[n]? with
  | some q,some g=>⟨[⟨n - p.env.imports.toNat,q,0,initV q (lowL g.inn a)⟩],s,[],0,0,false,none⟩
  | _,_=>⟨[],s,[],0,0,false,none⟩
def gQ(p:RowsD)(n dc:Nat):Nat:=if(n:Int)<p.env.imports then 1 else dc
theorem aXc{p:RowsD}{dc wd:Nat}{g:SigD}{s s2:StD}{e2:Int}(hg:p.env.sigs[n]? = some g)(h:CDid p 8 0 n g a s s2 e2 dc wd l):
  stN p (gQ p n dc) (eJ p n a s)=⟨[],s2,if e2=0 then l else[],e2,gQ p n dc,true,(eJ p n a s).first⟩/\(∀ i,i<gQ p n dc->(stN p i (eJ p n a s)).over=false)/\mwM p (gQ p n dc) (eJ p n a s)=wd:=by
 have c:p.env.sigs.getD n ⟨[],[]⟩=g:=by rw[AY,hg];rfl
 cases h with
 | host hi=>
  unfold gQ eJ;simp only[if_pos hi];refine⟨?_,fun i h=>?_,?_⟩
  ·simp only[stN,dK,goM,c,jK,AQ,if_false]
  ·have:i=0:=(by omega);subst this;rfl
  ·show max (wdM _) 0=0;simp[wdM]
 | deep hi hd=>omega
 | @call q R hi hd hq h1=>
  unfold gQ eJ;simp only[if_neg hi,hq,hg];obtain⟨d,e,f⟩:=cQe h1 ⟨[⟨n - p.env.imports.toNat,q,0,initV q (lowL g.inn a)⟩],s,[],0,0,false,none⟩ _ [] rfl rfl rfl rfl rfl;refine⟨?_,e,?_⟩
  ·rw[d];simp only[endM]
   split
   ·rename_i b;simp only[aQb,jK,b,if_true,Ae]
   ·rename_i b;simp only[jK,b,if_false,Ae]
  ·rw[f];simp[wdM,pJ]
theorem nK{e:EnvD}(h:envOk e=true){g:SigD}(hg:e.sigs[n]? = some g):g.inn.length<=8/\g.out.length<=8:=by
 unfold envOk at h;simp only[Ab,List.all_eq_true]at h;have:=h.2.2 g (Az hg);unfold sigOk gY at this;simp only[Ab,decide_eq_true_eq]at this;exact⟨this.1.1,this.2.1⟩
structure FrOk (p:RowsD) (f:FrD):Prop where
 row:p.fns[f.fi]? = some f.r
 k:f.k<f.r.code.length
 len:f.V.length=f.r.places.toNat
 a64:All64 f.V
def ChainOk:List FrD->Prop
 | f :: g :: rest=>(∃ c,g.r.code[g.k - 1]? = some c/\1<=g.k/\c.op=16/\c.outs.length=f.r.sig.out.length)/\ChainOk (g :: rest)
 | _=>True
theorem ChainOk.tail{f:FrD}{l:List FrD}(h:ChainOk (f :: l)):ChainOk l:=by
 cases l with
 | nil=>trivial
 | cons g rest=>exact h.2
theorem ChainOk.top{f a:FrD}{l:List FrD}(h:ChainOk (f :: l))(b:a.r=f.r):ChainOk (a :: l):=by
 cases l with
 | nil=>trivial
 | cons g rest=>
  obtain⟨⟨c,h1,h2,d,e⟩,i⟩:=h;exact⟨⟨c,h1,h2,d,by rw[b];exact e⟩,i⟩
structure MOk (p:RowsD) (x:MaD):Prop where
 frs:∀ f∈x.st,FrOk p f
 chain:ChainOk x.st
 depth:x.st.length<=16
 st:StOk p.env x.s
 o64:All64 x.out
 olen:x.out.length<=200000
 live:x.over=false->x.first=none->x.st ≠ []
 nf:x.first≠none->x.st = []
 fst:∀ n a,x.first=some (n,a)->(n:Int)<p.env.imports/\All64 a/\∃ g,p.env.sigs[n]? = some g/\a.length=g.inn.length
 fin:x.over=true->x.st = []
 go:x.over=false->x.out = []/\x.e=0
 log:x.s.log.length<=4096+9*x.steps
theorem aZb{p:RowsD}{x:MaD}(h:MOk p x){s:StD}{out:List Nat}{e:Int}(hs:StOk p.env s)(a:All64 out)(b:out.length<=200000)(c:s.log.length<=4096+9*x.steps):MOk p (jK x s out e) where
 frs:=fun f hf=>by simp[jK]at hf
 chain:=trivial
 depth:=AK _
 st:=hs
 o64:=by show All64 (if e=0 then out else x.out);split <;> first | exact a | exact h.o64
 olen:=by show(if e=0 then out else x.out).length<=_;split <;> first | exact b | exact h.olen
 live:=fun h=>by simp[jK]at h
 nf:=fun _=>rfl
 fst:=h.fst
 fin:=fun _=>rfl
 go:=fun h=>by simp[jK]at h
 log:=c
theorem MOk.tick{p:RowsD}{x:MaD}(h:MOk p x):MOk p { x with steps:=x.steps+1 }:=
 { h with log:=by have:=h.log;show x.s.log.length<=4096+9*(x.steps+1);omega }
theorem MOk.stack{p:RowsD}{x:MaD}(h:MOk p x){st:List FrD}{s:StD}(a:x.over=false)(hf:x.first=none)(b:st ≠ [])(h1:∀ f∈st,FrOk p f)(h2:ChainOk st)(c:st.length<=16)(hs:StOk p.env s)(d:s.log.length<=4096+9*x.steps):MOk p { x with st:=st,s:=s }:=
 { h with frs:=h1,chain:=h2,depth:=c,st:=hs,live:=fun _ _=>b,nf:=fun e=>absurd hf e,fin:=fun e=>(by rw[show x.over=true from e]at a;cases a),log:=d }
theorem FrOk.at{p:RowsD}{f:FrD}(h:FrOk p f)(a:k<f.r.code.length):FrOk p { f with k:=k }:=⟨h.row,a,h.len,h.a64⟩
theorem FrOk.put{p:RowsD}{f:FrD}(h:FrOk p f)(a:k<f.r.code.length)(b:V.length=f.V.length)(ha:All64 V):FrOk p { f with k:=k,V:=V }:=⟨h.row,a,b.trans h.len,ha⟩
theorem aVh{p:RowsD}{f:FrD}{c:CodeD}(hp:ProgP p)(h:FrOk p f)(hc:f.r.code[f.k]? = some c)(h1:c.op≠273)(h2:c.op≠274)(a:c.op≠275)(b:c.op≠276)(d:c.op≠277):f.k+1<f.r.code.length:=by
 have e:=qW (c:=c) (k:=f.k) h1 h2 a b d;have g:((f.k+1:Nat):Int)∈nextOf c f.k:=(by rw[e];simp);exact pK (hp.row _ _ h.row).1 hc g
theorem cJm{p:RowsD}{x:MaD}{f:FrD}{rest:List FrD}{c:CodeD}(hp:ProgP p)(G:∀ (i:Nat) q,p.fns[i]? = Ai q->∀ c∈q.code,c.n<18446744073709551616)(a:MOk p x)(u:x.over=false)(hf:x.first=none)(hs:x.st=f :: rest)(hc:f.r.code[f.k]? = some c)(steps:Nat)(H:steps=x.steps+1):
  MOk p (doM p { x with steps:=steps } f rest c (actV p.env c f.k (argV p.env f.r c f.V) x.s)):=by
 subst H;have h:=a.tick;have hF:=a.frs f (by rw[hs];exact Ak ..);have A:=(hp.row _ _ hF.row).1;have D:=Az hc;have v:=A.code c D;have w:=bJc p.env f.r c hF.a64;have I:=aKu A v f.V;have E:=cZf (k:=f.k) a.st w (G _ _ hF.row c D);have F:=aJd (e:=p.env) (c:=c) (k:=f.k) (s:=x.s) I;have aA:=a.log;have y:=a.depth;rw[hs]at y;have d:∀ g∈rest,FrOk p g:=fun g hg=>a.frs g (by rw[hs];exact Ay _ hg);have j:=a.chain;rw[hs]at j
 cases ha:actV p.env c f.k (argV p.env f.r c f.V) x.s with
 | go k=>
  obtain⟨hn,_⟩:=aKr ha v;have m:=pK A hc hn
  exact h.stack u hf (by simp) (fun g hg=>by
   rcases List.mem_cons.1 hg with rfl | hg
   ·exact hF.at m
   ·exact d g hg) (j.top rfl) y h.st h.log
 | ret l=>
  obtain⟨_,rfl⟩:=aZz ha;show MOk p (aQb { x with steps:=x.steps+1 } (argV p.env f.r c f.V) rest)
  cases rest with
  | nil=>exact aZb h h.st w (by omega) h.log
  | cons g rest=>
   have B:=d g (Ak ..)
   exact h.stack u hf (by simp) (fun q hq=>by
    rcases List.mem_cons.1 hq with rfl | hq
    ·exact B.put B.k ((qZ _ _ _).trans (uZ _ _)) (uK _ _ _ w (bXa _ B.a64))
    ·exact d q (Ay _ hq)) (j.tail.top rfl) (by simp at y ⊢;omega) h.st h.log
 | vals l s=>
  obtain⟨h1,h2,J,K,L,_⟩:=qK ha;have m:=aVh hp hF hc h1 h2 J K L;have hv:=E.1 l s ha;have M:=F.1 l s ha
  exact h.stack u hf (by simp) (fun q hq=>by
   rcases List.mem_cons.1 hq with rfl | hq
   ·exact hF.put m (qZ _ _ _) (uK _ _ _ hv.2 hF.a64)
   ·exact d q hq) (j.top rfl) y hv.1 (by show s.log.length<=4096+9*(x.steps+1);omega)
 | trap e s=>
  have M:=F.2 e s ha;exact aZb h (E.2 e s ha) jV (AK _) (by show s.log.length<=4096+9*(x.steps+1);omega)
 | call n=>
  obtain⟨C,rfl,N⟩:=qJ ha;have m:=aVh hp hF hc (by omega) (by omega) (by omega) (by omega) (by omega);obtain⟨q,g,hq,hg,O⟩:=aZe hp C v N;show MOk p (if 16<=rest.length+1 then _ else _);by_cases hd:16<=rest.length+1
  ·rw[if_pos hd];exact aZb h h.st jV (AK _) h.log
  ·rw[if_neg hd];simp only[hq,hg];have P:=(hp.row _ _ hq).1;refine h.stack u hf (by simp) (fun z t=>?_) ⟨⟨c,?_,by simp,C,?_⟩,j.top rfl⟩ (by simp;omega) h.st h.log
   ·rcases List.mem_cons.1 t with rfl | t
    ·exact⟨hq,Aj Nat.one_pos P.n1,pJ _ _,aZl _ (kK _ _ w)⟩
    ·rcases List.mem_cons.1 t with rfl | t
     ·exact hF.at m
     ·exact d z t
   ·show f.r.code[f.k+1 - 1]? = some c;rw[Bk];exact hc
   ·obtain⟨i,o,b,_,Q,_⟩:=cK v;rw[C]at b;have b:(p.env.sigs[c.n]?).map (fun g=>(g.inn,g.out))=some (i,o):=b;rw[hg]at b;injection b with b;injection b with e1 e2;rw[Q,<-e2,O]
theorem cQd{p:RowsD}{x:MaD}(hp:ProgP p)(b:∀ (i:Nat) q,p.fns[i]? = Ai q->∀ c∈q.code,c.n<18446744073709551616)(h:MOk p x):MOk p (dK p x):=by
 cases ho:x.over with
 | true=>
  unfold dK;rw[ho];exact h
 | false=>
  rcases hf:x.first with _ | ⟨n,a⟩
  ·rcases hs:x.st with _ | ⟨f,rest⟩
   ·exact absurd hs (h.live ho hf)
   ·have hF:=h.frs f (by rw[hs];exact Ak ..);rw[nW ho hf hs (Aa hF.k) rfl];exact cJm hp b h ho hf hs (Aa hF.k) _ rfl
  ·unfold dK goM;obtain⟨hi,ha,g,hg,af⟩:=h.fst n a hf;have d:p.env.sigs.getD n ⟨[],[]⟩=g:=(by rw[AY,hg];rfl);simp only[ho,hf,d,AQ,if_false];have hn:n<18446744073709551616:=(by have:=iX hp.env;omega);have h1:=aJc (n:=n) (outs:=g.out) h.st (kK g.inn _ ha) hn;have j:=nK hp.env hg;have h2:=aXh (n:=n) (outs:=g.out) (s:=x.s) (a:=lowL g.inn a) (AV (yY _ _) j.1);have h3:=h.log
   have l:=aZb h.tick (e:=(hostV n g.out (lowL g.inn a) x.s).2.1) h1.1 h1.2 (by
    unfold hostV
    split
    ·show(lowL g.out _).length<=_;have:=yY g.out (x.s.input.take g.out.length);omega
    ·exact AK _) (by show _<=4096+9*(x.steps+1);omega)
   rw[show(some (n,a):Option (Nat×List Nat))=x.first from hf.symm];exact l
theorem aYj{p:RowsD}(hp:ProgP p)(a:∀ (i:Nat) q,p.fns[i]? = Ai q->∀ c∈q.code,c.n<18446744073709551616):∀ (i:Nat) {x:MaD},MOk p x->MOk p (stN p i x)
 | 0,_,h=>h
 | i+1,_,h=>aYj hp a i (cQd hp a h)
theorem bVh{p:RowsD}{x:MaD}:(goM p x).steps=x.steps:=by
 unfold goM
 split
 ·rfl
 ·split
  ·rfl
  ·split
   ·rfl
   ·rename_i f rest _ _ c _;generalize actV p.env c f.k (argV p.env f.r c f.V) x.s=A
    cases A with
    | ret l=>cases rest <;> rfl
    | call n=>
     show(if _ then _ else _:MaD).steps=_
     split
     ·rfl
     ·split <;> rfl
    | _=>rfl
theorem bQw{p:RowsD}{x:MaD}(h:x.over=false):(dK p x).steps=x.steps+1:=by
 unfold dK;rw[h];simp only[AQ,if_false];exact bVh
theorem aVi{p:RowsD}:∀ (i:Nat) {x:MaD},(∀ j,j<i->(stN p j x).over=false)->(stN p i x).steps=x.steps+i
 | 0,_,_=>rfl
 | i+1,x,h=>by
  have h1:=aVi i (x:=dK p x) (fun j hj=>h (j+1) (by omega));show(stN p i (dK p x)).steps=_;rw[h1,bQw (x:=x) (h 0 (by omega))];omega
structure KaC where
 w0:BK
 a:BV
 b:BV
 d:BV
 f:BV
 p:RowsD
 mm:Nat
 cb:Nat
 gv:BV
 fv:BV
 nb:Nat
 ab:Nat
 av:BV
 zf:Nat
 of_:Nat
structure KaS where
 x:MaD
 lab:Nat->Nat
 lv:BV
 iv:BV
 mv:BV
 sv:BV
 ov:BV
 ps:List BV
structure KK (X X':KaS) (w w':BK):Prop where
 os:w'.os=w.os
 tape:w'.tape=w.tape
 output:w'.output=w.output
 size:w.heap.size<=w'.heap.size
 keep:∀ k,k<w.heap.size->X.lab k=0->w'.heap[k]? = w.heap[k]? /\ X'.lab k=0
theorem KK.refl(X:KaS)(w:BK):KK X X w w:=⟨rfl,rfl,rfl,Aq _,fun _ _ h=>⟨rfl,h⟩⟩
theorem KK.trans{x y z:KaS}{a w2 b:BK}(h:KK x y a w2)(k:KK y z w2 b):KK x z a b:=
 ⟨k.os.trans h.os,k.tape.trans h.tape,k.output.trans h.output,AV h.size k.size,fun i hi c=>by
  have h1:=h.keep i hi c;have h2:=k.keep i (Aj hi h.size) h1.2
  exact⟨h2.1.trans h1.1,h2.2⟩⟩
theorem KK.cWq{x:KaS}(h:BW w.heap.size w w'):KK x x w w':=⟨h.os,h.tape,h.output,h.size,fun k a b=>⟨h.block k a,b⟩⟩
theorem KK.below{z x:KaS}(h:KK z x w0 w)(a:BW w.heap.size w w'):KK z x w0 w':=h.trans (KK.cWq a)
theorem KK.drew{z x:KaS}{w0 w:BK}(h:KK z x w0 w):KK z x w0 w.drew:=h.below (Bx _ _).drew
theorem KK.to{x a y:KaS}(h:KK x a w w')(h1:y.lab=a.lab):KK x y w w':=
 ⟨h.os,h.tape,h.output,h.size,fun k b c=>⟨(h.keep k b c).1,by rw[h1];exact(h.keep k b c).2⟩⟩
theorem KK.from{x y a:KaS}(h:KK x a w w')(h1:y.lab=x.lab):KK y a w w':=
 ⟨h.os,h.tape,h.output,h.size,fun k b c=>h.keep k b (by rw[<-h1];exact c)⟩
theorem KK.set{x y z:KaS}(h:KK z x w0 w)(i:Nat)(u:BV)(hg:x.lab g≠0\/w0.heap.size<=g)(a:y.lab=x.lab):KK z y w0 (w.setCell ⟨g,i,none⟩ u):=
 ⟨h.os,h.tape,h.output,AV h.size (by simp[AJ]),fun k b c=>by
  have h2:=h.keep k b c;refine⟨(Ax _ _ _ _ (fun e=>?_)).trans h2.1,by rw[a];exact h2.2⟩;have e:k=g:=e;subst e;rcases hg with hg | hg
  ·exact hg h2.2
  ·omega⟩
theorem KK.grown{x z:KaS}{r:Option Nat}(h:KK z x w0 w)(hg:w.grownBy w' r)(c:∀ k,r=some k->x.lab k≠0\/w0.heap.size<=k):KK z x w0 w':=
 ⟨hg.os.trans h.os,hg.tape.trans h.tape,hg.output.trans h.output,AV h.size hg.size,fun k a d=>by
  have h2:=h.keep k a d;refine⟨(hg.block k (Aj a h.size) (fun e=>?_)).trans h2.1,h2.2⟩;rcases c k e.symm with b | b
  ·exact b h2.2
  ·omega⟩
theorem KK.blk{x a:KaS}(h:KK x a w w'){cs:Array BV}(k:Blk w g e cs)(b:x.lab g=0):Blk w' g e cs:=((h.keep g k.lt b).1).trans k
theorem KK.ur{x a:KaS}(h:KK x a w w')(k:UR w v l)(b:∀ g,v.ownBlock=some g->x.lab g=0):UR w' v l:=
 k.heap h.size (fun g hg c=>(h.keep g c (b g hg)).1)
def eZ(lab:Nat->Nat)(v:BV)(c:Nat):Nat->Nat:=fun k=>if v.ownBlock=some k then c else lab k
theorem nQ{lab:Nat->Nat}(h:v.ownBlock=some k):eZ lab v c k=c:=by unfold eZ;rw[if_pos h]
theorem jY{lab:Nat->Nat}(h:v.ownBlock≠some k):eZ lab v c k=lab k:=by unfold eZ;rw[if_neg h]
theorem KK.cWs{x z:KaS}(h:KK z x w0 w){c:Nat}(hv:∀ k,v.ownBlock=some k->w0.heap.size<=k\/x.lab k≠0):KK z { x with lab:=eZ x.lab v c } w0 w:=
 ⟨h.os,h.tape,h.output,h.size,fun k b d=>by
  have h2:=h.keep k b d;refine⟨h2.1,?_⟩;show eZ x.lab v c k=0;rw[jY]
  ·exact h2.2
  ·intro e;rcases hv k e with a | a
   ·omega
   ·exact a h2.2⟩
def kCells(C:KaC)(X:KaS):Array BV:=#[C.a,.int .i64 C.p.env.imports,C.b,C.d,.bool C.p.env.mem,C.f,X.mv,.int .i64 X.x.s.most,C.gv,.int .i64 (X.x.s.fuel:Int),X.iv,X.lv,X.sv,X.ov,.int .i64 X.x.e,.int .i64 (X.x.steps:Int),.bool X.x.over,C.fv]
def mX(C:KaC)(f:FrD)(v:BV):List BV:=[.pointer (some ⟨C.zf,C.of_+f.fi*5,none⟩),.int .i64 (f.k:Int),v]
def stCells(C:KaC):List FrD->List BV->List BV
 | f :: l,v :: vs=>stCells C l vs++mX C f v
 | _,_=>[]
def PlsV(w:BK)(base:Nat)(lab:Nat->Nat):List FrD->List BV->Prop
 | f :: l,v :: vs=>(w.ownsRow base 62 1 v f.V.length (u64V f.V)/\∀ k,v.ownBlock=some k->lab k=10+l.length)/\PlsV w base lab l vs
 | [],[]=>True
 | _,_=>False
theorem PlsV.len{w:BK}{base:Nat}{lab:Nat->Nat}:∀ {l:List FrD} {vs:List BV},PlsV w base lab l vs->vs.length=l.length
 | [],[],_=>rfl
 | f :: l,v :: vs,h=>by simp[PlsV.len h.2]
 | [],_ :: _,h=>h.elim
 | _ :: _,[],h=>h.elim
theorem PlsV.heap{w w':BK}{base:Nat}{lab c:Nat->Nat}:∀ {l:List FrD} {vs:List BV},PlsV w base lab l vs->(∀ k,10<=lab k->lab k<10+l.length->k<w.heap.size->w'.heap[k]? = w.heap[k]? /\ c k=lab k)->PlsV w' base c l vs
 | [],[],_,_=>trivial
 | f :: l,v :: vs,h,b=>by
  refine⟨⟨wK h.1.1 (fun k a d=>(b k (by rw[h.1.2 k a];omega) (by rw[h.1.2 k a];simp) d).1),fun k a=>?_⟩,h.2.heap (fun k h1 h2=>b k h1 (by simp;omega))⟩;rw[(b k (by rw[h.1.2 k a];omega) (by rw[h.1.2 k a];simp) (h.1.1.lt k a).2).2,h.1.2 k a]
 | [],_ :: _,h,_=>h.elim
 | _ :: _,[],h,_=>h.elim
theorem oZ(C:KaC):∀ {l:List FrD} {vs:List BV},vs.length=l.length->(stCells C l vs).length=l.length*3
 | [],[],_=>rfl
 | f :: l,v :: vs,h=>by
  have:=oZ C (l:=l) (vs:=vs) (by simpa using h);simp[stCells,mX,this];omega
 | [],_ :: _,h=>by simp at h
 | _ :: _,[],h=>by simp at h
def FstV(C:KaC)(lab:Nat->Nat)(w:BK):Option (Nat×List Nat)->Prop
 | none=>C.fv = .nilFunc
 | some (n,a)=>(∃ fn ca,C.fv = .func fn #[] ca)/\Blk w C.nb 3 #[.int .i64 (n:Int)]/\Blk w C.ab 30 #[C.av]/\UR w C.av a/\lab C.nb=9/\lab C.ab=9/\∀ k,C.av.ownBlock=some k->lab k=9
structure KRest (C:KaC) (X:KaS) (w:BK):Prop where
 bel:BW C.w0.heap.size C.w0 w
 lb:∀ k,X.lab k≠0->C.w0.heap.size<=k/\k<w.heap.size
 cl:X.lab C.cb=1
 mm:Blk w C.mm 57 #[.pointer (some ⟨C.cb,0,none⟩)]
 ml:X.lab C.mm=2
 glo:w.ownsRow C.w0.heap.size 62 1 C.gv X.x.s.globals.length (u64V X.x.s.globals)
 l3:∀ k,C.gv.ownBlock=some k->X.lab k=3
 log:w.ownsRow C.w0.heap.size 62 1 X.lv X.x.s.log.length (u64V X.x.s.log)
 l4:∀ k,X.lv.ownBlock=some k->X.lab k=4
 inp:UR w X.iv X.x.s.input
 l5:∀ k,X.iv.ownBlock=some k->X.lab k=5
 mem:BR w X.mv X.x.s.mem
 l6:∀ k,X.mv.ownBlock=some k->X.lab k=6
 stk:w.ownsRow C.w0.heap.size 77 3 X.sv X.x.st.length (stCells C X.x.st X.ps)
 l7:∀ k,X.sv.ownBlock=some k->X.lab k=7
 out:UR w X.ov X.x.out
 l8:∀ k,X.ov.ownBlock=some k->X.lab k=8
 fst:FstV C X.lab w X.x.first
 pls:PlsV w C.w0.heap.size X.lab X.x.st X.ps
structure KRef (C:KaC) (X:KaS) (w:BK):Prop extends KRest C X w where
 cb:Blk w C.cb 68 (kCells C X)
structure KC (C:KaC):Prop where
 rows:RowsV C.w0 (.agg #[C.a,.int .i64 C.p.env.imports,C.b,C.d,.bool C.p.env.mem,C.f]) C.p
 ok:ProgP C.p
 adr:C.p.fns ≠ []->∃ n c,C.f = .slice (some ⟨C.zf,C.of_,none⟩) n c
theorem FstV.heap{C:KaC}{lab d:Nat->Nat}{w w':BK}{o:Option (Nat×List Nat)}(h:FstV C lab w o)(hs:w.heap.size<=w'.heap.size)(b:∀ k,lab k=9->w'.heap[k]? = w.heap[k]? /\ d k=9):FstV C d w' o:=by
 cases o with
 | none=>exact h
 | some x=>
  obtain⟨n,a⟩:=x;obtain⟨h1,h2,i,j,e,f,g⟩:=h;exact⟨h1,(b _ e).1.trans h2,(b _ f).1.trans i,j.heap hs (fun k c _=>(b k (g k c)).1),(b _ e).2,(b _ f).2,fun k c=>(b k (g k c)).2⟩
theorem KRest.but{C:KaC}{X Y:KaS}(h:KRest C X w)(c:Nat)(hs:w.heap.size<=w'.heap.size)(u:BW C.w0.heap.size C.w0 w')(d:∀ k,X.lab k≠0->X.lab k≠c->w'.heap[k]? = w.heap[k]?)
  (y:∀ k,Y.lab k≠0->C.w0.heap.size<=k/\k<w'.heap.size) (f:∀ k,X.lab k≠0->X.lab k≠c->Y.lab k=X.lab k)
  (c1:Y.lab C.cb=1) (i:c≠2)
  (l:c=3/\(w'.ownsRow C.w0.heap.size 62 1 C.gv Y.x.s.globals.length (u64V Y.x.s.globals)/\∀ k,C.gv.ownBlock=some k->Y.lab k=3)\/c≠3/\Y.x.s.globals=X.x.s.globals)
  (m:c=4/\(w'.ownsRow C.w0.heap.size 62 1 Y.lv Y.x.s.log.length (u64V Y.x.s.log)/\∀ k,Y.lv.ownBlock=some k->Y.lab k=4)\/c≠4/\Y.lv=X.lv/\Y.x.s.log=X.x.s.log)
  (n:c=5/\(UR w' Y.iv Y.x.s.input/\∀ k,Y.iv.ownBlock=some k->Y.lab k=5)\/c≠5/\Y.iv=X.iv/\Y.x.s.input=X.x.s.input)
  (o:c=6/\(BR w' Y.mv Y.x.s.mem/\∀ k,Y.mv.ownBlock=some k->Y.lab k=6)\/c≠6/\Y.mv=X.mv/\Y.x.s.mem=X.x.s.mem)
  (p:(w'.ownsRow C.w0.heap.size 77 3 Y.sv Y.x.st.length (stCells C Y.x.st Y.ps)/\∀ k,Y.sv.ownBlock=some k->Y.lab k=7)\/c≠7/\Y.sv=X.sv/\Y.x.st.length=X.x.st.length/\stCells C Y.x.st Y.ps=stCells C X.x.st X.ps)
  (r:c=8/\(UR w' Y.ov Y.x.out/\∀ k,Y.ov.ownBlock=some k->Y.lab k=8)\/c≠8/\Y.ov=X.ov/\Y.x.out=X.x.out)
  (g:c≠9/\Y.x.first=X.x.first)
  (e10:PlsV w' C.w0.heap.size Y.lab Y.x.st Y.ps\/c<10/\Y.x.st=X.x.st/\Y.ps=X.ps):KRest C Y w':=by
 have q:∀ {v:BV} {j:Nat},(∀ k,v.ownBlock=some k->X.lab k=j)->j≠0->j≠c->(∀ k,v.ownBlock=some k->k<w.heap.size->w'.heap[k]? = w.heap[k]?)/\∀ k,v.ownBlock=some k->Y.lab k=j:=fun b h1 h2=>
  ⟨fun k a _=>d k (by rw[b k a];exact h1) (by rw[b k a];exact h2),fun k a=>by rw[f k (by rw[b k a];exact h1) (by rw[b k a];exact h2)];exact b k a⟩
 refine⟨u,y,c1,?_,?_,?_,?_,?_,?_,?_,?_,?_,?_,?_,?_,?_,?_,?_,?_⟩
 ·exact(d C.mm (by rw[h.ml];decide) (by rw[h.ml];exact fun e=>i e.symm)).trans h.mm
 ·rw[f C.mm (by rw[h.ml];decide) (by rw[h.ml];exact fun e=>i e.symm)];exact h.ml
 ·rcases l with⟨_,e⟩ | ⟨hc,e⟩
  ·exact e.1
  ·rw[e];exact wK h.glo (q h.l3 (by decide) (fun e=>hc e.symm)).1
 ·rcases l with⟨_,e⟩ | ⟨hc,e⟩
  ·exact e.2
  ·exact(q h.l3 (by decide) (fun e=>hc e.symm)).2
 ·rcases m with⟨_,e⟩ | ⟨hc,e,e'⟩
  ·exact e.1
  ·rw[e,e'];exact wK h.log (q h.l4 (by decide) (fun e=>hc e.symm)).1
 ·rcases m with⟨_,e⟩ | ⟨hc,e,e'⟩
  ·exact e.2
  ·rw[e];exact(q h.l4 (by decide) (fun e=>hc e.symm)).2
 ·rcases n with⟨_,e⟩ | ⟨hc,e,e'⟩
  ·exact e.1
  ·rw[e,e'];exact h.inp.heap hs (q h.l5 (by decide) (fun e=>hc e.symm)).1
 ·rcases n with⟨_,e⟩ | ⟨hc,e,e'⟩
  ·exact e.2
  ·rw[e];exact(q h.l5 (by decide) (fun e=>hc e.symm)).2
 ·rcases o with⟨_,e⟩ | ⟨hc,e,e'⟩
  ·exact e.1
  ·rw[e,e'];exact h.mem.heap hs (q h.l6 (by decide) (fun e=>hc e.symm)).1
 ·rcases o with⟨_,e⟩ | ⟨hc,e,e'⟩
  ·exact e.2
  ·rw[e];exact(q h.l6 (by decide) (fun e=>hc e.symm)).2
 ·rcases p with e | ⟨hc,e,e',t⟩
  ·exact e.1
  ·rw[e,e',t];exact wK h.stk (q h.l7 (by decide) (fun e=>hc e.symm)).1
 ·rcases p with e | ⟨hc,e,e',t⟩
  ·exact e.2
  ·rw[e];exact(q h.l7 (by decide) (fun e=>hc e.symm)).2
 ·rcases r with⟨_,e⟩ | ⟨hc,e,e'⟩
  ·exact e.1
  ·rw[e,e'];exact h.out.heap hs (q h.l8 (by decide) (fun e=>hc e.symm)).1
 ·rcases r with⟨_,e⟩ | ⟨hc,e,e'⟩
  ·exact e.2
  ·rw[e];exact(q h.l8 (by decide) (fun e=>hc e.symm)).2
 ·rw[g.2];exact h.fst.heap hs (fun k a=>⟨d k (by rw[a];decide) (by rw[a];exact fun e=>g.1 e.symm),by rw[f k (by rw[a];decide) (by rw[a];exact fun e=>g.1 e.symm)];exact a⟩)
 ·rcases e10 with e | ⟨hc,e,e'⟩
  ·exact e
  ·rw[e,e'];exact h.pls.heap (fun k h1 _ _=>⟨d k (by omega) (by omega),f k (by omega) (by omega)⟩)
theorem KRef.heap{C:KaC}{X:KaS}{w w':BK}(h:KRef C X w)(hs:w.heap.size<=w'.heap.size)(a:∀ k,X.lab k≠0->w'.heap[k]? = w.heap[k]?)(c:BW C.w0.heap.size C.w0 w'):KRef C X w':=
 { h.toKRest.but (Y:=X) 0 hs c (fun k h1 _=>a k h1) (fun k b=>⟨(h.lb k b).1,Aj (h.lb k b).2 hs⟩) (fun _ _ _=>rfl) h.cl (by decide) (.inr ⟨by decide,rfl⟩) (.inr ⟨by decide,rfl,rfl⟩) (.inr ⟨by decide,rfl,rfl⟩) (.inr ⟨by decide,rfl,rfl⟩) (.inr ⟨by decide,rfl,rfl,rfl⟩) (.inr ⟨by decide,rfl,rfl⟩) ⟨by decide,rfl⟩ (.inr ⟨by decide,rfl,rfl⟩)with
  cb:=(a C.cb (by rw[h.cl];decide)).trans h.cb }
theorem KRef.below{C:KaC}{X:KaS}(h:KRef C X w)(a:BW w.heap.size w w'):KRef C X w':=
 h.heap a.size (fun k b=>a.block k (h.lb k b).2) (h.bel.trans (a.mono h.bel.size))
theorem KRef.drewN{C:KaC}{X:KaS}{w:BK}(h:KRef C X w)(n:Nat):KRef C X (w.drewN n):=h.below (dW (Bx _ _) n)
theorem KRef.drew{C:KaC}{X:KaS}{w:BK}(h:KRef C X w):KRef C X w.drew:=h.below (Bx _ _).drew
theorem KRef.cYp{C:KaC}{X:KaS}(h:KRef C X w)(u:BV)(hg:X.lab g=0)(a:C.w0.heap.size<=g):KRef C X (w.setCell ⟨g,i,none⟩ u):=
 h.heap (by simp[AJ]) (fun k b=>Ax _ _ _ _ (fun e=>b (by have:k=g:=e;rw[this];exact hg))) (h.bel.setCell (p:=⟨g,i,none⟩) a _)
theorem KRef.fresh{C:KaC}{X:KaS}(h:KRest C X w)(hk:w.heap.size<=k):X.lab k=0:=by
 by_cases a:X.lab k=0
 ·exact a
 ·have:=(h.lb k a).2;omega
theorem KRest.cWs{C:KaC}{X:KaS}(h:KRest C X w)(v:BV)(c:Nat)(hv:∀ k,v.ownBlock=some k->X.lab k=0/\C.w0.heap.size<=k/\k<w.heap.size):KRest C { X with lab:=eZ X.lab v c } w:=by
 have b:∀ k,X.lab k≠0->eZ X.lab v c k=X.lab k:=fun k a=>jY (fun e=>a (hv k e).1);refine h.but (Y:={ X with lab:=eZ X.lab v c }) 0 (Aq _) h.bel (fun _ _ _=>rfl) (fun k a=>?_) (fun k a _=>b k a) ((b _ (by rw[h.cl];decide)).trans h.cl) (by decide) (.inr ⟨by decide,rfl⟩) (.inr ⟨by decide,rfl,rfl⟩) (.inr ⟨by decide,rfl,rfl⟩) (.inr ⟨by decide,rfl,rfl⟩) (.inr ⟨by decide,rfl,rfl,rfl⟩) (.inr ⟨by decide,rfl,rfl⟩) ⟨by decide,rfl⟩ (.inr ⟨by decide,rfl,rfl⟩);have a:eZ X.lab v c k≠0:=a;by_cases e:v.ownBlock=some k
 ·exact(hv k e).2
 ·rw[jY e]at a;exact h.lb k a
theorem KRef.cWs{C:KaC}{X:KaS}{w:BK}(h:KRef C X w)(v:BV)(c:Nat)(hv:∀ k,v.ownBlock=some k->X.lab k=0/\C.w0.heap.size<=k/\k<w.heap.size):KRef C { X with lab:=eZ X.lab v c } w:=
 { h.toKRest.cWs v c hv with cb:=h.cb }
theorem KRest.cYa{C:KaC}{Y:KaS}(a:KRest C Y w){cs:Array BV}(f:Blk w C.cb 68 cs)(i:Nat)(u:BV)(hc:cs.setIfInBounds i u=kCells C Y):KRef C Y (w.setCell ⟨C.cb,i,none⟩ u):=by
 have g:C.w0.heap.size<=C.cb:=(a.lb C.cb (by rw[a.cl];decide)).1;have b:w.heap.size<=(w.setCell ⟨C.cb,i,none⟩ u).heap.size:=(by simp[AJ]);have h:∀ k,Y.lab k≠0->Y.lab k≠1->(w.setCell ⟨C.cb,i,none⟩ u).heap[k]? = w.heap[k]?:=fun k _ h1=>Ax _ _ _ _ (fun e=>h1 (by have:k=C.cb:=e;rw[this];exact a.cl));have c:=fY f i u;rw[hc]at c;exact { a.but (Y:=Y) 1 b (a.bel.setCell (p:=⟨C.cb,i,none⟩) g _) h (fun k d=>⟨(a.lb k d).1,Aj (a.lb k d).2 b⟩) (fun _ _ _=>rfl) a.cl (by decide) (.inr ⟨by decide,rfl⟩) (.inr ⟨by decide,rfl,rfl⟩) (.inr ⟨by decide,rfl,rfl⟩) (.inr ⟨by decide,rfl,rfl⟩) (.inr ⟨by decide,rfl,rfl,rfl⟩) (.inr ⟨by decide,rfl,rfl⟩) ⟨by decide,rfl⟩ (.inr ⟨by decide,rfl,rfl⟩)with cb:=c }
theorem KRef.cWv{C:KaC}{X Y:KaS}(h:KRef C X w)(a:KRest C Y w)(i:Nat)(u:BV)(hc:(kCells C X).setIfInBounds i u=kCells C Y):KRef C Y (w.setCell ⟨C.cb,i,none⟩ u):=a.cYa h.cb i u hc
theorem KRef.cell{C:KaC}{X:KaS}{w:BK}(h:KRef C X w)(i:Nat):w.cell? ⟨C.cb,i,none⟩=(kCells C X)[i]?:=h.cb.cell i
theorem KRef.cWp{C:KaC}{X:KaS}(h:KRef C X w):w.cell? ⟨C.mm,0,none⟩=some (.pointer (some ⟨C.cb,0,none⟩)):=h.mm.cell 0
theorem cQl{base size cap:Nat}{b:List BV}(h:w.ownsRow base e size (.slice (some ⟨g,0,none⟩) n cap) n b){m:Nat}(c:m<=n):w.ownsRow base e size (.slice (some ⟨g,0,none⟩) m cap) m (b.take (m*size)):=by
 have d:m*size<=n*size:=Nat.mul_le_mul_right size c;rcases h.2 with⟨h1,_⟩ | ⟨g',ae,cur,h1,f,hg,ah,i,j,k⟩
 ·cases h1
 ·injection h1 with a e2 l;injection a with a;injection a with a;subst a;subst l;refine⟨?_,.inr ⟨g,cap,cur,rfl,f,hg,by omega,i,j,?_⟩⟩
  ·rw[Bv,h.1];omega
  ·rw[<-k,List.take_take,By d]
theorem PlsV.cons{base:Nat}{lab:Nat->Nat}{f:FrD}{l:List FrD}:∀ {ps:List BV},PlsV w base lab (f :: l) ps->∃ v vs,ps=v :: vs
 | v :: vs,_=>⟨v,vs,rfl⟩
 | [],h=>h.elim
theorem KRest.same{C:KaC}{X:KaS}(h:KRest C X w)(Y:KaS)(a:Y.lab=X.lab:=by rfl)(c:Y.x.s.globals=X.x.s.globals:=by rfl)(d:Y.lv=X.lv:=by rfl)(e:Y.x.s.log=X.x.s.log:=by rfl)(f:Y.iv=X.iv:=by rfl)(g:Y.x.s.input=X.x.s.input:=by rfl)
  (i:Y.mv=X.mv:=by rfl) (j:Y.x.s.mem=X.x.s.mem:=by rfl) (l:Y.sv=X.sv:=by rfl) (b:Y.x.st=X.x.st:=by rfl) (m:Y.ov=X.ov:=by rfl) (n:Y.x.out=X.x.out:=by rfl) (o:Y.x.first=X.x.first:=by rfl) (e10:Y.ps=X.ps:=by rfl):KRest C Y w:=
 h.but 0 (Aq _) h.bel (fun _ _ _=>rfl) (fun k p=>h.lb k (by rw[<-a];exact p)) (fun k _ _=>by rw[a]) (by rw[a];exact h.cl) (by decide) (.inr ⟨by decide,c⟩) (.inr ⟨by decide,d,e⟩) (.inr ⟨by decide,f,g⟩) (.inr ⟨by decide,i,j⟩) (.inr ⟨by decide,l,by rw[b],by rw[b,e10]⟩) (.inr ⟨by decide,m,n⟩) ⟨by decide,o⟩ (.inr ⟨by decide,b,e10⟩)
theorem KRef.lcb{C:KaC}{X:KaS}(h:KRest C X w):X.lab C.cb≠0:=by rw[h.cl];decide
theorem KRef.cYj{C:KaC}{X:KaS}(h:KRef C X w)(n:Nat):KRef C { X with x:={ X.x with steps:=n } } (w.setCell ⟨C.cb,15,none⟩ (.int .i64 (n:Int))):=
 h.cWv (h.toKRest.same _) 15 _ (by simp[kCells])
theorem KRef.cYq{C:KaC}{X:KaS}(h:KRef C X w)(n:Nat):KRef C { X with x:={ X.x with s:={ X.x.s with fuel:=n } } } (w.setCell ⟨C.cb,9,none⟩ (.int .i64 (n:Int))):=
 h.cWv (h.toKRest.same _) 9 _ (by simp[kCells])
theorem KRef.cYr{C:KaC}{X:KaS}(h:KRef C X w)(n:Int):KRef C { X with x:={ X.x with e:=n } } (w.setCell ⟨C.cb,14,none⟩ (.int .i64 n)):=
 h.cWv (h.toKRest.same _) 14 _ (by simp[kCells])
theorem KRef.cYs{C:KaC}{X:KaS}(h:KRef C X w)(b:Bool):KRef C { X with x:={ X.x with over:=b } } (w.setCell ⟨C.cb,16,none⟩ (.bool b)):=
 h.cWv (h.toKRest.same _) 16 _ (by simp[kCells])
theorem KRef.cYt{C:KaC}{X:KaS}(h:KRef C X w):KRef C { X with sv:=.slice none 0 0,ps:=[],x:={ X.x with st:=[] } } (w.setCell ⟨C.cb,12,none⟩ (.slice none 0 0)):=
 h.cWv (Y:={ X with sv:=.slice none 0 0,ps:=[],x:={ X.x with st:=[] } }) { h.toKRest with stk:=World.ownsRow_nil _ _ _ _,l7:=(fun _ e=>by cases e),pls:=trivial } 12 _ (by simp[kCells])
theorem KRef.cYu{C:KaC}{X:KaS}(h:KRef C X w)(v:BV)(l:List Nat)(hv:UR w v l)(a:∀ k,v.ownBlock=some k->X.lab k=8):KRef C { X with ov:=v,x:={ X.x with out:=l } } (w.setCell ⟨C.cb,13,none⟩ v):=
 h.cWv (Y:={ X with ov:=v,x:={ X.x with out:=l } }) { h.toKRest with out:=hv,l8:=a } 13 _ (by simp[kCells])
theorem KRef.cYk{C:KaC}{X:KaS}(h:KRef C X w)(v:BV)(l:List Nat)(hv:BR w v l)(a:∀ k,v.ownBlock=some k->X.lab k=6):KRef C { X with mv:=v,x:={ X.x with s:={ X.x.s with mem:=l } } } (w.setCell ⟨C.cb,6,none⟩ v):=
 h.cWv (Y:={ X with mv:=v,x:={ X.x with s:={ X.x.s with mem:=l } } }) { h.toKRest with mem:=hv,l6:=a } 6 _ (by simp[kCells])
theorem KRef.cYv{C:KaC}{X:KaS}(h:KRef C X w)(v:BV)(l:List Nat)(hv:UR w v l)(a:∀ k,v.ownBlock=some k->X.lab k=5):KRef C { X with iv:=v,x:={ X.x with s:={ X.x.s with input:=l } } } (w.setCell ⟨C.cb,10,none⟩ v):=
 h.cWv (Y:={ X with iv:=v,x:={ X.x with s:={ X.x.s with input:=l } } }) { h.toKRest with inp:=hv,l5:=a } 10 _ (by simp[kCells])
theorem KRef.cYb{C:KaC}{X:KaS}(h:KRef C X w)(v:BV)(st:List FrD)(ps:List BV)(hv:w.ownsRow C.w0.heap.size 77 3 v st.length (stCells C st ps))(a:∀ k,v.ownBlock=some k->X.lab k=7)(hp:PlsV w C.w0.heap.size X.lab st ps):KRef C { X with sv:=v,ps:=ps,x:={ X.x with st:=st } } (w.setCell ⟨C.cb,12,none⟩ v):=
 h.cWv (Y:={ X with sv:=v,ps:=ps,x:={ X.x with st:=st } }) { h.toKRest with stk:=hv,l7:=a,pls:=hp } 12 _ (by simp[kCells])
theorem KC.row{C:KaC}(l:KC C){w:BK}(m:BW C.w0.heap.size C.w0 w){i:Nat}{r:RowD}(g:C.p.fns[i]? = some r):∃ p q s u,C.zf<w.heap.size/\w.cell? ⟨C.zf,C.of_+i*5,none⟩=some p/\w.cell? ⟨C.zf,C.of_+i*5+1,none⟩=some q/\w.cell? ⟨C.zf,C.of_+i*5+2,none⟩=some (.int .i64 r.places)/\w.cell? ⟨C.zf,C.of_+i*5+3,none⟩=some s/\w.cell? ⟨C.zf,C.of_+i*5+4,none⟩=some u /\
  Ints C.w0 p r.sig.inn/\Ints C.w0 q r.sig.out/\Ints C.w0 s r.params/\Structs 5 CodeC C.w0 u r.code:=by
 obtain⟨n,c,hf⟩:=l.adr (fun e=>by rw[e]at g;simp at g);obtain⟨a,b,d,f,e,_,_,_,t⟩:=l.rows;injection e with e;injection e with e;simp only[List.cons.injEq,and_true]at e;obtain⟨_,_,_,_,_,y⟩:=e;rw[<-y,hf]at t;obtain⟨b',o,p,q,s,u,e,x,z,A,B,D,E,h⟩:=t.row g;injection e with e;injection e with F e2;subst F;subst e2;have k:=fun(j:Nat) (v:BV) (G:C.w0.cell? ⟨C.zf,j,none⟩=some v)=>(m.cell (p:=⟨C.zf,j,none⟩) x).trans G;exact⟨p,q,s,u,Aj x m.size,k _ _ z,k _ _ A,k _ _ B,k _ _ D,k _ _ E,h⟩
theorem KC.code{C:KaC}{w:BK}(a:BW C.w0.heap.size C.w0 w){A:Option Addr}{n f:Nat}{l:List CodeD}(h:Structs 5 CodeC C.w0 (.slice A n f) l){k:Nat}{c:CodeD}(hc:l[k]? = some c):n=l.length/\k<n/\∃ b o p q r,A=some ⟨b,o,none⟩/\b<w.heap.size/\w.cell? ⟨b,o+k*5,none⟩=some (.int .i64 c.op)/\w.cell? ⟨b,o+k*5+1,none⟩=some (.int .u64 (c.n:Int))/\w.cell? ⟨b,o+k*5+2,none⟩=some p/\w.cell? ⟨b,o+k*5+3,none⟩=some q/\w.cell? ⟨b,o+k*5+4,none⟩=some r /\
  CodeV C.w0 (.agg #[.int .i64 c.op,.int .u64 (c.n:Int),p,q,r]) c:=by
 have hn:=h.cWr.1;refine⟨hn,by rw[hn];exact(List.getElem?_eq_some_iff.1 hc).1,?_⟩;obtain⟨b,o,p,q,r,e,d,g,i,m,s,t,u,h1,h2,x⟩:=h.code hc;have k:=fun(j:Nat) (v:BV) (y:C.w0.cell? ⟨b,j,none⟩=some v)=>(a.cell (p:=⟨b,j,none⟩) d).trans y;exact⟨b,o,p,q,r,e,Aj d a.size,k _ _ g,k _ _ i,k _ _ m,k _ _ s,k _ _ t,p,q,r,rfl,u,h1,h2,x⟩
theorem KC.sig{C:KaC}(m:KC C){w:BK}(o:BW C.w0.heap.size C.w0 w){n:Nat}{g:SigD}(hg:C.p.env.sigs[n]? = some g):∃ h i l cs p q,C.a = .slice (some ⟨h,i,none⟩) l cs/\n<l/\l<=64/\h<w.heap.size/\w.cell? ⟨h,i+n*2,none⟩=some p/\w.cell? ⟨h,i+n*2+1,none⟩=some q/\Ints C.w0 p g.inn/\Ints C.w0 q g.out:=by
 obtain⟨a,b,d,f,e,h1,_,_,_⟩:=m.rows;injection e with e;injection e with e;simp only[List.cons.injEq,and_true]at e;obtain⟨t,_⟩:=e;obtain⟨A,c,r,_⟩:=h1.len;have h2:=h1;rw[r]at h2;obtain⟨h,i,p,q,e2,s,u,x,y,z⟩:=h2.sig hg;subst e2;have k:=fun(j:Nat) (v:BV) (B:C.w0.cell? ⟨h,j,none⟩=some v)=>(o.cell (p:=⟨h,j,none⟩) s).trans B;exact⟨h,i,_,c,p,q,t.trans r,(List.getElem?_eq_some_iff.1 hg).1,(iX m.ok.env).1,Aj s o.size,k _ _ u,k _ _ x,y,z⟩
theorem KRef.top{C:KaC}{X:KaS}(h:KRest C X w){f:FrD}{rest:List FrD}(d:X.x.st=f :: rest):∃ g c v vs,X.sv = .slice (some ⟨g,0,none⟩) (rest.length+1) c/\rest.length+1<=c/\X.ps=v :: vs/\w.cell? ⟨g,rest.length*3,none⟩=some (.pointer (some ⟨C.zf,C.of_+f.fi*5,none⟩))/\w.cell? ⟨g,rest.length*3+1,none⟩=some (.int .i64 (f.k:Int))/\w.cell? ⟨g,rest.length*3+2,none⟩=some v /\
  (∀ i,w.frozen? ⟨g,i,none⟩=false)/\g<w.heap.size/\X.lab g=7/\w.ownsRow C.w0.heap.size 62 1 v f.V.length (u64V f.V)/\∀ k,v.ownBlock=some k->X.lab k=10+rest.length:=by
 have h1:=h.pls;have h2:=h.stk;have b:=h.l7;rw[d]at h1 h2
 cases hps:X.ps with
 | nil=>rw[hps]at h1;exact h1.elim
 | cons v vs=>
  rw[hps]at h1 h2;have l:=oZ C h1.2.len;rcases h2.2 with⟨_,e⟩ | ⟨g,c,cur,e,_,hg,hc,r⟩
  ·simp at e
  ·rw[e]at h2 b
   have a:∀ j,j<3->w.cell? ⟨g,rest.length*3+j,none⟩=(mX C f v)[j]?:=fun j hj=>by
    rw[h2.cellAt (rest.length*3+j) (by simp;omega)];show(stCells C rest vs++mX C f v)[_]? = _;rw[<-l,List.getElem?_append_right (by omega),Ac]
   exact⟨g,c,v,vs,e,hc,rfl,a 0 (by omega),a 1 (by omega),a 2 (by omega),fun i=>h2.frozenAt i,(Array.getElem?_eq_some_iff.1 hg).1,b g rfl,h1.1.1,h1.1.2⟩
theorem KRef.cYw{C:KaC}{X:KaS}(h:KRef C X w){f:FrD}{rest:List FrD}(d:X.x.st=f :: rest)(e:X.sv = .slice (some ⟨g,0,none⟩) (rest.length+1) c):KRef C { X with sv:=.slice (some ⟨g,0,none⟩) rest.length c,ps:=X.ps.tail,x:={ X.x with st:=rest } } (w.setCell ⟨C.cb,12,none⟩ (.slice (some ⟨g,0,none⟩) rest.length c)):=by
 have h1:=h.pls;have h2:=h.stk;have a:=h.l7;rw[d]at h1 h2
 cases hps:X.ps with
 | nil=>rw[hps]at h1;exact h1.elim
 | cons v vs=>
  rw[hps]at h1 h2;rw[e]at h2 a;have b:=cQl h2 (m:=rest.length) (by simp);refine h.cYb _ rest vs ?_ (fun k i=>a k i) h1.2;rw[show(stCells C (f :: rest) (v :: vs)).take (rest.length*3)=stCells C rest vs from ?_]at b
  ·exact b
  ·show(stCells C rest vs++mX C f v).take _=_;rw[<-oZ C h1.2.len,List.take_left]
theorem KRef.setAt{C:KaC}{X:KaS}(h:KRef C X w){f:FrD}{rest:List FrD}(q:X.x.st=f :: rest)(b:X.sv = .slice (some ⟨g,0,none⟩) n c)(k:Nat):KRef C { X with x:={ X.x with st:={ f with k:=k } :: rest } } (w.setCell ⟨g,rest.length*3+1,none⟩ (.int .i64 (k:Int))):=by
 have h1:=h.pls;have h2:=h.stk;have d:=h.l7;rw[q]at h1 h2;rw[b]at d;have hg:=d g rfl;obtain⟨v,vs,i⟩:=h1.cons
 ·rw[i]at h1 h2;rw[b]at h2
  have hn:n=rest.length+1:=by
   rcases h2.2 with⟨e,_⟩ | ⟨_,_,_,e,_⟩
   ·cases e
   ·injection e
  subst hn;have m:=(h2.stored (rest.length*3+1) (.int .i64 (k:Int))).1;have r:=oZ C h1.2.len
  have he:(stCells C (f :: rest) (v :: vs)).set (rest.length*3+1) (.int .i64 (k:Int))=stCells C ({ f with k:=k } :: rest) (v :: vs):=by
   show(stCells C rest vs++mX C f v).set _ _=stCells C rest vs++mX C { f with k:=k } v;rw[<-r,Af _ _ (by omega),Ac];rfl
  rw[he]at m;have s:C.w0.heap.size<=g:=(h.lb g (by rw[hg];decide)).1;have o:w.heap.size<=(w.setCell ⟨g,rest.length*3+1,none⟩ (.int .i64 (k:Int))).heap.size:=(by simp[AJ]);have l:∀ j,X.lab j≠0->X.lab j≠7->(w.setCell ⟨g,rest.length*3+1,none⟩ (.int .i64 (k:Int))).heap[j]? = w.heap[j]?:=fun j _ a=>Ax _ _ _ _ (fun e=>a (by have:j=g:=e;rw[this];exact hg));refine⟨h.toKRest.but (Y:={ X with x:={ X.x with st:={ f with k:=k } :: rest } }) 7 o (h.bel.setCell (p:=⟨g,_,none⟩) s _) l (fun j a=>⟨(h.lb j a).1,Aj (h.lb j a).2 o⟩) (fun _ _ _=>rfl) h.cl (by decide) (.inr ⟨by decide,rfl⟩) (.inr ⟨by decide,rfl,rfl⟩) (.inr ⟨by decide,rfl,rfl⟩) (.inr ⟨by decide,rfl,rfl⟩) (.inl ?_) (.inr ⟨by decide,rfl,rfl⟩) ⟨by decide,rfl⟩ (.inl ?_),(l C.cb (by rw[h.cl];decide) (by rw[h.cl];decide)).trans h.cb⟩
  ·refine⟨?_,fun j a=>?_⟩
   ·show BZ _ _ _ _ X.sv (rest.length+1) (stCells C ({ f with k:=k } :: rest) X.ps);rw[b,i];exact m
   ·have a:X.sv.ownBlock=some j:=a;rw[b]at a;exact d j a
  ·show PlsV _ _ X.lab ({ f with k:=k } :: rest) X.ps;rw[i];exact(show PlsV w C.w0.heap.size X.lab ({ f with k:=k } :: rest) (v :: vs)from⟨⟨h1.1.1,h1.1.2⟩,h1.2⟩).heap (fun j h5 _ _=>⟨l j (by omega) (by omega),rfl⟩)
theorem KRef.cYx{C:KaC}{X:KaS}(h:KRef C X w){f:FrD}{rest:List FrD}(b:X.x.st=f :: rest){vs:List BV}(c:X.ps=v :: vs)(V:List Nat)(hV:V.length=f.V.length)(d:w'.ownsRow C.w0.heap.size 62 1 v V.length (u64V V))(hs:w.heap.size<=w'.heap.size)(g:BW C.w0.heap.size C.w0 w')
  (i:∀ j,X.lab j≠0->v.ownBlock≠some j->w'.heap[j]? = w.heap[j]?):KRef C { X with x:={ X.x with st:={ f with V:=V } :: rest } } w':=by
 have h1:=h.pls;rw[b,c]at h1;have ob':∀ j,X.lab j≠0->X.lab j≠10+rest.length->w'.heap[j]? = w.heap[j]?:=fun j a hn=>i j a (fun e=>hn (h1.1.2 j e));refine⟨h.toKRest.but (Y:={ X with x:={ X.x with st:={ f with V:=V } :: rest } }) (10+rest.length) hs g ob' (fun j a=>⟨(h.lb j a).1,Aj (h.lb j a).2 hs⟩) (fun _ _ _=>rfl) h.cl (by omega) (.inr ⟨by omega,rfl⟩) (.inr ⟨by omega,rfl,rfl⟩) (.inr ⟨by omega,rfl,rfl⟩) (.inr ⟨by omega,rfl,rfl⟩) (.inr ⟨by omega,rfl,?_,?_⟩) (.inr ⟨by omega,rfl,rfl⟩) ⟨by omega,rfl⟩ (.inl ?_),(ob' C.cb (by rw[h.cl];decide) (by rw[h.cl];omega)).trans h.cb⟩
 ·show rest.length+1=X.x.st.length;rw[b];rfl
 ·show stCells C ({ f with V:=V } :: rest) X.ps=stCells C X.x.st X.ps;rw[b,c];rfl
 ·show PlsV w' C.w0.heap.size X.lab ({ f with V:=V } :: rest) X.ps;rw[c];exact⟨⟨d,h1.1.2⟩,h1.2.heap (fun j h5 h6 _=>⟨ob' j (by omega) (by omega),rfl⟩)⟩
theorem KRef.cYl{C:KaC}{X:KaS}(h:KRef C X w){f:FrD}{rest:List FrD}(a:X.x.st=f :: rest){vs:List BV}(b:X.ps = .slice (some ⟨g,0,none⟩) f.V.length c :: vs)(j N:Nat):KRef C { X with x:={ X.x with st:={ f with V:=f.V.set j N } :: rest } } (w.setCell ⟨g,j,none⟩ (.int .u64 (N:Int))):=by
 have h1:=h.pls;rw[a,b]at h1;have hg:=h1.1.2 g rfl;refine h.cYx a b _ (Av ..) ?_ (by simp[AJ]) (h.bel.setCell (p:=⟨g,j,none⟩) (h.lb g (by rw[hg];omega)).1 _) (fun k _ d=>Ax _ _ _ _ (fun e=>d (by have:k=g:=e;rw[this];rfl)));rw[Av,<-aQj];exact(h1.1.1.stored j _).1
theorem KRef.cYy{C:KaC}{X:KaS}(h:KRef C X w)(b:C.gv = .slice (some ⟨g,0,none⟩) n c)(k N:Nat):KRef C { X with x:={ X.x with s:={ X.x.s with globals:=X.x.s.globals.set k N } } } (w.setCell ⟨g,k,none⟩ (.int .u64 (N:Int))):=by
 have hg:=h.l3 g (by rw[b];rfl);have h2:=h.glo;rw[b]at h2
 have hn:n=X.x.s.globals.length:=by
  rcases h2.2 with⟨e,_⟩ | ⟨_,_,_,e,_⟩
  ·cases e
  ·injection e
 subst hn;have i:C.w0.heap.size<=g:=(h.lb g (by rw[hg];decide)).1;have d:w.heap.size<=(w.setCell ⟨g,k,none⟩ (.int .u64 (N:Int))).heap.size:=(by simp[AJ]);have f:∀ j,X.lab j≠0->X.lab j≠3->(w.setCell ⟨g,k,none⟩ (.int .u64 (N:Int))).heap[j]? = w.heap[j]?:=fun j _ a=>Ax _ _ _ _ (fun e=>a (by have:j=g:=e;rw[this];exact hg));refine⟨h.toKRest.but (Y:={ X with x:={ X.x with s:={ X.x.s with globals:=X.x.s.globals.set k N } } }) 3 d (h.bel.setCell (p:=⟨g,k,none⟩) i _) f (fun j a=>⟨(h.lb j a).1,Aj (h.lb j a).2 d⟩) (fun _ _ _=>rfl) h.cl (by decide) (.inl ⟨rfl,?_,h.l3⟩) (.inr ⟨by decide,rfl,rfl⟩) (.inr ⟨by decide,rfl,rfl⟩) (.inr ⟨by decide,rfl,rfl⟩) (.inr ⟨by decide,rfl,rfl,rfl⟩) (.inr ⟨by decide,rfl,rfl⟩) ⟨by decide,rfl⟩ (.inr ⟨by decide,rfl,rfl⟩),(f C.cb (by rw[h.cl];decide) (by rw[h.cl];decide)).trans h.cb⟩;show BZ _ _ _ _ C.gv (X.x.s.globals.set k N).length (u64V (X.x.s.globals.set k N));rw[b,Av,<-aQj];exact(h2.stored k _).1
theorem aJy{C:KaC}{X:KaS}(h:KRest C X w)(hv:∀ k,v.ownBlock=some k->X.lab k=c)(hc:c≠0)(hg:w.grownBy w' v.ownBlock)(b:v'.ownBlock=v.ownBlock\/v'.ownBlock=some w.heap.size)(d:∀ k,v'.ownBlock=some k->k<w'.heap.size):
  (∀ k,X.lab k≠0->X.lab k≠c->w'.heap[k]? = w.heap[k]?)/\BW C.w0.heap.size C.w0 w'/\(∀ k,eZ X.lab v' c k≠0->C.w0.heap.size<=k/\k<w'.heap.size)/\(∀ k,X.lab k≠0->eZ X.lab v' c k=X.lab k):=by
 refine⟨fun k h1 h2=>hg.block k (h.lb k h1).2 (fun e=>h2 (hv k e.symm)),h.bel.grown hg h.bel.size (fun k a=>(h.lb k (by rw[hv k a];exact hc)).1),fun k a=>?_,fun k a=>?_⟩
 ·by_cases e:v'.ownBlock=some k
  ·refine⟨?_,d k e⟩;rcases b with e2 | e2
   ·exact(h.lb k (by rw[hv k (by rw[<-e2];exact e)];exact hc)).1
   ·rw[e]at e2;injection e2 with e2;subst e2;exact h.bel.size
  ·rw[jY e]at a;exact⟨(h.lb k a).1,Aj (h.lb k a).2 hg.size⟩
 ·by_cases e:v'.ownBlock=some k
  ·rw[nQ e];rcases b with e2 | e2
   ·exact(hv k (by rw[<-e2];exact e)).symm
   ·rw[e]at e2;injection e2 with e2;have:=(h.lb k a).2;omega
  ·exact jY e
theorem KRest.cYz{C:KaC}{X:KaS}(h:KRest C X w)(b:w'.ownsRow C.w0.heap.size 62 1 v' l.length (u64V l))(hg:w.grownBy w' X.lv.ownBlock)(d:v'.ownBlock=X.lv.ownBlock\/v'.ownBlock=some w.heap.size):
  KRest C { X with lab:=eZ X.lab v' 4,lv:=v',x:={ X.x with s:={ X.x.s with log:=l } } } w':=by
 obtain⟨e,f,g,c⟩:=aJy h h.l4 (by decide) hg d (fun k a=>(b.lt k a).2);exact h.but (Y:={ X with lab:=eZ X.lab v' 4,lv:=v',x:={ X.x with s:={ X.x.s with log:=l } } }) 4 hg.size f e g (fun k h1 _=>c k h1) ((c C.cb (by rw[h.cl];decide)).trans h.cl) (by decide) (.inr ⟨by decide,rfl⟩) (.inl ⟨rfl,b,fun k a=>nQ a⟩) (.inr ⟨by decide,rfl,rfl⟩) (.inr ⟨by decide,rfl,rfl⟩) (.inr ⟨by decide,rfl,rfl,rfl⟩) (.inr ⟨by decide,rfl,rfl⟩) ⟨by decide,rfl⟩ (.inr ⟨by decide,rfl,rfl⟩)
theorem KRest.dQa{C:KaC}{X:KaS}(h:KRest C X w){pv:BV}{f:FrD}(e:w'.ownsRow C.w0.heap.size 77 3 v' (X.x.st.length+1) (stCells C X.x.st X.ps++mX C f pv))(hg:w.grownBy w' X.sv.ownBlock)(g:v'.ownBlock=X.sv.ownBlock\/v'.ownBlock=some w.heap.size)
  (hp:w.ownsRow C.w0.heap.size 62 1 pv f.V.length (u64V f.V)) (b:∀ k,pv.ownBlock=some k->X.lab k=10+X.x.st.length) :
  KRest C { X with lab:=eZ X.lab v' 7,sv:=v',ps:=pv :: X.ps,x:={ X.x with st:=f :: X.x.st } } w':=by
 obtain⟨d,i,l,c⟩:=aJy h h.l7 (by decide) hg g (fun k a=>(e.lt k a).2);refine h.but (Y:={ X with lab:=eZ X.lab v' 7,sv:=v',ps:=pv :: X.ps,x:={ X.x with st:=f :: X.x.st } }) 7 hg.size i d l (fun k h1 _=>c k h1) ((c C.cb (by rw[h.cl];decide)).trans h.cl) (by decide) (.inr ⟨by decide,rfl⟩) (.inr ⟨by decide,rfl,rfl⟩) (.inr ⟨by decide,rfl,rfl⟩) (.inr ⟨by decide,rfl,rfl⟩) (.inl ⟨e,fun k a=>nQ a⟩) (.inr ⟨by decide,rfl,rfl⟩) ⟨by decide,rfl⟩ (.inl ⟨⟨wK hp (fun k a ad=>d k (by rw[b k a];omega) (by rw[b k a];omega)),fun k a=>?_⟩,?_⟩)
 ·show eZ X.lab v' 7 k=_;rw[c k (by rw[b k a];omega),b k a]
 ·exact h.pls.heap (fun j h5 _ _=>⟨d j (by omega) (by omega),c j (by omega)⟩)
end Go.Proofs.YtabibkpfgmolkaaDoor

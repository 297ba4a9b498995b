/- Lemmas for the claim, part 11. Conditions: none. -/
import Derived.Test.YtabibkpfgmolkaaGreatPl10
set_option maxRecDepth 100000
set_option maxHeartbeats 16000000
set_option linter.unusedVariables false
set_option linter.unusedSimpArgs false
open Go.Lib renaming hid→fQ
open Go.Proofs.Tryz renaming prog→fZ
open Go.Proofs.Tryz
open Go.RowKit
open List renaming getElem?_eq_getElem→Aj,length_map→Ay,getElem?_eq_none→AJ
open Nat renaming le_refl→Aq,zero_lt_succ→Av,lt_or_ge→AX
open Go.World renaming setCell→Ax,ownsRow_nil→Ak
open Go.Calls renaming quiet_of_same→Az
open Go.Value renaming slice→Aw,agg→AQ,okWide→AZ,int→AK
open Go renaming World→AV,Value→AW
open Go.RowKit renaming Below→AY
namespace Go.Proofs.YtabibkpfgmolkaaGreat
variable {w w':AV}{v x0 x1 x2 x3 x4 x5:AW}{n g k dc base:Nat}{l a:List Nat}{e t:TypeId}{e2:Int}
theorem sY(h:a.length=n)(hk:k<n):∃ x,a[k]? = some x:=⟨_,Aj (by omega)⟩
theorem cVe(C:MaC)(x:MaS)(w:AV)(r:RowD)(c:CodeD)(l cb m f:AW)(a:List Nat)(h:MRef C x w)(ha:UR w f a)(S:∀ k,f.ownBlock=some k->¬MOwn C x k)(t:StOk C.p.env x.s)(T:codeOk C.p.env r c=true)(U:a.length=(inK C.p.env r.sig c).length)
  (E:c.op≠16) (h1:c.op≠273) (h2:c.op≠274) (V:c.op≠275) (N:c.op≠276) (W:c.op≠277) :
  Calls fZ 95 #[.pointer (some ⟨C.mb,0,none⟩),.agg #[.int .i64 c.op,.int .u64 (c.n:Int),l,cb,m],f] w (mV C x c a w):=by
 obtain⟨op,b,X,Y,Z⟩:=c;simp only at E h1 h2 V N W;have post:∀ F w',mV C x ⟨op,b,[],[],[]⟩ a w F w'->mV C x ⟨op,b,X,Y,Z⟩ a w F w':=fun F w' h=>h;refine Calls.mono ?_ post;obtain⟨i,o,hf,_⟩:=lQ T;have hf:iZ C.p.env r.sig op b=some (i,o):=hf
 have u:a.length=i.length:=by
  rw[U];unfold inK;show((iZ C.p.env r.sig op b).getD ([],[])).1.length=_;rw[hf];rfl
 have O:=(show All64 a by obtain⟨A,P,e,_,_,_,_,aw⟩:=ha;exact aw);have g64:∀ {k y:Nat},a[k]? = some y->y<18446744073709551616:=fun h=>O _ (List.mem_of_getElem? h);have z:=t.eZq;by_cases G:op=256
 ·subst G;exact cKy C x w b l cb m f a [] h ha
 by_cases H:op=272
 ·subst H;have hf:(if b=0 then some (([0]:List Int),([0]:List Int))else none)=some (i,o):=hf
  split at hf
  ·cases hf;obtain⟨a0,j⟩:=sY u (k:=0) (by decide);exact dQn C x w b l cb m f a [] h ha a0 j
  ·cases hf
 by_cases Q:op=258
 ·subst Q;by_cases ax:x.s.fuel=0
  ·exact cKz C x w b l cb m f a [] h ha ax
  ·exact cVa C x w b l cb m f a [] h ha _ rfl (by omega) t.fuel
 by_cases I:op=27
 ·subst I;have hf:(if b=0 then some (([0,0,127]:List Int),([0]:List Int))else none)=some (i,o):=hf
  split at hf
  ·cases hf;obtain⟨a0,j⟩:=sY u (k:=0) (by decide);obtain⟨a1,h1⟩:=sY u (k:=1) (by decide);obtain⟨J,h2⟩:=sY u (k:=2) (by decide);by_cases hz:J=0
   ·exact dQo C x w b l cb m f a [] h ha a0 a1 J j h1 h2 hz
   ·exact dQp C x w b l cb m f a [] h ha a0 a1 J j h1 h2 hz
  ·cases hf
 by_cases K:op=35
 ·subst K;have hf:(C.p.env.globals[b]?).map (fun g=>(([]:List Int),[g]))=some (i,o):=hf
  cases hg:C.p.env.globals[b]? with
  | none=>rw[hg]at hf;cases hf
  | some g=>
   have hl:=(List.getElem?_eq_some_iff.1 hg).1;have:=t.glen;exact dQr C x w b l cb m f a [] h ha _ _ rfl (Aj (by omega))
 by_cases L:op=36
 ·subst L;have hf:(match C.p.env.globals[b]?,C.p.env.muts[b]? with | some g,some true=>some ([g],([]:List Int)) | _,_=>none)=some (i,o):=hf
  cases hg:C.p.env.globals[b]? with
  | none=>rw[hg]at hf;cases hf
  | some g=>
   rw[hg]at hf;have hl:=(List.getElem?_eq_some_iff.1 hg).1;have:=t.glen
   have hi:i.length=1:=by
    revert hf
    split
    ·intro hf;cases hf;rfl
    ·intro hf;cases hf
   obtain⟨a0,j⟩:=sY u (k:=0) (by omega);exact dQs C x w b l cb m f a [] h ha _ _ a0 rfl (Aj (by omega)) j (g64 j)
 by_cases B:(fV op).isSome
 ·have v:acc op=none:=by
   cases v:acc op with
   | none=>rfl
   | some y=>
    obtain⟨k,wd,st,D⟩:=y;have hb:=nZ v
    cases hg:fV op with
    | none=>rw[hg]at B;cases B
    | some g=>
     obtain⟨p,q,P,d⟩:=g;have:=(aJa hg);omega
  have M:op≠257/\op≠63/\op≠64:=by
   cases hg:fV op with
   | none=>rw[hg]at B;cases B
   | some g=>
    obtain⟨p,q,P,d⟩:=g;have:=(aJa hg);omega
  exact dQu C x w op v ⟨G,H,Q,I,K,L,M.1,M.2.1,M.2.2⟩ E b l cb m f a [] h ha O
 ·have hq:mY C.p.env.mem op b=some (i,o):=by
   unfold iZ at hf;rw[if_neg G,if_neg H,if_neg (by omega),if_neg (by omega),if_neg N,if_neg I,if_neg E,if_neg K,if_neg L,if_neg B]at hf;exact hf
  clear hf;unfold mY at hq
  split at hq
  ·cases hq
  by_cases R:op=257
  ·subst R;rw[if_pos rfl]at hq
   split at hq
   ·cases hq;obtain⟨a0,j⟩:=sY u (k:=0) (Av _);cases hz:tX x.s.mem.length a0 b
    ·exact cQj C x w b l cb m f a [] h ha a0 j z hz
    ·exact cQk C x w b l cb m f a [] h ha a0 j z hz
   ·cases hq
  rw[if_neg R]at hq
  cases v:acc op with
  | some y=>
   obtain⟨k,wd,st,D⟩:=y;rw[v]at hq;simp only at hq
   split at hq
   ·cases st with
    | true=>
     cases hq;obtain⟨a0,j⟩:=sY u (k:=0) (Av _);obtain⟨a1,h1⟩:=sY u (k:=1) (Nat.lt_succ_self 1);by_cases hz:mK x.s.mem.length op a0 b a1=0
     ·exact cQm C x w op k wd D v b l cb m f a [] h ha a0 j z a1 h1 t.memB hz
     ·exact cQl C x w op k wd D v b l cb m f a [] h ha a0 j z a1 h1 t.memB hz
    | false=>
     cases hq;obtain⟨a0,j⟩:=sY u (k:=0) (Av _);by_cases hz:(pV x.s.mem op a0 b).2=0
     ·exact cVd C x w op k wd D v b l cb m f a [] h ha a0 j z t.memB hz
     ·exact cVc C x w op k wd D v b l cb m f a [] h ha a0 j z t.memB hz
   ·cases hq
  | none=>
   rw[v]at hq;simp only at hq
   split at hq
   ·rename_i ay;subst ay;exact dQq C x w b l cb m f a [] h ha z
   ·split at hq
    ·rename_i az;subst az
     split at hq
     ·cases hq;obtain⟨a0,j⟩:=sY u (k:=0) (Av _);exact dQt C x w b l cb m f a [] h ha a0 j S z t.most (by have:=t.memL;omega) (g64 j) t.memB
     ·cases hq
    ·cases hq
inductive CDid (p:RowsD) (lost d n:Nat) (g:SigD) (a:List Nat) (s:StD):StD->Int->Nat->Nat->List Nat->Prop
 | host (hi:(n:Int)<p.env.imports):CDid p lost d n g a s (hostV n g.out (lowL g.inn a) s).2.2 (hostV n g.out (lowL g.inn a) s).2.1 0 0 (hostV n g.out (lowL g.inn a) s).1
 | deep (hi:¬(n:Int)<p.env.imports) (hd:16<=d):CDid p lost d n g a s s 37 0 0 []
 | call {q:RowD} {R:ResD} (hi:¬(n:Int)<p.env.imports) (hd:d<16) (hq:p.fns[n - p.env.imports.toNat]? = Option.some q) (h1:Ev p lost (d+1) q 0 (initV q (lowL g.inn a)) s R):CDid p lost d n g a s R.s R.e R.cnt (q.places.toNat+R.wds) R.out
theorem cKo{outs:List Int}{s:StD}(h:(hostV n outs a s).2.1≠0):(hostV n outs a s).1 = []:=by
 unfold hostV at h ⊢
 split
 ·rename_i h1;rw[if_pos h1]at h;exact absurd rfl h
 ·rfl
theorem Did.eJa{p:RowsD}{lost d:Nat}{c:CodeD}{g:SigD}{s s2:StD}{wd:Nat}(h:Did p lost d c k a s s2 e2 dc wd l)(e:c.op=16)(hg:p.env.sigs[c.n]? = Option.some g)(f:lowL g.inn a=a):CDid p lost d c.n g a s s2 e2 dc wd l:=by
 have i:p.env.sigs.getD c.n ⟨[],[]⟩=g:=by rw[List.getD_eq_getElem?_getD,hg];rfl
 cases h with
 | vals ha=>
  obtain⟨_,_,_,_,_,h1 | h1⟩:=rK ha
  ·obtain⟨_,hi,j⟩:=h1;have:=CDid.host (p:=p) (lost:=lost) (d:=d) (n:=c.n) (g:=g) (a:=a) (s:=s) hi;rw[i]at j;rw[f,j]at this;exact this
  ·exact absurd e h1.1
 | trap ha=>
  unfold actV at ha;rw[if_neg (by omega),if_neg (by omega),if_neg (by omega),if_neg (by omega),if_neg (by omega),if_pos e,i]at ha
  split at ha
  ·rename_i hi;dsimp only at ha
   split at ha
   ·cases ha
   ·rename_i o;injection ha with h1 h2;have:=CDid.host (p:=p) (lost:=lost) (d:=d) (n:=c.n) (g:=g) (a:=a) (s:=s) hi;rw[f,cKo o,h1,h2]at this;exact this
  ·cases ha
 | call ha hd hq m h1=>
  obtain⟨_,rfl,b⟩:=pY ha;rw[hg]at m;cases m;exact .call b hd hq h1
 | deep ha hd=>
  obtain⟨_,rfl,b⟩:=pY ha;exact .deep b hd
theorem Did.eJb{p:RowsD}{lost d:Nat}{c:CodeD}{s s2:StD}{wd:Nat}(h:Did p lost d c k a s s2 e2 dc wd l)(b:c.op≠16)(h1:c.op≠273)(h2:c.op≠274)(f:c.op≠275)(g:c.op≠276)(i:c.op≠277):
  s2=(mZ c a s).2.2/\e2=(mZ c a s).2.1/\dc=0/\wd=0/\(e2=0->l = [(mZ c a s).1]):=by
 cases h with
 | vals ha=>
  obtain⟨_,_,_,_,_,e | e⟩:=rK ha
  ·exact absurd e.1 b
  ·obtain⟨_,rfl,he,rfl⟩:=e;exact⟨rfl,he.symm,rfl,rfl,fun _=>rfl⟩
 | trap ha=>
  have j:=aQr ha;unfold actV at ha;rw[if_neg g,if_neg i,if_neg h1,if_neg h2,if_neg f,if_neg b]at ha;dsimp only at ha
  split at ha
  ·cases ha
  ·injection ha with m e2;exact⟨e2.symm,m.symm,rfl,rfl,fun h=>absurd h j⟩
 | call ha=>exact absurd (pY ha).1 b
 | deep ha=>exact absurd (pY ha).1 b
theorem RunR.from{C:MaC}{x:MaS}{s2:StD}{wd:Nat}{a:AV}{b:Ending}(h:RunR C x s2 e2 dc wd l a b w')(k:MK C x x w a):RunR C x s2 e2 dc wd l w b w':=by
 obtain⟨v,x',rfl,h1,h2,d,f,g,i,j,m,n,c⟩:=h;exact⟨v,x',rfl,h1,k.trans h2,d,f,g,i,j,m,n,fun e=>⟨lZ (c e).1 k.size,(c e).2⟩⟩
structure RawS where
 mem:List Nat
 most:Int
 globals:List Nat
 fuel:Int
 input:List Nat
 log:List Nat
def StV(w:AV)(v:AW)(s:RawS):Prop:=∃ a g i l,v = .agg #[a,.int .i64 s.most,g,.int .i64 s.fuel,i,l]/\BR w a s.mem/\UR w g s.globals/\UR w i s.input/\UR w l s.log
theorem StV.below{w w':AV}{B:Nat}{v:AW}{s:RawS}(h:StV w v s)(hb:AY B w w')(b:w.heap.size<=B):StV w' v s:=by
 obtain⟨a,g,i,l,e,h1,h2,c,d⟩:=h;exact⟨a,g,i,l,e,h1.below hb b,h2.below hb b,c.below hb b,d.below hb b⟩
def RawS.of(s:StD):RawS:=⟨s.mem,s.most,s.globals,s.fuel,s.input,s.log⟩
theorem BR.shape(h:BR w v l):∃ A c,v = .slice A l.length c:=by
 obtain⟨A,c,e,_⟩:=h;exact⟨A,c,e⟩
theorem BR.len{A:Option Addr}{c:Nat}(h:BR w (.slice A n c) l):n=l.length/\Src w A n (bys l)/\n<=c/\(A=none->c=0)/\(n<=140737488355328/\c<=9223372036854775807)/\AllB l:=by
 obtain⟨A',c',e,r⟩:=h;injection e with a e2 b;subst a;subst e2;subst b;exact⟨rfl,r⟩
theorem aVq(w:AV)(a b:Obj):AY w.heap.size w ((w.alloc a).alloc b):=((Below.refl _ _).alloc (Aq _) _).alloc (by simp) _
theorem kJ{a b c d f h:AW}(k:Blk w g e #[a,b,c,d,f,h]):
  w.cell? ⟨g,0,none⟩=some a/\w.cell? ⟨g,1,none⟩=some b/\w.cell? ⟨g,2,none⟩=some c/\w.cell? ⟨g,3,none⟩=some d/\w.cell? ⟨g,4,none⟩=some f/\w.cell? ⟨g,5,none⟩=some h:=
 ⟨by simpa using k.cell 0,by simpa using k.cell 1,by simpa using k.cell 2,by simpa using k.cell 3,by simpa using k.cell 4,by simpa using k.cell 5⟩
theorem cVp(v u:AW)(x y:List Nat)(w:AV)(ha:BR w v x)(hb:BR w u y):Calls fZ 27 #[v,u] w fun e w'=>e = .returned (.bool (decide (x=y)))/\w=w':=by
 obtain⟨A,c,rfl⟩:=ha.shape;obtain⟨B,d,rfl⟩:=hb.shape;obtain⟨_,a1,_,_,_,a⟩:=ha.len;obtain⟨_,b1,_,_,_,b⟩:=hb.len;have h1:=bZy (P:=fZ) w 31 9 5 underlying31 underlying5 underlying9 A x.length c x a1 a;have h2:=bZy (P:=fZ) w 31 9 5 underlying31 underlying5 underlying9 B y.length d y b1 b;have f:=fQ (dZa a b);clear ha hb a1 b1;go_in;go_wp2;go_ret;rw[<-f.out];exact⟨rfl,rfl⟩
theorem cVq(h vb:AW)(s:RawS)(w:AV)(h1:StV w h s)(h2:StV w vb s):Calls fZ 13 #[h,vb] w fun d w'=>d = .returned (.bool true)/\AY w.heap.size w w':=by
 obtain⟨a,g,i,l,rfl,a1,o,p,q⟩:=h1;obtain⟨b,k,j,m,rfl,b1,r,t,u⟩:=h2;have e:=fQ (aVq w (.cells #[a,.int .i64 s.most,g,.int .i64 s.fuel,i,l] 33) (.cells #[b,.int .i64 s.most,k,.int .i64 s.fuel,j,m] 33));have v:=fQ (fun(w':AV) (c:AY w.heap.size w w')=>a1.below c (Aq _));have x:=fQ (fun(w':AV) (c:AY w.heap.size w w')=>o.below c (Aq _));have y:=fQ (fun(w':AV) (c:AY w.heap.size w w')=>p.below c (Aq _));have z:=fQ (fun(w':AV) (c:AY w.heap.size w w')=>q.below c (Aq _));have A:=fQ (fun(w':AV) (c:AY w.heap.size w w')=>b1.below c (Aq _));have B:=fQ (fun(w':AV) (c:AY w.heap.size w w')=>r.below c (Aq _));have C:=fQ (fun(w':AV) (c:AY w.heap.size w w')=>t.below c (Aq _));have D:=fQ (fun(w':AV) (c:AY w.heap.size w w')=>u.below c (Aq _));clear a1 o p q b1 r t u;have f:=fQ (fun n:Nat=>fK e.out n);go_in;go_wp2_with fail;refine(cVp _ _ _ _ _ (v.out _ e.out) (A.out _ e.out)).mono ?_;rintro d w' ⟨rfl,rfl⟩;rw[decide_eq_true (rfl:s.mem=s.mem)];go_wp2_with fail;refine(aZd _ _ _ _ _ (x.out _ e.out) (B.out _ e.out)).mono ?_;rintro d w' ⟨rfl,n1,rfl⟩;rw[decide_eq_true (rfl:s.globals=s.globals)];go_wp2_with fail;refine(aZd _ _ _ _ _ (y.out _ (f.out _)) (C.out _ (f.out _))).mono ?_;rintro d w' ⟨rfl,n2,rfl⟩;rw[decide_eq_true (rfl:s.input=s.input)];go_wp2_with fail;refine(aZd _ _ _ _ _ (z.out _ (f.out _)) (D.out _ (f.out _))).mono ?_;rintro d w' ⟨rfl,n3,rfl⟩;rw[decide_eq_true (rfl:s.log=s.log)];go_wp2;go_ret;exact⟨rfl,f.out _⟩
theorem dQi:(fZ.info? 5).map (fun i=>(i.zero,i.size,i.bytes))=some (some (.int .u8 0),1,1):=by kernel_rfl
theorem aKm:(fZ.info? 50).map (fun i=>(i.zero,i.size,i.bytes))=some (some (.int .u64 0),1,8):=by kernel_rfl
structure CpB (w:AV) (x0 x1 x2 x3 x4 x5:AW) (wr:AV):Prop where
 k:Blk wr w.heap.size 33 #[x0,x1,x2,x3,x4,x5]
 z:Blk wr (w.heap.size+1) 33 #[.slice none 0 0,.int .i64 0,.slice none 0 0,.int .i64 0,.slice none 0 0,.slice none 0 0]
 b:AY w.heap.size w wr
theorem CpB.next{y0 y1 y2 y3 y4 y5:AW}{wr:AV}(h:CpB w x0 x1 x2 x3 x4 x5 wr)(hg:wr.grownBy w' none)(i:Nat)(v:AW)(hi:(#[x0,x1,x2,x3,x4,x5]:Array AW).setIfInBounds i v=#[y0,y1,y2,y3,y4,y5]):CpB w y0 y1 y2 y3 y4 y5 (w'.setCell ⟨w.heap.size,i,none⟩ v):=by
 have a:=gQ (h.k.grown hg (by intro h;cases h)) i v;rw[hi]at a;have hs:=h.b.size;refine⟨a,bQy (h.z.grown hg (by intro h;cases h)) (by omega),?_⟩;exact(jV h.b hg hs (fun j c=>by cases c)).setCell (p:=⟨w.heap.size,i,none⟩) (Aq _) _
theorem aYn{B N:Nat}(e:v.ownBlock=(Aw none 0 0).ownBlock\/v.ownBlock=some B)(h:v.ownBlock=some k)(hB:N<=B):N<=k:=by
 rcases e with e | e
 ·rw[h]at e;cases e
 ·rw[h]at e;injection e with e;omega
theorem aVk{i:Nat}{u:AW}{a:List AW}{cs:Array AW}(h:w.ownsRow base e 1 v n a)(b:Blk w g t cs)(c:e≠t):(w.setCell ⟨g,i,none⟩ u).ownsRow base e 1 v n a:=iQ h (own_ne h b c)
theorem aZn{wr:AV}{i:Nat}{u:AW}{a:List AW}{cs:Array AW}(h:wr.ownsRow base e 1 v n a)(hg:wr.grownBy w' none)(b:Blk w' g t cs)(c:e≠t):(w'.setCell ⟨g,i,none⟩ u).ownsRow base e 1 v n a:=by
 have h1:w'.ownsRow base e 1 v n a:=yX h (fun k _ b=>hg.block k b (by simp));exact iQ h1 (own_ne h1 b c)
def dVc(s:RawS)(w:AV)(b:Ending)(w':AV):Prop:=∃ a g i l,b = .returned (.agg #[a,.int .i64 s.most,g,.int .i64 s.fuel,i,l])/\w'.ownsRow w.heap.size 5 1 a s.mem.length (bys s.mem)/\w'.ownsRow w.heap.size 50 1 g s.globals.length (u64V s.globals)/\w'.ownsRow w.heap.size 50 1 i s.input.length (u64V s.input)/\w'.ownsRow w.heap.size 50 1 l s.log.length (u64V s.log)/\AY w.heap.size w w' /\
 (∀ k,g.ownBlock=some k->l.ownBlock≠some k/\i.ownBlock≠some k/\a.ownBlock≠some k)/\(∀ k,l.ownBlock=some k->i.ownBlock≠some k/\a.ownBlock≠some k)
theorem bKc(g:Array AW)(W:AV)(h:Nat)(a b c d e f:AW)(h2:g.getD 2 undef = .pointer (some ⟨h,0,none⟩))(k:Blk W h 33 #[a,b,c,d,e,f]):
  (results Tryz.f35 g).run fZ W = .ok (.agg #[a,b,c,d,e,f]) W:=by
 obtain⟨i,j,l,m,n,o⟩:=kJ k;simp only[Array.getD_eq_getD_getElem?]at h2;simp[results,results35,go_sem,h2,i,j,l,m,n,o]
theorem uV(i:Blk w g t #[x0,x1,x2,x3,x4,x5])(a b c d e f:AW):Blk ((((((w.setCell ⟨g,0,none⟩ a).setCell ⟨g,1,none⟩ b).setCell ⟨g,2,none⟩ c).setCell ⟨g,3,none⟩ d).setCell ⟨g,4,none⟩ e).setCell ⟨g,5,none⟩ f) g t #[a,b,c,d,e,f]:=by
 have h:=gQ (gQ (gQ (gQ (gQ (gQ i 0 a) 1 b) 2 c) 3 d) 4 e) 5 f
 simpa using h
theorem wV{B:Nat}(h:AY B w w')(hg:B<=g)(a b c d e f:AW):AY B w ((((((w'.setCell ⟨g,0,none⟩ a).setCell ⟨g,1,none⟩ b).setCell ⟨g,2,none⟩ c).setCell ⟨g,3,none⟩ d).setCell ⟨g,4,none⟩ e).setCell ⟨g,5,none⟩ f):=
 (((((h.setCell (p:=⟨g,0,none⟩) hg _).setCell (p:=⟨g,1,none⟩) hg _).setCell (p:=⟨g,2,none⟩) hg _).setCell (p:=⟨g,3,none⟩) hg _).setCell (p:=⟨g,4,none⟩) hg _).setCell (p:=⟨g,5,none⟩) hg _
theorem aJj{i:List AW}(h:w.ownsRow base e 1 v n i)(j:Blk w g t #[x0,x1,x2,x3,x4,x5])(k:e≠t)(a b c d e' f:AW):((((((w.setCell ⟨g,0,none⟩ a).setCell ⟨g,1,none⟩ b).setCell ⟨g,2,none⟩ c).setCell ⟨g,3,none⟩ d).setCell ⟨g,4,none⟩ e').setCell ⟨g,5,none⟩ f).ownsRow base e 1 v n i:=by
 have q:=own_ne h j k;exact iQ (iQ (iQ (iQ (iQ (iQ h q) q) q) q) q) q
theorem cKt(va:AW)(s:RawS)(w:AV)(h:StV w va s):Calls fZ 35 #[va] w (dVc s w):=by
 obtain⟨a,g,i,l,rfl,h1,h2,T,U⟩:=h;obtain⟨V,c1,rfl⟩:=h1.shape;obtain⟨J,K,rfl⟩:=h2.shape;obtain⟨L,M,rfl⟩:=T.shape;obtain⟨N,O,rfl⟩:=U.shape;have s1:=h1.len.2.1;have z1:=h1.len.2.2.2.2.1.1;have s2:=h2.len.2.1;have z2:=h2.len.2.2.2.2.1.1;have s3:=T.len.2.1;have z3:=T.len.2.2.2.2.1.1;have s4:=U.len.2.1;have z4:=U.len.2.2.2.2.1.1;obtain⟨n1,W⟩:∃ n,s.mem.length=n:=⟨_,rfl⟩;obtain⟨n2,X⟩:∃ n,s.globals.length=n:=⟨_,rfl⟩;obtain⟨e,Y⟩:∃ n,s.input.length=n:=⟨_,rfl⟩;obtain⟨c,Z⟩:∃ n,s.log.length=n:=⟨_,rfl⟩;rw[W]at s1 z1;rw[X]at s2 z2;rw[Y]at s3 z3;rw[Z]at s4 z4;rw[W,X,Y,Z];obtain⟨xo,au⟩:∃ o,Obj.cells #[.slice V n1 c1,.int .i64 s.most,.slice J n2 K,.int .i64 s.fuel,.slice L e M,.slice N c O] 33=o:=⟨_,rfl⟩
 have P:=fQ (show CpB w (.slice V n1 c1) (.int .i64 s.most) (.slice J n2 K) (.int .i64 s.fuel) (.slice L e M) (.slice N c O) ((w.alloc (.cells #[.slice V n1 c1,.int .i64 s.most,.slice J n2 K,.int .i64 s.fuel,.slice L e M,.slice N c O] 33)).alloc (.cells #[.slice none 0 0,.int .i64 0,.slice none 0 0,.int .i64 0,.slice none 0 0,.slice none 0 0] 33))from
  ⟨Blk.alloc (Blk.new w _ _) _,Blk.newAt _ _ _ (by simp),aVq w _ _⟩)
 have S1:=fQ (fun(w':AV) (hb:AY w.heap.size w w')=>s1.below hb (Aq _));have S2:=fQ (fun(w':AV) (hb:AY w.heap.size w w')=>s2.below hb (Aq _));have S3:=fQ (fun(w':AV) (hb:AY w.heap.size w w')=>s3.below hb (Aq _));have S4:=fQ (fun(w':AV) (hb:AY w.heap.size w w')=>s4.below hb (Aq _));have q0:(Aw none 0 0).ownBlock=none:=rfl;have N1:=fQ W;have N2:=fQ X;have N3:=fQ Y;have N4:=fQ Z;clear h1 h2 T U s1 s2 s3 s4 W X Y Z au xo;have HQ:=fQ q0;clear q0;go_in;go_wp2_with (at_builtin;refine kV _ rfl _ (.tmp 4) 31 rfl w.heap.size 5 (.int .u8 0) 1 1 underlying31 dQi rfl (by omega) (.slice none 0 0) 0 [] rfl (Ak _ _ _ _) V n1 c1 (bys s.mem) rfl (by simpa using S1.out _ P.out.b) (aQf _) (by unfold maxLen;omega) (by omega) P.out.b.size ?_);rintro v w1 o1 g1 e1 _;obtain⟨x,y,rfl,_⟩:=gZ o1;have F:=P.out.k.grown g1 (by intro h;cases h);have Q:=fQ (P.out.next g1 0 (.slice x n1 y) rfl);have af:=fQ (aVk (i:=0) (g:=w.heap.size) (u:=(.slice x n1 y)) o1 F (by decide));have E1:=fQ (show ∀ k,(Aw x n1 y).ownBlock=some k->w.heap.size<=k/\k<w1.heap.size from fun k d=>⟨aYn e1 d (by first | (simp[Ax];done) | omega),(o1.lt k d).2⟩);have f1:=frz F 0;obtain⟨u1,k1⟩:∃ u,w1.cell? ⟨w.heap.size,0,none⟩=some u:=⟨_,by rw[F.cell 0];rfl⟩;have y1:=F.lt;have m1:w1.cell? ⟨w.heap.size,2,none⟩=some (.slice J n2 K):=(by rw[F.cell 2];rfl);clear o1 g1 e1 F P;go_wp2_with (at_builtin;refine kV _ rfl _ (.tmp 8) 30 rfl w.heap.size 50 (.int .u64 0) 1 8 underlying30 aKm rfl (by omega) (.slice none 0 0) 0 [] rfl (Ak _ _ _ _) J n2 K (u64V s.globals) rfl (by simpa using S2.out _ Q.out.b) (aJr _) (by unfold maxLen;omega) (by omega) Q.out.b.size ?_);rintro v G o2 H e2 _;obtain⟨r,t,rfl,_⟩:=gZ o2;have D:=Q.out.k.grown H (by intro h;cases h);have R:=fQ (Q.out.next H 2 (.slice r n2 t) rfl);have ag:=fQ (aZn (i:=2) (g:=w.heap.size) (u:=(.slice r n2 t)) af.out H D (by decide));have ah:=fQ (aVk (i:=2) (g:=w.heap.size) (u:=(.slice r n2 t)) o2 D (by decide));have E2:=fQ (show ∀ k,(Aw r n2 t).ownBlock=some k->w1.heap.size<=k/\k<G.heap.size from fun k d=>⟨aYn e2 d (by first | (simp[Ax];done) | omega),(o2.lt k d).2⟩);have Z2:w1.heap.size<=G.heap.size:=(by have:=H.size;simpa[Ax]using this);have f2:=frz D 2;obtain⟨u2,k2⟩:∃ u,G.cell? ⟨w.heap.size,2,none⟩=some u:=⟨_,by rw[D.cell 2];rfl⟩;have y2:=D.lt;have m2:G.cell? ⟨w.heap.size,4,none⟩=some (.slice L e M):=(by rw[D.cell 4];rfl);clear o2 H e2 D Q af f1 k1 y1 m1 u1;go_wp2_with (at_builtin;refine kV _ rfl _ (.tmp 12) 30 rfl w.heap.size 50 (.int .u64 0) 1 8 underlying30 aKm rfl (by omega) (.slice none 0 0) 0 [] rfl (Ak _ _ _ _) L e M (u64V s.input) rfl (by simpa using S3.out _ R.out.b) (aJr _) (by unfold maxLen;omega) (by omega) R.out.b.size ?_);rintro v I o3 E e3 _;obtain⟨p,q,rfl,_⟩:=gZ o3;have A:=R.out.k.grown E (by intro h;cases h);have S:=fQ (R.out.next E 4 (.slice p e q) rfl);have ai:=fQ (aZn (i:=4) (g:=w.heap.size) (u:=(.slice p e q)) ag.out E A (by decide))
 have aj:=fQ (aZn (i:=4) (g:=w.heap.size) (u:=(.slice p e q)) ah.out E A (by decide));have ak:=fQ (aVk (i:=4) (g:=w.heap.size) (u:=(.slice p e q)) o3 A (by decide));have E3:=fQ (show ∀ k,(Aw p e q).ownBlock=some k->G.heap.size<=k/\k<I.heap.size from fun k d=>⟨aYn e3 d (by first | (simp[Ax];done) | omega),(o3.lt k d).2⟩);have Z3:G.heap.size<=I.heap.size:=(by have:=E.size;simpa[Ax]using this);have f3:=frz A 4;obtain⟨u3,k3⟩:∃ u,I.cell? ⟨w.heap.size,4,none⟩=some u:=⟨_,by rw[A.cell 4];rfl⟩;have y3:=A.lt;have m3:I.cell? ⟨w.heap.size,5,none⟩=some (.slice N c O):=(by rw[A.cell 5];rfl);clear o3 E e3 A R ag ah f2 k2 y2 m2 u2;go_wp2_with (at_builtin;refine kV _ rfl _ (.tmp 16) 30 rfl w.heap.size 50 (.int .u64 0) 1 8 underlying30 aKm rfl (by omega) (.slice none 0 0) 0 [] rfl (Ak _ _ _ _) N c O (u64V s.log) rfl (by simpa using S4.out _ S.out.b) (aJr _) (by unfold maxLen;omega) (by omega) S.out.b.size ?_);rintro v w4 o4 B e4 _;obtain⟨j,m,rfl,_⟩:=gZ o4;have C:=S.out.k.grown B (by intro h;cases h);have f:=fQ (S.out.next B 5 (.slice j c m) rfl);have aa:=fQ (aZn (i:=5) (g:=w.heap.size) (u:=(.slice j c m)) ai.out B C (by decide));have ab:=fQ (aZn (i:=5) (g:=w.heap.size) (u:=(.slice j c m)) aj.out B C (by decide));have ad:=fQ (aZn (i:=5) (g:=w.heap.size) (u:=(.slice j c m)) ak.out B C (by decide));have ae:=fQ (aVk (i:=5) (g:=w.heap.size) (u:=(.slice j c m)) o4 C (by decide));have E4:=fQ (show ∀ k,(Aw j c m).ownBlock=some k->I.heap.size<=k/\k<w4.heap.size from fun k d=>⟨aYn e4 d (by first | (simp[Ax];done) | omega),(o4.lt k d).2⟩);have Z4:I.heap.size<=w4.heap.size:=(by have:=B.size;simpa[Ax]using this);have f4:=frz C 5;obtain⟨u4,k4⟩:∃ u,w4.cell? ⟨w.heap.size,5,none⟩=some u:=⟨_,by rw[C.cell 5];rfl⟩;have y4:=C.lt;clear o4 B e4 C S ai aj ak f3 k3 y3 m3 u3;obtain⟨wx,ar⟩:=fX (w4.setCell ⟨w.heap.size,5,none⟩ (.slice j c m));rw[ar]at f aa ab ad ae;have HW:=fQ ar;obtain⟨r0,r1,r2,r3,r4,r5⟩:=kJ f.out.k;have g0:=frz f.out.z 0;have g1:=frz f.out.z 1;have H:=frz f.out.z 2;have E:=frz f.out.z 3;have B:=frz f.out.z 4;have g5:=frz f.out.z 5;obtain⟨p0,p1,p2,p3,p4,p5⟩:=kJ f.out.z;have yz:=f.out.z.lt;have av:=fQ (uV f.out.z (.slice x n1 y) (.int .i64 s.most) (.slice r n2 t) (.int .i64 s.fuel) (.slice p e q) (.slice j c m));have aw:=fQ (wV f.out.b (show w.heap.size<=w.heap.size+1 by omega) (.slice x n1 y) (.int .i64 s.most) (.slice r n2 t) (.int .i64 s.fuel) (.slice p e q) (.slice j c m));have H1:=fQ (aJj aa.out f.out.z (by decide) (.slice x n1 y) (.int .i64 s.most) (.slice r n2 t) (.int .i64 s.fuel) (.slice p e q) (.slice j c m));have H2:=fQ (aJj ab.out f.out.z (by decide) (.slice x n1 y) (.int .i64 s.most) (.slice r n2 t) (.int .i64 s.fuel) (.slice p e q) (.slice j c m));have H3:=fQ (aJj ad.out f.out.z (by decide) (.slice x n1 y) (.int .i64 s.most) (.slice r n2 t) (.int .i64 s.fuel) (.slice p e q) (.slice j c m));have H4:=fQ (aJj ae.out f.out.z (by decide) (.slice x n1 y) (.int .i64 s.most) (.slice r n2 t) (.int .i64 s.fuel) (.slice p e q) (.slice j c m))
 clear f aa ab ad ae;go_upto_region 5 with fail;clear f4 k4 y4 ar;go_wp2_with fail;refine bodyPost_ret (bKc _ _ (w.heap.size+1) _ _ _ _ _ _ rfl av.out) rfl ?_
 exact⟨.slice x n1 y,.slice r n2 t,.slice p e q,.slice j c m,rfl,by rw[N1.out];exact H1.out,by rw[N2.out];exact H2.out,by rw[N3.out];exact H3.out,by rw[N4.out];exact H4.out,aw.out,
  fun k d=>⟨fun h=>by have:=E2.out k d;have:=E4.out k h;omega,fun h=>by have:=E2.out k d;have:=E3.out k h;omega,fun h=>by have:=E2.out k d;have:=E1.out k h;omega⟩,
  fun k d=>⟨fun h=>by have:=E4.out k d;have:=E3.out k h;omega,fun h=>by have:=E4.out k d;have:=E1.out k h;omega⟩⟩
structure HoldsP (ks:List Int) (m:Bool) (s:RawS):Prop where
 pg:s.mem.length % 256=0
 le:(s.mem.length:Int)<=s.most
 mx:s.most<=4096
 no:m=false->s.most=0
 gl:s.globals.length=ks.length
 f0:0<=s.fuel
 f1:s.fuel<=1024
 il:s.input.length<=4096
 ll:s.log.length<=4096
 ft:∀ (k:Nat) (t:Int) (n:Nat),ks[k]? = some t->s.globals[k]? = some n->fitsB t n=true
def dVd(ks:List Int)(l:List Nat):Prop:=ks.length=l.length/\∀ (k:Nat) (t:Int) (n:Nat),ks[k]? = some t->l[k]? = some n->fitsB t n=true
def aKn(Q:Prop)(w:AV)(a:Ending)(w':AV):Prop:=∃ b:Bool,a = .returned (.bool b)/\(b=true↔Q)/\AY w.heap.size w w'
theorem cKu(vk vl:AW)(ks:List Int)(l:List Nat)(w:AV)(c:IR w vk ks)(d:UR w vl l)(A:ks.length<=100000):Calls fZ 34 #[vk,vl] w (aKn (dVd ks l) w):=by
 obtain⟨A1,c1,rfl⟩:=c.shape;obtain⟨A2,c2,rfl⟩:=d.shape;have q:=fQ c;have r:=fQ d;have B:=d.len.2.2.2.2.1.1;clear c d;by_cases hlen:ks.length=l.length
 ·obtain⟨n,hn⟩:=fX l.length;have e:ks.length=n:=(by omega);have s:=fQ hn;have f:=fQ e;rw[hn]at r B;rw[e]at q A;rw[hn,e];have C:((n:Int) != (n:Int))=false:=(by simp);clear hn e hlen;go_in;go_wp2;go_loopw [5] (fun i wr=>∃ k:Nat,k<=n/\i = .int .i64 k/\Hid (AY w.heap.size w wr/\∀ (j:Nat) (t:Int) (n:Nat),j<k->ks[j]? = some t->l[j]? = some n->fitsB t n=true)) (fun i _=>n - (intOf i).toNat)
  case atStart=>exact⟨0,by omega,rfl,fQ ⟨Below.refl _ _,fun j t n h=>by omega⟩⟩
  case round=>
   obtain⟨k,c,rfl,IM⟩:=hrel;by_cases u:k<n
   ·have D:decide ((k:Int)<n)=true:=(by simp;omega);have t2:(k:Int)<n:=(by omega);obtain⟨x,g⟩:∃ x,ks[k]? = some x:=⟨_,Aj (by rw[f.out];exact u)⟩;obtain⟨y,p⟩:∃ y,l[k]? = some y:=⟨_,Aj (by rw[s.out];exact u)⟩;obtain⟨b,o,rfl,hb,hc⟩:=(q.out.below IM.out.1 (Aq _)).cell g;obtain⟨b2,o2,rfl,ae,af,_⟩:=(r.out.below IM.out.1 (Aq _)).cell p;have v:=fQ g;have z:=fQ p;clear g p;cases hf:fitsB x y
    ·have a:=fQ hf;clear hf;go_wp2_with fail;go_quiet ((go_at_call 63;exact Az ((yQ x y _).mono fun _ _ ⟨h1,h2⟩=>⟨h1.trans (by rw[a.out]),h2.symm⟩)));go_wp2;go_ret;exact⟨false,rfl,⟨fun h=>(by cases h),fun h=>(by have:=h.2 k x y v.out z.out;rw[a.out]at this;cases this)⟩,fK IM.out.1 _⟩
    ·have a:=fQ hf;clear hf;go_wp2_with fail;go_quiet ((go_at_call 63;exact Az ((yQ x y _).mono fun _ _ ⟨h1,h2⟩=>⟨h1.trans (by rw[a.out]),h2.symm⟩)));go_wp2;refine⟨⟨k+1,by omega,by simp,fQ ⟨fK IM.out.1 _,fun j t n hj h1 h2=>?_⟩⟩,by simp[intOf];omega⟩;rcases AX j k with h | h
     ·exact IM.out.2 j t n h h1 h2
     ·obtain rfl:j=k:=(by omega);rw[v.out]at h1;rw[z.out]at h2;cases h1;cases h2;exact a.out
   ·have D:decide ((k:Int)<n)=false:=(by simp;omega);go_wp2;go_ret;exact⟨true,rfl,⟨fun _=>⟨f.out.trans s.out.symm,fun j t m h1 h2=>IM.out.2 j t m (by have:=(List.getElem?_eq_some_iff.1 h1).1;have:=f.out;omega) h1 h2⟩,fun _=>rfl⟩,IM.out.1⟩
 ·have C:((ks.length:Int) != (l.length:Int))=true:=(by simp;omega);have E:=fQ hlen;clear hlen;go_in;go_wp2;go_ret;exact⟨false,rfl,⟨fun h=>(by cases h),fun h=>absurd h.1 E.out⟩,Below.refl _ _⟩
theorem cKv(vk vs:AW)(ks:List Int)(m:Bool)(s:RawS)(w:AV)(z:IR w vk ks)(hs:StV w vs s)(ak:ks.length<=100000):Calls fZ 94 #[vk,.bool m,vs] w (aKn (HoldsP ks m s) w):=by
 obtain⟨A0,c0,rfl⟩:=z.shape;obtain⟨a,g,i,l,rfl,h1,h2,L,M⟩:=hs;obtain⟨B,c1,rfl⟩:=h1.shape;obtain⟨C,D,rfl⟩:=h2.shape;obtain⟨E,F,rfl⟩:=L.shape;obtain⟨G,H,rfl⟩:=M.shape;have z1:=h1.len.2.2.2.2.1;have z2:=h2.len.2.2.2.2.1;have z3:=L.len.2.2.2.2.1;have z4:=M.len.2.2.2.2.1;obtain⟨Y,N⟩:∃ n,ks.length=n:=⟨_,rfl⟩;obtain⟨n1,O⟩:∃ n,s.mem.length=n:=⟨_,rfl⟩;obtain⟨n2,P⟩:∃ n,s.globals.length=n:=⟨_,rfl⟩;obtain⟨q,Q⟩:∃ n,s.input.length=n:=⟨_,rfl⟩;obtain⟨r,R⟩:∃ n,s.log.length=n:=⟨_,rfl⟩;obtain⟨c,S⟩:∃ x,s.most=x:=⟨_,rfl⟩;obtain⟨f,T⟩:∃ x,s.fuel=x:=⟨_,rfl⟩;rw[O]at z1 ⊢;rw[P]at h2 z2 ⊢;rw[Q]at z3 ⊢;rw[R]at z4 ⊢;rw[N]at z ak ⊢;rw[S,T];have HK:=fQ z;have H2:=fQ h2;have I:=fQ N;have J:=fQ O;have U:=fQ P;have Z:=fQ Q;have N4:=fQ R;have v:=fQ S;have K:=fQ T;have HB:=fQ ((Below.refl w.heap.size w).alloc (Aq _) (.cells #[.slice B n1 c1,.int .i64 c,.slice C n2 D,.int .i64 f,.slice E q F,.slice G r H] 33));have KB:=fQ (Blk.new w 33 #[.slice B n1 c1,.int .i64 c,.slice C n2 D,.int .i64 f,.slice E q F,.slice G r H]);have p:=fQ (fun h:¬HoldsP ks m s=>show aKn (HoldsP ks m s) w (.returned (.bool false)) (w.alloc (.cells #[.slice B n1 c1,.int .i64 c,.slice C n2 D,.int .i64 f,.slice E q F,.slice G r H] 33))from⟨false,rfl,⟨fun e=>(by cases e),fun e=>absurd e h⟩,HB.out⟩);clear h1 h2 L M z N O P Q R S T;by_cases b1:n1 % 256=0
 case neg=>
  have q1:((n1:Int) % 256 != 0)=true:=(by simp;omega);go_in;go_wp2;go_ret
  exact p.out fun h=>by have:=h.pg;rw[J.out]at this;omega
 have q1:((n1:Int) % 256 != 0)=false:=(by simp;omega);by_cases b2:(n1:Int)<=c
 case neg=>
  have q2:decide (c<(n1:Int))=true:=(by simp;omega);go_in;go_wp2;go_ret
  exact p.out fun h=>by have:=h.le;rw[J.out,v.out]at this;omega
 have q2:decide (c<(n1:Int))=false:=(by simp;omega);by_cases b3:c<=4096
 case neg=>
  have q3:decide (4096<c)=true:=(by simp;omega);go_in;go_wp2;go_ret
  exact p.out fun h=>by have:=h.mx;rw[v.out]at this;omega
 have q3:decide (4096<c)=false:=(by simp;omega);by_cases u:m=false/\c≠0
 ·obtain⟨rfl,u⟩:=u;have d:(c != 0)=true:=(by simpa using u);have al:=fQ u;clear u;go_in;go_wp2;go_ret;exact p.out fun h=>al.out (by have:=h.no rfl;rwa[v.out]at this)
 have B4:=fQ (show m=false->c=0 from fun e=>Classical.byContradiction fun h=>u ⟨e,h⟩);clear u
 have d:m=true\/(m=false/\(c != 0)=false):=by
  cases m
  ·exact .inr ⟨rfl,by have:=B4.out rfl;simp[this]⟩
  ·exact .inl rfl
 by_cases V:n2=Y
 case neg=>
  have q5:((n2:Int) != (Y:Int))=true:=(by simp;omega);have an:=fQ V;clear V;rcases d with rfl | ⟨rfl,d⟩
  all_goals
   go_in;go_wp2;go_ret;exact p.out fun h=>an.out (by have:=h.gl;rwa[U.out,I.out]at this)
 subst V;have q5:((n2:Int) != (n2:Int))=false:=(by simp);by_cases b6:0<=f
 case neg=>
  have q6:decide (f<0)=true:=(by simp;omega);rcases d with rfl | ⟨rfl,d⟩
  all_goals
   go_in;go_wp2;go_ret
   exact p.out fun h=>by have:=h.f0;rw[K.out]at this;omega
 have q6:decide (f<0)=false:=(by simp;omega);by_cases b7:f<=1024
 case neg=>
  have q7:decide (1024<f)=true:=(by simp;omega);rcases d with rfl | ⟨rfl,d⟩
  all_goals
   go_in;go_wp2;go_ret
   exact p.out fun h=>by have:=h.f1;rw[K.out]at this;omega
 have q7:decide (1024<f)=false:=(by simp;omega);by_cases b8:q<=4096
 case neg=>
  have q8:decide ((4096:Int)<(q:Int))=true:=(by simp;omega);rcases d with rfl | ⟨rfl,d⟩
  all_goals
   go_in;go_wp2;go_ret
   exact p.out fun h=>by have:=h.il;rw[Z.out]at this;omega
 have q8:decide ((4096:Int)<(q:Int))=false:=(by simp;omega);by_cases b9:r<=4096
 case neg=>
  have q9:decide ((4096:Int)<(r:Int))=true:=(by simp;omega);rcases d with rfl | ⟨rfl,d⟩
  all_goals
   go_in;go_wp2;go_ret
   exact p.out fun h=>by have:=h.ll;rw[N4.out]at this;omega
 have q9:decide ((4096:Int)<(r:Int))=false:=by simp;omega
 have HY:=fQ (fun(hf:∀ (k:Nat) (t:Int) (n:Nat),ks[k]? = some t->s.globals[k]? = some n->fitsB t n=true)=>show HoldsP ks m s from
  ⟨by rw[J.out];exact b1,by rw[J.out,v.out];exact b2,by rw[v.out];exact b3,fun h=>by rw[v.out];exact B4.out h,by rw[U.out,I.out],by rw[K.out];exact b6,by rw[K.out];exact b7,by rw[Z.out];exact b8,by rw[N4.out];exact b9,hf⟩)
 rcases d with rfl | ⟨rfl,d⟩
 all_goals
  go_in;go_wp2_with fail;go_loopw [7] (fun i wr=>∃ k:Nat,k<=n2/\i = .int .i64 k/\Hid (AY w.heap.size w wr/\Blk wr w.heap.size 33 #[.slice B n1 c1,.int .i64 c,.slice C n2 D,.int .i64 f,.slice E q F,.slice G r H]/\∀ (j:Nat) (t:Int) (n:Nat),j<k->ks[j]? = some t->s.globals[j]? = some n->fitsB t n=true)) (fun i _=>n2 - (intOf i).toNat)
  case atStart=>exact⟨0,by omega,rfl,fQ ⟨HB.out,KB.out,fun j t n h=>by omega⟩⟩
  case round=>
   clear q1 q2 q3 q5 q6 q7 q8 q9;obtain⟨k,z,rfl,IM⟩:=hrel;by_cases ai:k<n2
   ·have t1:decide ((k:Int)<n2)=true:=(by simp;omega);have t2:(k:Int)<n2:=(by omega);obtain⟨x,W⟩:∃ x,ks[k]? = some x:=⟨_,Aj (by rw[I.out];exact ai)⟩;obtain⟨y,X⟩:∃ y,s.globals[k]? = some y:=⟨_,Aj (by rw[U.out];exact ai)⟩;obtain⟨b,o,rfl,hb,hc⟩:=(HK.out.below IM.out.1 (Aq _)).cell W;obtain⟨ao,o2,rfl,aq,ar,_⟩:=(H2.out.below IM.out.1 (Aq _)).cell X;obtain⟨r0,r1,r2,r3,r4,r5⟩:=kJ IM.out.2.1;have yr:=IM.out.2.1.lt;have HX:=fQ W;have aj:=fQ X;clear W X;cases hf:fitsB x y
    ·have A:=fQ hf;clear hf;go_wp2_with fail;go_quiet ((go_at_call 63;exact Az ((yQ x y _).mono fun _ _ ⟨h1,h2⟩=>⟨h1.trans (by rw[A.out]),h2.symm⟩)));go_wp2;go_ret;exact⟨false,rfl,⟨fun h=>(by cases h),fun h=>(by have:=h.ft k x y HX.out aj.out;rw[A.out]at this;cases this)⟩,fK IM.out.1 _⟩
    ·have A:=fQ hf;clear hf;go_wp2_with fail;go_quiet ((go_at_call 63;exact Az ((yQ x y _).mono fun _ _ ⟨h1,h2⟩=>⟨h1.trans (by rw[A.out]),h2.symm⟩)));go_wp2;refine⟨⟨k+1,by omega,by simp,fQ ⟨fK IM.out.1 _,IM.out.2.1.drewN _,fun j t n hj h1 h2=>?_⟩⟩,by simp[intOf];omega⟩;rcases AX j k with h | h
     ·exact IM.out.2.2 j t n h h1 h2
     ·obtain rfl:j=k:=(by omega);rw[HX.out]at h1;rw[aj.out]at h2;cases h1;cases h2;exact A.out
   ·have t1:decide ((k:Int)<n2)=false:=(by simp;omega);go_wp2;go_ret;exact⟨true,rfl,⟨fun _=>HY.out fun j t m h1 h2=>IM.out.2.2 j t m (by have:=(List.getElem?_eq_some_iff.1 h1).1;have:=I.out;omega) h1 h2,fun _=>rfl⟩,IM.out.1⟩
def FitP(e:EnvD)(s:RawS):Prop:=envOk e=true/\HoldsP e.globals e.mem s
theorem bQs(f vs:AW)(e:EnvD)(s:RawS)(w:AV)(he:EnvV w f e)(hs:StV w vs s)(j:e.globals.length<=100000):Calls fZ 62 #[f,vs] w (aKn (HoldsP e.globals e.mem s) w):=by
 obtain⟨a,b,d,rfl,_,h2,_⟩:=he;have g:=hs;obtain⟨a1,k,l,m,rfl,_⟩:=hs;have c:=fQ (aVq w (.cells #[a,.int .i64 e.imports,b,d,.bool e.mem] 26) (.cells #[a1,.int .i64 s.most,k,.int .i64 s.fuel,l,m] 33));have n:=fQ (h2.ir.below c.out (Aq _));have o:=fQ (g.below c.out (Aq _));clear h2 g;go_in;go_wp2_with fail;refine(cKv _ _ e.globals e.mem s _ n.out o.out j).mono ?_;rintro en w1 ⟨p,rfl,h,i⟩;have H1:=fQ h;have q:=fQ (c.out.trans (i.mono c.out.size));clear h i;go_wp2;go_ret;exact⟨p,rfl,H1.out,q.out⟩
theorem cKw(l vs:AW)(e:EnvD)(s:RawS)(w:AV)(he:EnvV w l e)(hs:StV w vs s)(v:e.globals.length<=100000):Calls fZ 33 #[l,vs] w (aKn (FitP e s) w):=by
 have m:=he;obtain⟨a,b,d,rfl,_⟩:=he;have n:=hs;obtain⟨a1,f,g,i,rfl,_⟩:=hs;have j:=fQ (aVq w (.cells #[a,.int .i64 e.imports,b,d,.bool e.mem] 26) (.cells #[a1,.int .i64 s.most,f,.int .i64 s.fuel,g,i] 33));have o:=fQ (Blk.alloc (Blk.new w 26 #[a,.int .i64 e.imports,b,d,.bool e.mem]) (.cells #[a1,.int .i64 s.most,f,.int .i64 s.fuel,g,i] 33));have p:=fQ (Blk.newAt (w.alloc (.cells #[a,.int .i64 e.imports,b,d,.bool e.mem] 26)) (N:=w.heap.size+1) 33 #[a1,.int .i64 s.most,f,.int .i64 s.fuel,g,i] (by simp));have q:=fQ m;have x:=fQ n;clear m n;go_in;go_wp2_with fail;refine(xW _ e _ (q.out.below j.out (Aq _))).mono ?_;rintro y w1 ⟨rfl,c⟩;have H1:=fQ (j.out.trans (c.mono j.out.size));have z:=fQ (o.out.below c o.out.lt);have A:=fQ (p.out.below c p.out.lt);clear c;cases k:envOk e
 ·go_wp2;go_ret;exact⟨false,rfl,⟨fun h=>(by cases h),fun h=>(by have:=h.1;rw[k]at this;cases this)⟩,H1.out⟩
 ·obtain⟨e0,e1,e2,e3,e4⟩:=gJ z.out;obtain⟨s0,s1,s2,s3,s4,s5⟩:=kJ A.out;have B:=fQ k;clear k;go_wp2_with fail;refine(bQs _ _ e s _ (q.out.below H1.out (Aq _)) (x.out.below H1.out (Aq _)) v).mono ?_;rintro y w2 ⟨C,rfl,r,t⟩;have u:=fQ r;have D:=fQ (H1.out.trans (t.mono H1.out.size));clear r t;go_wp2;go_ret;exact⟨C,rfl,⟨fun h=>⟨B.out,u.out.1 h⟩,fun h=>u.out.2 h.2⟩,D.out⟩
section
variable {H:Type} {enc:TypeId×AW->H} {w:AV}
theorem dYk:pK enc fZ w 27 (fun w cs (l:List RowD)=>∃ v,cs = [v]/\Structs 5 RowC w v l):=by
 intro fuel cs x h a;obtain⟨l,v,e,hs,_⟩:=sQ (enc:=enc) (w:=w) underlying27 (show fZ.cellsOf 43=5 by kernel_rfl) (by omega) (show 1<=fZ.bytesOf 43 by decide +kernel) dKv fuel cs x h a;exact⟨l,v,e,hs⟩
theorem cen:fZ.cellsOf 26=5:=by kernel_rfl
theorem crs:fZ.cellsOf 27=1:=by kernel_rfl
theorem rows_open{r:Reach}{b0:Nat}{d:DataW H}{q:List MemPlace}(j:AZ fZ w r b0 29 v)(h:DataW.Trod enc fZ w 0 (fun _=>true) true 29 v d q)(hs:aZt fZ 29 d):∃ p,RowsV w v p:=by
 obtain⟨cs,rfl⟩:=cJq (t:=29) (fs:=_) underlying29 j;obtain⟨fuel,hf⟩:=h;obtain⟨e,e0⟩:=kX underlying29 hf hs 0 0 5 26 rfl dKu rfl rfl cen;obtain⟨l,v1,f,k⟩:=kX underlying29 hf hs 1 5 1 27 rfl dYk rfl rfl crs;obtain⟨_,_,_,_,m,_,_⟩:=DataW.trod_struct underlying29 hf;have g:(AQ cs).cells.toList.length=6:=m.trans (by kernel_rfl);have hc:(AQ cs).cells.toList=cs.toList:=rfl;rw[hc]at e0 f g
 match i:cs.toList,g with
 | [x0,x1,x2,x3,x4,x5],_=>
  rw[i]at e0 f;obtain⟨a,b,c,hq,h1,h2,n⟩:=e0;simp at hq f;obtain⟨rfl,rfl,rfl,rfl,rfl⟩:=hq;subst f;refine⟨⟨e,l⟩,x0,x2,x3,x5,?_,h1,h2,n,k⟩
  have:cs=#[x0,.int .i64 e.imports,x2,x3,.bool e.mem,x5]:=by
   apply Array.ext';rw[i]
  rw[this]
end
section
open Go.ChangeShapes Go.WideShapes Go.Deep
structure AskD where
 n:Int
 args:List Nat
 s:RawS
def dVg(w:AV)(v:AW)(q:AskD):Prop:=∃ a m i g j h l,v = .agg #[.int .i64 q.n,a,m,.int .i64 i,g,.int .i64 j,h,l] /\ -9223372036854775808<=q.n/\q.n<=9223372036854775807/\UR w a q.args/\StV w (.agg #[m,.int .i64 i,g,.int .i64 j,h,l]) q.s/\i=q.s.most/\j=q.s.fuel
section
variable {H:Type} {enc:TypeId×AW->H} {P:Program} {w:AV}
theorem aYs{k:IntKind}{by_ M:Nat}(o:P.underlying t=some (.slice e))(he:P.underlying e=some (.int k))(p:P.cellsOf e=1)(q:P.bytesOf e=by_)(af:1<=by_)(r:∀ a:Int,(Lit.int k a).wf=true->0<=a/\a<(M:Int)):
  pK enc P w t (fun w cs (l:List Nat)=>∃ A c,cs = [.slice A l.length c]/\Src w A l.length (l.map fun(n:Nat)=>AK k (n:Int))/\l.length<=c/\(A=none->c=0)/\c*by_<=140737488351232/\∀ x∈l,x<M):=by
 intro fuel cs x h s;obtain⟨l,v,rfl,⟨A,c,vs,rfl,h1,h2,h3,h4,u,b,d⟩,z⟩:=sQ (enc:=enc) (w:=w) o p (by omega) (by omega) (aXt he) fuel cs x h s;have f:=z _ _ _ rfl;rw[q]at f;have g:∀ i (hi:i<l.length),0<=l[i]/\l[i]<(M:Int):=fun i hi=>r _ (b i _ _ (Aj (by omega)) (Aj hi)).2;refine⟨l.map Int.toNat,A,c,by rw[Ay],?_,by rw[Ay];exact h1,h2,f,fun x B=>?_⟩
 ·rw[Ay]
  have C:vs.flatten=(l.map Int.toNat).map fun(n:Nat)=>AK k (n:Int):=by
   apply List.ext_getElem?;intro i;by_cases hi:i<l.length
   ·have m:vs[i]? = some (vs[i]'(by omega)):=Aj (by omega);have D:=(b i _ _ m (Aj hi)).1;have:=uX (j:=0) u m (by rw[D];rfl);rw[Nat.mul_one,Nat.add_zero]at this;rw[this];have E:=(g i hi).1;simp[List.getElem?_map,Aj hi,Int.toNat_of_nonneg E]
   ·have F:=d.1;rw[AJ (by rw[F];omega),AJ (by simp;omega)]
  rw[<-C]
  simpa using d
 ·obtain⟨y,G,rfl⟩:=List.mem_map.1 B;obtain⟨i,hi,rfl⟩:=List.mem_iff_getElem.1 G;have:=g i hi;omega
end
end
section
variable {H:Type} {enc:TypeId×AW->H} {w:AV}
theorem aVn:pK enc fZ w 30 (fun w cs (l:List Nat)=>∃ v,cs = [v]/\UR w v l):=by
 intro fuel cs x h b;obtain⟨l,A,c,rfl,h1,h2,d,h4,e⟩:=aYs (enc:=enc) (w:=w) (k:=.u64) (by_:=8) (M:=18446744073709551616) underlying30 underlying50 (by kernel_rfl) (by kernel_rfl) (by omega) (fun a ha=>aWu ha) fuel cs x h b;exact⟨l,_,rfl,A,c,rfl,h1,h2,d,⟨by omega,by omega⟩,e⟩
theorem dVh:pK enc fZ w 31 (fun w cs (l:List Nat)=>∃ v,cs = [v]/\BR w v l):=by
 intro fuel cs x h b;obtain⟨l,A,c,rfl,h1,h2,d,h4,e⟩:=aYs (enc:=enc) (w:=w) (k:=.u8) (by_:=1) (M:=256) underlying31 underlying5 (by kernel_rfl) (by kernel_rfl) (by omega) (fun a ha=>cQy ha) fuel cs x h b;exact⟨l,_,rfl,A,c,rfl,h1,h2,d,⟨by omega,by omega⟩,e⟩
theorem eXc:fZ.cellsOf 31=1:=by kernel_rfl
theorem bZw:fZ.cellsOf 30=1:=by kernel_rfl
theorem cst:fZ.cellsOf 33=6:=by kernel_rfl
theorem dQv:pK enc fZ w 33 (fun w cs (s:RawS)=>∃ a g i l,cs = [a,.int .i64 s.most,g,.int .i64 s.fuel,i,l]/\BR w a s.mem/\UR w g s.globals/\UR w i s.input/\UR w l s.log):=by
 intro fuel cs x h e;obtain⟨o,v0,e0,i0⟩:=kX underlying33 h e 0 0 1 31 rfl dVh rfl rfl eXc;obtain⟨p,j,i1⟩:=kX underlying33 h e 1 1 1 3 rfl aZm rfl rfl ci;obtain⟨q,v2,e2,r⟩:=kX underlying33 h e 2 2 1 30 rfl aVn rfl rfl bZw;obtain⟨t,k,i3⟩:=kX underlying33 h e 3 3 1 3 rfl aZm rfl rfl ci;obtain⟨u,v4,m,v⟩:=kX underlying33 h e 4 4 1 30 rfl aVn rfl rfl bZw;obtain⟨y,v5,n,z⟩:=kX underlying33 h e 5 5 1 30 rfl aVn rfl rfl bZw;obtain⟨_,_,_,_,A,_,_⟩:=DataW.trod_struct underlying33 h;have B:cs.length=6:=A.trans (by kernel_rfl)
 match cs,B with
 | [a,b,c,d,f,g],_=>
  simp at e0 j e2 k m n;subst e0;subst j;subst e2;subst k;subst m;subst n;exact⟨⟨o,p,q,t,u,y⟩,_,_,_,_,rfl,i0,r,v,z⟩
end
section
variable {H:Type} {enc:TypeId×AW->H} {w:AV}
theorem ask19_open{r:Reach}{b0:Nat}{d:DataW H}{q:List MemPlace}(k:AZ fZ w r b0 35 v)(h:DataW.Trod enc fZ w 0 (fun _=>true) true 35 v d q)(hs:aZt fZ 35 d):∃ p,dVg w v p:=by
 obtain⟨cs,rfl⟩:=cJq (t:=35) (fs:=_) underlying35 k;obtain⟨fuel,hf⟩:=h;obtain⟨n,e0,i0⟩:=kX underlying35 hf hs 0 0 1 3 rfl aZm rfl rfl ci;obtain⟨l,v1,b,m⟩:=kX underlying35 hf hs 1 1 1 30 rfl aVn rfl rfl bZw;obtain⟨s,e2⟩:=kX underlying35 hf hs 2 2 6 33 rfl dQv rfl rfl cst;obtain⟨_,_,_,_,o,_,_⟩:=DataW.trod_struct underlying35 hf;have f:(AQ cs).cells.toList.length=8:=o.trans (by kernel_rfl);have hc:(AQ cs).cells.toList=cs.toList:=rfl;rw[hc]at e0 b e2 f
 match j:cs.toList,f with
 | [x0,x1,x2,x3,x4,x5,c,e],_=>
  rw[j]at e0 b e2;obtain⟨a,g,i,lg,hq,h1,h2,u,x⟩:=e2;simp at hq e0 b;obtain⟨rfl,rfl,rfl,rfl,rfl,rfl⟩:=hq;subst e0;subst b;have hb:=i64_bounds i0;refine⟨⟨n,l,s⟩,x1,x2,s.most,x4,s.fuel,c,e,?_,hb.1,hb.2,m,⟨x2,x4,c,e,rfl,h1,h2,u,x⟩,rfl,rfl⟩
  have:cs=#[.int .i64 n,x1,x2,.int .i64 s.most,x4,.int .i64 s.fuel,c,e]:=by
   apply Array.ext';rw[j]
  rw[this]
end
end Go.Proofs.YtabibkpfgmolkaaGreat

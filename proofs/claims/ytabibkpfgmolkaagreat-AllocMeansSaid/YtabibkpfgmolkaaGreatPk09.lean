/- Lemmas for the claim, part 9. Conditions: none. -/
import Derived.Test.YtabibkpfgmolkaaGreatPk08
set_option maxRecDepth 100000
set_option maxHeartbeats 16000000
set_option linter.unusedVariables false
set_option linter.unusedSimpArgs false
open Go.Lib renaming hid→fQ
open Go.Proofs.Tryz renaming prog→fZ
open Go.Proofs.Tryz
open Go.RowKit
open List renaming getElem?_eq_getElem→Aj,length_map→Ay,getElem?_eq_none→AJ
open Nat renaming le_refl→Aq,zero_lt_succ→Av,lt_or_ge→AX
open Go.World renaming setCell→Ax,ownsRow_nil→Ak
open Go.Calls renaming quiet_of_same→Az
open Go.Value renaming slice→Aw,agg→AQ,okWide→AZ,int→AK
open Go renaming World→AV,Value→AW
open Go.RowKit renaming Below→AY
namespace Go.Proofs.YtabibkpfgmolkaaGreat
variable {w w':AV}{v x0 x1 x2 x3 x4 x5:AW}{n g k dc base:Nat}{l a:List Nat}{e t:TypeId}{e2:Int}
theorem vW(h:a.length=n)(hk:k<n):∃ x,a[k]? = some x:=⟨_,Aj (by omega)⟩
theorem dZl(C:MaC)(x:MaS)(w:AV)(r:RowD)(c:CodeD)(m cb t f:AW)(a:List Nat)(h:MRef C x w)(ha:UR w f a)(U:∀ k,f.ownBlock=some k->¬MOwn C x k)(u:StOk C.p.env x.s)(V:codeOk C.p.env r c=true)(W:a.length=(inK C.p.env r.sig c).length)
  (G:c.op≠16) (h1:c.op≠273) (h2:c.op≠274) (X:c.op≠275) (P:c.op≠276) (Y:c.op≠277) :
  Calls fZ 95 #[.pointer (some ⟨C.mb,0,none⟩),.agg #[.int .i64 c.op,.int .u64 (c.n:Int),m,cb,t],f] w (nX C x c a w):=by
 obtain⟨op,b,Z,K2,K3⟩:=c;simp only at G h1 h2 X P Y;have post:∀ H w',nX C x ⟨op,b,[],[],[]⟩ a w H w'->nX C x ⟨op,b,Z,K2,K3⟩ a w H w':=fun H w' h=>h;refine Calls.mono ?_ post;obtain⟨i,o,hf,_⟩:=mJ V;have hf:iX C.p.env r.sig op b=some (i,o):=hf
 have v:a.length=i.length:=by
  rw[W];unfold inK;show((iX C.p.env r.sig op b).getD ([],[])).1.length=_;rw[hf];rfl
 have Q:=(show All64 a by obtain⟨A,R,e,_,_,_,_,aw⟩:=ha;exact aw);have g64:∀ {k y:Nat},a[k]? = some y->y<18446744073709551616:=fun h=>Q _ (List.mem_of_getElem? h);have B:=u.fXo;by_cases I:op=256
 ·subst I;exact dZf C x w b m cb t f a [] h ha
 by_cases J:op=272
 ·subst J;have hf:(if b=0 then some (([0]:List Int),([0]:List Int))else none)=some (i,o):=hf
  split at hf
  ·cases hf;obtain⟨j,l⟩:=vW v (k:=0) (by decide);exact dWm C x w b m cb t f a [] h ha j l
  ·cases hf
 by_cases S:op=258
 ·subst S;by_cases ax:x.s.fuel=0
  ·exact dZg C x w b m cb t f a [] h ha ax
  ·exact dZh C x w b m cb t f a [] h ha _ rfl (by omega) u.fuel
 by_cases K:op=27
 ·subst K;have hf:(if b=0 then some (([0,0,127]:List Int),([0]:List Int))else none)=some (i,o):=hf
  split at hf
  ·cases hf;obtain⟨j,l⟩:=vW v (k:=0) (by decide);obtain⟨D,h1⟩:=vW v (k:=1) (by decide);obtain⟨L,h2⟩:=vW v (k:=2) (by decide);by_cases hz:L=0
   ·exact dWn C x w b m cb t f a [] h ha j D L l h1 h2 hz
   ·exact dWo C x w b m cb t f a [] h ha j D L l h1 h2 hz
  ·cases hf
 by_cases M:op=35
 ·subst M;have hf:(C.p.env.globals[b]?).map (fun g=>(([]:List Int),[g]))=some (i,o):=hf
  cases hg:C.p.env.globals[b]? with
  | none=>rw[hg]at hf;cases hf
  | some g=>
   have hl:=(List.getElem?_eq_some_iff.1 hg).1;have:=u.glen;exact dWq C x w b m cb t f a [] h ha _ _ rfl (Aj (by omega))
 by_cases N:op=36
 ·subst N;have hf:(match C.p.env.globals[b]?,C.p.env.muts[b]? with | some g,some true=>some ([g],([]:List Int)) | _,_=>none)=some (i,o):=hf
  cases hg:C.p.env.globals[b]? with
  | none=>rw[hg]at hf;cases hf
  | some g=>
   rw[hg]at hf;have hl:=(List.getElem?_eq_some_iff.1 hg).1;have:=u.glen
   have hi:i.length=1:=by
    revert hf
    split
    ·intro hf;cases hf;rfl
    ·intro hf;cases hf
   obtain⟨j,l⟩:=vW v (k:=0) (by omega);exact dWr C x w b m cb t f a [] h ha _ _ j rfl (Aj (by omega)) l (g64 l)
 by_cases E:(fY op).isSome
 ·have z:acc op=none:=by
   cases z:acc op with
   | none=>rfl
   | some y=>
    obtain⟨k,wd,st,F⟩:=y;have hb:=nW z
    cases hg:fY op with
    | none=>rw[hg]at E;cases E
    | some g=>
     obtain⟨p,q,R,d⟩:=g;have:=(aVk hg);omega
  have O:op≠257/\op≠63/\op≠64:=by
   cases hg:fY op with
   | none=>rw[hg]at E;cases E
   | some g=>
    obtain⟨p,q,R,d⟩:=g;have:=(aVk hg);omega
  exact dWt C x w op z ⟨I,J,S,K,M,N,O.1,O.2.1,O.2.2⟩ G b m cb t f a [] h ha Q
 ·have hq:nZ C.p.env.mem op b=some (i,o):=by
   unfold iX at hf;rw[if_neg I,if_neg J,if_neg (by omega),if_neg (by omega),if_neg P,if_neg K,if_neg G,if_neg M,if_neg N,if_neg E]at hf;exact hf
  clear hf;unfold nZ at hq
  split at hq
  ·cases hq
  by_cases T:op=257
  ·subst T;rw[if_pos rfl]at hq
   split at hq
   ·cases hq;obtain⟨j,l⟩:=vW v (k:=0) (Av _);cases hz:wJ x.s.mem.length j b
    ·exact cKs C x w b m cb t f a [] h ha j l B hz
    ·exact cKt C x w b m cb t f a [] h ha j l B hz
   ·cases hq
  rw[if_neg T]at hq
  cases z:acc op with
  | some y=>
   obtain⟨k,wd,st,F⟩:=y;rw[z]at hq;simp only at hq
   split at hq
   ·cases st with
    | true=>
     cases hq;obtain⟨j,l⟩:=vW v (k:=0) (Av _);obtain⟨D,h1⟩:=vW v (k:=1) (Nat.lt_succ_self 1);by_cases hz:nQ x.s.mem.length op j b D=0
     ·exact cKv C x w op k wd F z b m cb t f a [] h ha j l B D h1 u.memB hz
     ·exact cKu C x w op k wd F z b m cb t f a [] h ha j l B D h1 u.memB hz
    | false=>
     cases hq;obtain⟨j,l⟩:=vW v (k:=0) (Av _);by_cases hz:(qZ x.s.mem op j b).2=0
     ·exact dZk C x w op k wd F z b m cb t f a [] h ha j l B u.memB hz
     ·exact dZj C x w op k wd F z b m cb t f a [] h ha j l B u.memB hz
   ·cases hq
  | none=>
   rw[z]at hq;simp only at hq
   split at hq
   ·rename_i ay;subst ay;exact dWp C x w b m cb t f a [] h ha B
   ·split at hq
    ·rename_i az;subst az
     split at hq
     ·cases hq;obtain⟨j,l⟩:=vW v (k:=0) (Av _);exact dWs C x w b m cb t f a [] h ha j l U B u.most (by have:=u.memL;omega) (g64 l) u.memB
     ·cases hq
    ·cases hq
inductive CDid (p:RowsD) (lost d n:Nat) (g:SigD) (a:List Nat) (s:StD):StD->Int->Nat->Nat->List Nat->Prop
 | host (hi:(n:Int)<p.env.imports):CDid p lost d n g a s (hostV n g.out (lowL g.inn a) s).2.2 (hostV n g.out (lowL g.inn a) s).2.1 0 0 (hostV n g.out (lowL g.inn a) s).1
 | deep (hi:¬(n:Int)<p.env.imports) (hd:16<=d):CDid p lost d n g a s s 37 0 0 []
 | call {q:RowD} {R:ResD} (hi:¬(n:Int)<p.env.imports) (hd:d<16) (hq:p.fns[n - p.env.imports.toNat]? = Option.some q) (h1:Ev p lost (d+1) q 0 (initV q (lowL g.inn a)) s R):CDid p lost d n g a s R.s R.e R.cnt (q.places.toNat+R.wds) R.out
theorem dXv{outs:List Int}{s:StD}(h:(hostV n outs a s).2.1≠0):(hostV n outs a s).1 = []:=by
 unfold hostV at h ⊢
 split
 ·rename_i h1;rw[if_pos h1]at h;exact absurd rfl h
 ·rfl
theorem Did.fZa{p:RowsD}{lost d:Nat}{c:CodeD}{g:SigD}{s s2:StD}{wd:Nat}(h:Did p lost d c k a s s2 e2 dc wd l)(e:c.op=16)(hg:p.env.sigs[c.n]? = Option.some g)(f:lowL g.inn a=a):CDid p lost d c.n g a s s2 e2 dc wd l:=by
 have i:p.env.sigs.getD c.n ⟨[],[]⟩=g:=by rw[List.getD_eq_getElem?_getD,hg];rfl
 cases h with
 | vals ha=>
  obtain⟨_,_,_,_,_,h1 | h1⟩:=uZ ha
  ·obtain⟨_,hi,j⟩:=h1;have:=CDid.host (p:=p) (lost:=lost) (d:=d) (n:=c.n) (g:=g) (a:=a) (s:=s) hi;rw[i]at j;rw[f,j]at this;exact this
  ·exact absurd e h1.1
 | trap ha=>
  unfold actV at ha;rw[if_neg (by omega),if_neg (by omega),if_neg (by omega),if_neg (by omega),if_neg (by omega),if_pos e,i]at ha
  split at ha
  ·rename_i hi;dsimp only at ha
   split at ha
   ·cases ha
   ·rename_i o;injection ha with h1 h2;have:=CDid.host (p:=p) (lost:=lost) (d:=d) (n:=c.n) (g:=g) (a:=a) (s:=s) hi;rw[f,dXv o,h1,h2]at this;exact this
  ·cases ha
 | call ha hd hq m h1=>
  obtain⟨_,rfl,b⟩:=rX ha;rw[hg]at m;cases m;exact .call b hd hq h1
 | deep ha hd=>
  obtain⟨_,rfl,b⟩:=rX ha;exact .deep b hd
theorem Did.fZb{p:RowsD}{lost d:Nat}{c:CodeD}{s s2:StD}{wd:Nat}(h:Did p lost d c k a s s2 e2 dc wd l)(b:c.op≠16)(h1:c.op≠273)(h2:c.op≠274)(f:c.op≠275)(g:c.op≠276)(i:c.op≠277):
  s2=(mK c a s).2.2/\e2=(mK c a s).2.1/\dc=0/\wd=0/\(e2=0->l = [(mK c a s).1]):=by
 cases h with
 | vals ha=>
  obtain⟨_,_,_,_,_,e | e⟩:=uZ ha
  ·exact absurd e.1 b
  ·obtain⟨_,rfl,he,rfl⟩:=e;exact⟨rfl,he.symm,rfl,rfl,fun _=>rfl⟩
 | trap ha=>
  have j:=aXz ha;unfold actV at ha;rw[if_neg g,if_neg i,if_neg h1,if_neg h2,if_neg f,if_neg b]at ha;dsimp only at ha
  split at ha
  ·cases ha
  ·injection ha with m e2;exact⟨e2.symm,m.symm,rfl,rfl,fun h=>absurd h j⟩
 | call ha=>exact absurd (rX ha).1 b
 | deep ha=>exact absurd (rX ha).1 b
theorem RunR.from{C:MaC}{x:MaS}{s2:StD}{wd:Nat}{a:AV}{b:Ending}(h:RunR C x s2 e2 dc wd l a b w')(k:MK C x x w a):RunR C x s2 e2 dc wd l w b w':=by
 obtain⟨v,x',rfl,h1,h2,d,f,g,i,j,m,n,c⟩:=h;exact⟨v,x',rfl,h1,k.trans h2,d,f,g,i,j,m,n,fun e=>⟨jX (c e).1 k.size,(c e).2⟩⟩
structure RawS where
 mem:List Nat
 most:Int
 globals:List Nat
 fuel:Int
 input:List Nat
 log:List Nat
def StV(w:AV)(v:AW)(s:RawS):Prop:=∃ a g i l,v = .agg #[a,.int .i64 s.most,g,.int .i64 s.fuel,i,l]/\BR w a s.mem/\UR w g s.globals/\UR w i s.input/\UR w l s.log
theorem StV.below{w w':AV}{B:Nat}{v:AW}{s:RawS}(h:StV w v s)(b:AY B w w')(c:w.heap.size<=B):StV w' v s:=by
 obtain⟨a,g,i,l,e,h1,h2,d,f⟩:=h;exact⟨a,g,i,l,e,h1.below b c,h2.below b c,d.below b c,f.below b c⟩
def RawS.of(s:StD):RawS:=⟨s.mem,s.most,s.globals,s.fuel,s.input,s.log⟩
theorem BR.shape(h:BR w v l):∃ A c,v = .slice A l.length c:=by
 obtain⟨A,c,e,_⟩:=h;exact⟨A,c,e⟩
theorem BR.len{A:Option Addr}{c:Nat}(h:BR w (.slice A n c) l):n=l.length/\Src w A n (bys l)/\n<=c/\(A=none->c=0)/\(n<=140737488355328/\c<=9223372036854775807)/\AllB l:=by
 obtain⟨A',c',e,r⟩:=h;injection e with a e2 b;subst a;subst e2;subst b;exact⟨rfl,r⟩
theorem aKv(w:AV)(a b:Obj):AY w.heap.size w ((w.alloc a).alloc b):=((Below.refl _ _).alloc (Aq _) _).alloc (by simp) _
theorem lX{a b c d f h:AW}(k:Blk w g e #[a,b,c,d,f,h]):
  w.cell? ⟨g,0,none⟩=some a/\w.cell? ⟨g,1,none⟩=some b/\w.cell? ⟨g,2,none⟩=some c/\w.cell? ⟨g,3,none⟩=some d/\w.cell? ⟨g,4,none⟩=some f/\w.cell? ⟨g,5,none⟩=some h:=
 ⟨by simpa using k.cell 0,by simpa using k.cell 1,by simpa using k.cell 2,by simpa using k.cell 3,by simpa using k.cell 4,by simpa using k.cell 5⟩
theorem dZx(v u:AW)(x y:List Nat)(w:AV)(ha:BR w v x)(a:BR w u y):Calls fZ 27 #[v,u] w fun e w'=>e = .returned (.bool (decide (x=y)))/\w=w':=by
 obtain⟨A,c,rfl⟩:=ha.shape;obtain⟨B,d,rfl⟩:=a.shape;obtain⟨_,b,_,_,_,f⟩:=ha.len;obtain⟨_,g,_,_,_,h⟩:=a.len;have h1:=bWh (P:=fZ) w 31 9 5 underlying31 underlying5 underlying9 A x.length c x b f;have h2:=bWh (P:=fZ) w 31 9 5 underlying31 underlying5 underlying9 B y.length d y g h;have i:=fQ (eQm f h);clear ha a b g;go_in;go_wp2;go_ret;rw[<-i.out];exact⟨rfl,rfl⟩
theorem bVg(h vb:AW)(s:RawS)(w:AV)(h1:StV w h s)(h2:StV w vb s):Calls fZ 13 #[h,vb] w fun d w'=>d = .returned (.bool true)/\AY w.heap.size w w':=by
 obtain⟨a,g,i,l,rfl,o,p,q,r⟩:=h1;obtain⟨b,k,j,m,rfl,t,u,v,x⟩:=h2;have e:=fQ (aKv w (.cells #[a,.int .i64 s.most,g,.int .i64 s.fuel,i,l] 33) (.cells #[b,.int .i64 s.most,k,.int .i64 s.fuel,j,m] 33));have y:=fQ (fun(w':AV) (c:AY w.heap.size w w')=>o.below c (Aq _));have z:=fQ (fun(w':AV) (c:AY w.heap.size w w')=>p.below c (Aq _));have A:=fQ (fun(w':AV) (c:AY w.heap.size w w')=>q.below c (Aq _));have B:=fQ (fun(w':AV) (c:AY w.heap.size w w')=>r.below c (Aq _));have C:=fQ (fun(w':AV) (c:AY w.heap.size w w')=>t.below c (Aq _));have D:=fQ (fun(w':AV) (c:AY w.heap.size w w')=>u.below c (Aq _));have E:=fQ (fun(w':AV) (c:AY w.heap.size w w')=>v.below c (Aq _));have F:=fQ (fun(w':AV) (c:AY w.heap.size w w')=>x.below c (Aq _));clear o p q r t u v x;have f:=fQ (fun n:Nat=>fK e.out n);go_in;go_wp2_with fail;refine(dZx _ _ _ _ _ (y.out _ e.out) (C.out _ e.out)).mono ?_;rintro d w' ⟨rfl,rfl⟩;rw[decide_eq_true (rfl:s.mem=s.mem)];go_wp2_with fail;refine(aZb _ _ _ _ _ (z.out _ e.out) (D.out _ e.out)).mono ?_;rintro d w' ⟨rfl,n1,rfl⟩;rw[decide_eq_true (rfl:s.globals=s.globals)];go_wp2_with fail;refine(aZb _ _ _ _ _ (A.out _ (f.out _)) (E.out _ (f.out _))).mono ?_;rintro d w' ⟨rfl,n2,rfl⟩;rw[decide_eq_true (rfl:s.input=s.input)];go_wp2_with fail;refine(aZb _ _ _ _ _ (B.out _ (f.out _)) (F.out _ (f.out _))).mono ?_;rintro d w' ⟨rfl,n3,rfl⟩;rw[decide_eq_true (rfl:s.log=s.log)];go_wp2;go_ret;exact⟨rfl,f.out _⟩
theorem dWh:(fZ.info? 5).map (fun i=>(i.zero,i.size,i.bytes))=some (some (.int .u8 0),1,1):=by kernel_rfl
theorem aWv:(fZ.info? 50).map (fun i=>(i.zero,i.size,i.bytes))=some (some (.int .u64 0),1,8):=by kernel_rfl
structure CpB (w:AV) (x0 x1 x2 x3 x4 x5:AW) (wr:AV):Prop where
 k:Blk wr w.heap.size 33 #[x0,x1,x2,x3,x4,x5]
 z:Blk wr (w.heap.size+1) 33 #[.slice none 0 0,.int .i64 0,.slice none 0 0,.int .i64 0,.slice none 0 0,.slice none 0 0]
 b:AY w.heap.size w wr
theorem CpB.next{y0 y1 y2 y3 y4 y5:AW}{wr:AV}(h:CpB w x0 x1 x2 x3 x4 x5 wr)(hg:wr.grownBy w' none)(i:Nat)(v:AW)(hi:(#[x0,x1,x2,x3,x4,x5]:Array AW).setIfInBounds i v=#[y0,y1,y2,y3,y4,y5]):CpB w y0 y1 y2 y3 y4 y5 (w'.setCell ⟨w.heap.size,i,none⟩ v):=by
 have a:=fV (h.k.grown hg (by intro h;cases h)) i v;rw[hi]at a;have hs:=h.b.size;refine⟨a,rY (h.z.grown hg (by intro h;cases h)) (by omega),?_⟩;exact(iK h.b hg hs (fun j hj=>by cases hj)).setCell (p:=⟨w.heap.size,i,none⟩) (Aq _) _
theorem bZj{B N:Nat}(e:v.ownBlock=(Aw none 0 0).ownBlock\/v.ownBlock=some B)(h:v.ownBlock=some k)(hB:N<=B):N<=k:=by
 rcases e with e | e
 ·rw[h]at e;cases e
 ·rw[h]at e;injection e with e;omega
theorem aYt{i:Nat}{u:AW}{xs:List AW}{cs:Array AW}(h:w.ownsRow base e 1 v n xs)(a:Blk w g t cs)(b:e≠t):(w.setCell ⟨g,i,none⟩ u).ownsRow base e 1 v n xs:=gY h (own_ne h a b)
theorem aKt{wr:AV}{i:Nat}{u:AW}{xs:List AW}{cs:Array AW}(h:wr.ownsRow base e 1 v n xs)(hg:wr.grownBy w' none)(a:Blk w' g t cs)(b:e≠t):(w'.setCell ⟨g,i,none⟩ u).ownsRow base e 1 v n xs:=by
 have h1:w'.ownsRow base e 1 v n xs:=aJm h (fun k _ a=>hg.block k a (by simp));exact gY h1 (own_ne h1 a b)
def eKd(s:RawS)(w:AV)(b:Ending)(w':AV):Prop:=∃ a g i l,b = .returned (.agg #[a,.int .i64 s.most,g,.int .i64 s.fuel,i,l])/\w'.ownsRow w.heap.size 5 1 a s.mem.length (bys s.mem)/\w'.ownsRow w.heap.size 50 1 g s.globals.length (u64V s.globals)/\w'.ownsRow w.heap.size 50 1 i s.input.length (u64V s.input)/\w'.ownsRow w.heap.size 50 1 l s.log.length (u64V s.log)/\AY w.heap.size w w' /\
 (∀ k,g.ownBlock=some k->l.ownBlock≠some k/\i.ownBlock≠some k/\a.ownBlock≠some k)/\(∀ k,l.ownBlock=some k->i.ownBlock≠some k/\a.ownBlock≠some k)
theorem bYr(g:Array AW)(W:AV)(h:Nat)(a b c d e f:AW)(h2:g.getD 2 undef = .pointer (some ⟨h,0,none⟩))(k:Blk W h 33 #[a,b,c,d,e,f]):
  (results Tryz.f35 g).run fZ W = .ok (.agg #[a,b,c,d,e,f]) W:=by
 obtain⟨i,j,l,m,n,o⟩:=lX k;simp only[Array.getD_eq_getD_getElem?]at h2;simp[results,results35,go_sem,h2,i,j,l,m,n,o]
theorem xW(i:Blk w g t #[x0,x1,x2,x3,x4,x5])(a b c d e f:AW):Blk ((((((w.setCell ⟨g,0,none⟩ a).setCell ⟨g,1,none⟩ b).setCell ⟨g,2,none⟩ c).setCell ⟨g,3,none⟩ d).setCell ⟨g,4,none⟩ e).setCell ⟨g,5,none⟩ f) g t #[a,b,c,d,e,f]:=by
 have h:=fV (fV (fV (fV (fV (fV i 0 a) 1 b) 2 c) 3 d) 4 e) 5 f
 simpa using h
theorem aQa{B:Nat}(h:AY B w w')(hg:B<=g)(a b c d e f:AW):AY B w ((((((w'.setCell ⟨g,0,none⟩ a).setCell ⟨g,1,none⟩ b).setCell ⟨g,2,none⟩ c).setCell ⟨g,3,none⟩ d).setCell ⟨g,4,none⟩ e).setCell ⟨g,5,none⟩ f):=
 (((((h.setCell (p:=⟨g,0,none⟩) hg _).setCell (p:=⟨g,1,none⟩) hg _).setCell (p:=⟨g,2,none⟩) hg _).setCell (p:=⟨g,3,none⟩) hg _).setCell (p:=⟨g,4,none⟩) hg _).setCell (p:=⟨g,5,none⟩) hg _
theorem aVt{xs:List AW}(h:w.ownsRow base e 1 v n xs)(i:Blk w g t #[x0,x1,x2,x3,x4,x5])(j:e≠t)(a b c d e' f:AW):((((((w.setCell ⟨g,0,none⟩ a).setCell ⟨g,1,none⟩ b).setCell ⟨g,2,none⟩ c).setCell ⟨g,3,none⟩ d).setCell ⟨g,4,none⟩ e').setCell ⟨g,5,none⟩ f).ownsRow base e 1 v n xs:=by
 have q:=own_ne h i j;exact gY (gY (gY (gY (gY (gY h q) q) q) q) q) q
theorem dZa(va:AW)(s:RawS)(w:AV)(h:StV w va s):Calls fZ 35 #[va] w (eKd s w):=by
 obtain⟨a,g,i,l,rfl,h1,h2,U,V⟩:=h;obtain⟨W,c1,rfl⟩:=h1.shape;obtain⟨K,L,rfl⟩:=h2.shape;obtain⟨M,N,rfl⟩:=U.shape;obtain⟨O,P,rfl⟩:=V.shape;have s1:=h1.len.2.1;have z1:=h1.len.2.2.2.2.1.1;have s2:=h2.len.2.1;have z2:=h2.len.2.2.2.2.1.1;have s3:=U.len.2.1;have z3:=U.len.2.2.2.2.1.1;have s4:=V.len.2.1;have z4:=V.len.2.2.2.2.1.1;obtain⟨n1,X⟩:∃ n,s.mem.length=n:=⟨_,rfl⟩;obtain⟨n2,Y⟩:∃ n,s.globals.length=n:=⟨_,rfl⟩;obtain⟨e,Z⟩:∃ n,s.input.length=n:=⟨_,rfl⟩;obtain⟨c,aq⟩:∃ n,s.log.length=n:=⟨_,rfl⟩;rw[X]at s1 z1;rw[Y]at s2 z2;rw[Z]at s3 z3;rw[aq]at s4 z4;rw[X,Y,Z,aq];obtain⟨xo,au⟩:∃ o,Obj.cells #[.slice W n1 c1,.int .i64 s.most,.slice K n2 L,.int .i64 s.fuel,.slice M e N,.slice O c P] 33=o:=⟨_,rfl⟩
 have Q:=fQ (show CpB w (.slice W n1 c1) (.int .i64 s.most) (.slice K n2 L) (.int .i64 s.fuel) (.slice M e N) (.slice O c P) ((w.alloc (.cells #[.slice W n1 c1,.int .i64 s.most,.slice K n2 L,.int .i64 s.fuel,.slice M e N,.slice O c P] 33)).alloc (.cells #[.slice none 0 0,.int .i64 0,.slice none 0 0,.int .i64 0,.slice none 0 0,.slice none 0 0] 33))from
  ⟨Blk.alloc (Blk.new w _ _) _,Blk.newAt _ _ _ (by simp),aKv w _ _⟩)
 have S1:=fQ (fun(w':AV) (D:AY w.heap.size w w')=>s1.below D (Aq _));have S2:=fQ (fun(w':AV) (D:AY w.heap.size w w')=>s2.below D (Aq _));have S3:=fQ (fun(w':AV) (D:AY w.heap.size w w')=>s3.below D (Aq _));have S4:=fQ (fun(w':AV) (D:AY w.heap.size w w')=>s4.below D (Aq _));have q0:(Aw none 0 0).ownBlock=none:=rfl;have N1:=fQ X;have N2:=fQ Y;have N3:=fQ Z;have N4:=fQ aq;clear h1 h2 U V s1 s2 s3 s4 X Y Z aq au xo;have HQ:=fQ q0;clear q0;go_in;go_wp2_with (at_builtin;refine jY _ rfl _ (.tmp 4) 31 rfl w.heap.size 5 (.int .u8 0) 1 1 underlying31 dWh rfl (by omega) (.slice none 0 0) 0 [] rfl (Ak _ _ _ _) W n1 c1 (bys s.mem) rfl (by simpa using S1.out _ Q.out.b) (aXo _) (by unfold maxLen;omega) (by omega) Q.out.b.size ?_);rintro v w1 o1 g1 e1 _;obtain⟨x,y,rfl,_⟩:=fW o1;have G:=Q.out.k.grown g1 (by intro h;cases h);have R:=fQ (Q.out.next g1 0 (.slice x n1 y) rfl);have af:=fQ (aYt (i:=0) (g:=w.heap.size) (u:=(.slice x n1 y)) o1 G (by decide));have E1:=fQ (show ∀ k,(Aw x n1 y).ownBlock=some k->w.heap.size<=k/\k<w1.heap.size from fun k d=>⟨bZj e1 d (by first | (simp[Ax];done) | omega),(o1.lt k d).2⟩);have f1:=frz G 0;obtain⟨u1,k1⟩:∃ u,w1.cell? ⟨w.heap.size,0,none⟩=some u:=⟨_,by rw[G.cell 0];rfl⟩;have y1:=G.lt;have m1:w1.cell? ⟨w.heap.size,2,none⟩=some (.slice K n2 L):=(by rw[G.cell 2];rfl);clear o1 g1 e1 G Q;go_wp2_with (at_builtin;refine jY _ rfl _ (.tmp 8) 30 rfl w.heap.size 50 (.int .u64 0) 1 8 underlying30 aWv rfl (by omega) (.slice none 0 0) 0 [] rfl (Ak _ _ _ _) K n2 L (u64V s.globals) rfl (by simpa using S2.out _ R.out.b) (aWa _) (by unfold maxLen;omega) (by omega) R.out.b.size ?_);rintro v H o2 I e2 _;obtain⟨r,t,rfl,_⟩:=fW o2;have E:=R.out.k.grown I (by intro h;cases h);have S:=fQ (R.out.next I 2 (.slice r n2 t) rfl);have ag:=fQ (aKt (i:=2) (g:=w.heap.size) (u:=(.slice r n2 t)) af.out I E (by decide));have ah:=fQ (aYt (i:=2) (g:=w.heap.size) (u:=(.slice r n2 t)) o2 E (by decide));have E2:=fQ (show ∀ k,(Aw r n2 t).ownBlock=some k->w1.heap.size<=k/\k<H.heap.size from fun k d=>⟨bZj e2 d (by first | (simp[Ax];done) | omega),(o2.lt k d).2⟩);have Z2:w1.heap.size<=H.heap.size:=(by have:=I.size;simpa[Ax]using this);have f2:=frz E 2;obtain⟨u2,k2⟩:∃ u,H.cell? ⟨w.heap.size,2,none⟩=some u:=⟨_,by rw[E.cell 2];rfl⟩;have y2:=E.lt;have m2:H.cell? ⟨w.heap.size,4,none⟩=some (.slice M e N):=(by rw[E.cell 4];rfl);clear o2 I e2 E R af f1 k1 y1 m1 u1;go_wp2_with (at_builtin;refine jY _ rfl _ (.tmp 12) 30 rfl w.heap.size 50 (.int .u64 0) 1 8 underlying30 aWv rfl (by omega) (.slice none 0 0) 0 [] rfl (Ak _ _ _ _) M e N (u64V s.input) rfl (by simpa using S3.out _ S.out.b) (aWa _) (by unfold maxLen;omega) (by omega) S.out.b.size ?_);rintro v J o3 F e3 _;obtain⟨p,q,rfl,_⟩:=fW o3;have A:=S.out.k.grown F (by intro h;cases h);have T:=fQ (S.out.next F 4 (.slice p e q) rfl);have ai:=fQ (aKt (i:=4) (g:=w.heap.size) (u:=(.slice p e q)) ag.out F A (by decide))
 have aj:=fQ (aKt (i:=4) (g:=w.heap.size) (u:=(.slice p e q)) ah.out F A (by decide));have ak:=fQ (aYt (i:=4) (g:=w.heap.size) (u:=(.slice p e q)) o3 A (by decide));have E3:=fQ (show ∀ k,(Aw p e q).ownBlock=some k->H.heap.size<=k/\k<J.heap.size from fun k d=>⟨bZj e3 d (by first | (simp[Ax];done) | omega),(o3.lt k d).2⟩);have Z3:H.heap.size<=J.heap.size:=(by have:=F.size;simpa[Ax]using this);have f3:=frz A 4;obtain⟨u3,k3⟩:∃ u,J.cell? ⟨w.heap.size,4,none⟩=some u:=⟨_,by rw[A.cell 4];rfl⟩;have y3:=A.lt;have m3:J.cell? ⟨w.heap.size,5,none⟩=some (.slice O c P):=(by rw[A.cell 5];rfl);clear o3 F e3 A S ag ah f2 k2 y2 m2 u2;go_wp2_with (at_builtin;refine jY _ rfl _ (.tmp 16) 30 rfl w.heap.size 50 (.int .u64 0) 1 8 underlying30 aWv rfl (by omega) (.slice none 0 0) 0 [] rfl (Ak _ _ _ _) O c P (u64V s.log) rfl (by simpa using S4.out _ T.out.b) (aWa _) (by unfold maxLen;omega) (by omega) T.out.b.size ?_);rintro v w4 o4 B e4 _;obtain⟨j,m,rfl,_⟩:=fW o4;have C:=T.out.k.grown B (by intro h;cases h);have f:=fQ (T.out.next B 5 (.slice j c m) rfl);have aa:=fQ (aKt (i:=5) (g:=w.heap.size) (u:=(.slice j c m)) ai.out B C (by decide));have ab:=fQ (aKt (i:=5) (g:=w.heap.size) (u:=(.slice j c m)) aj.out B C (by decide));have ad:=fQ (aKt (i:=5) (g:=w.heap.size) (u:=(.slice j c m)) ak.out B C (by decide));have ae:=fQ (aYt (i:=5) (g:=w.heap.size) (u:=(.slice j c m)) o4 C (by decide));have E4:=fQ (show ∀ k,(Aw j c m).ownBlock=some k->J.heap.size<=k/\k<w4.heap.size from fun k d=>⟨bZj e4 d (by first | (simp[Ax];done) | omega),(o4.lt k d).2⟩);have Z4:J.heap.size<=w4.heap.size:=(by have:=B.size;simpa[Ax]using this);have f4:=frz C 5;obtain⟨u4,k4⟩:∃ u,w4.cell? ⟨w.heap.size,5,none⟩=some u:=⟨_,by rw[C.cell 5];rfl⟩;have y4:=C.lt;clear o4 B e4 C T ai aj ak f3 k3 y3 m3 u3;obtain⟨wx,ar⟩:=fX (w4.setCell ⟨w.heap.size,5,none⟩ (.slice j c m));rw[ar]at f aa ab ad ae;have HW:=fQ ar;obtain⟨r0,r1,r2,r3,r4,r5⟩:=lX f.out.k;have g0:=frz f.out.z 0;have g1:=frz f.out.z 1;have I:=frz f.out.z 2;have F:=frz f.out.z 3;have B:=frz f.out.z 4;have g5:=frz f.out.z 5;obtain⟨p0,p1,p2,p3,p4,p5⟩:=lX f.out.z;have yz:=f.out.z.lt;have av:=fQ (xW f.out.z (.slice x n1 y) (.int .i64 s.most) (.slice r n2 t) (.int .i64 s.fuel) (.slice p e q) (.slice j c m));have aw:=fQ (aQa f.out.b (show w.heap.size<=w.heap.size+1 by omega) (.slice x n1 y) (.int .i64 s.most) (.slice r n2 t) (.int .i64 s.fuel) (.slice p e q) (.slice j c m));have H1:=fQ (aVt aa.out f.out.z (by decide) (.slice x n1 y) (.int .i64 s.most) (.slice r n2 t) (.int .i64 s.fuel) (.slice p e q) (.slice j c m));have H2:=fQ (aVt ab.out f.out.z (by decide) (.slice x n1 y) (.int .i64 s.most) (.slice r n2 t) (.int .i64 s.fuel) (.slice p e q) (.slice j c m));have H3:=fQ (aVt ad.out f.out.z (by decide) (.slice x n1 y) (.int .i64 s.most) (.slice r n2 t) (.int .i64 s.fuel) (.slice p e q) (.slice j c m));have H4:=fQ (aVt ae.out f.out.z (by decide) (.slice x n1 y) (.int .i64 s.most) (.slice r n2 t) (.int .i64 s.fuel) (.slice p e q) (.slice j c m))
 clear f aa ab ad ae;go_upto_region 5 with fail;clear f4 k4 y4 ar;go_wp2_with fail;refine bodyPost_ret (bYr _ _ (w.heap.size+1) _ _ _ _ _ _ rfl av.out) rfl ?_
 exact⟨.slice x n1 y,.slice r n2 t,.slice p e q,.slice j c m,rfl,by rw[N1.out];exact H1.out,by rw[N2.out];exact H2.out,by rw[N3.out];exact H3.out,by rw[N4.out];exact H4.out,aw.out,
  fun k d=>⟨fun h=>by have:=E2.out k d;have:=E4.out k h;omega,fun h=>by have:=E2.out k d;have:=E3.out k h;omega,fun h=>by have:=E2.out k d;have:=E1.out k h;omega⟩,
  fun k d=>⟨fun h=>by have:=E4.out k d;have:=E3.out k h;omega,fun h=>by have:=E4.out k d;have:=E1.out k h;omega⟩⟩
structure HoldsP (ks:List Int) (m:Bool) (s:RawS):Prop where
 pg:s.mem.length % 256=0
 le:(s.mem.length:Int)<=s.most
 mx:s.most<=4096
 no:m=false->s.most=0
 gl:s.globals.length=ks.length
 f0:0<=s.fuel
 f1:s.fuel<=1024
 il:s.input.length<=4096
 ll:s.log.length<=4096
 ft:∀ (k:Nat) (t:Int) (n:Nat),ks[k]? = some t->s.globals[k]? = some n->fitsB t n=true
def eKe(ks:List Int)(l:List Nat):Prop:=ks.length=l.length/\∀ (k:Nat) (t:Int) (n:Nat),ks[k]? = some t->l[k]? = some n->fitsB t n=true
def aWw(Q:Prop)(w:AV)(a:Ending)(w':AV):Prop:=∃ b:Bool,a = .returned (.bool b)/\(b=true↔Q)/\AY w.heap.size w w'
theorem dZb(vk vl:AW)(ks:List Int)(l:List Nat)(w:AV)(c:IR w vk ks)(d:UR w vl l)(A:ks.length<=100000):Calls fZ 34 #[vk,vl] w (aWw (eKe ks l) w):=by
 obtain⟨A1,c1,rfl⟩:=c.shape;obtain⟨A2,c2,rfl⟩:=d.shape;have q:=fQ c;have r:=fQ d;have B:=d.len.2.2.2.2.1.1;clear c d;by_cases hlen:ks.length=l.length
 ·obtain⟨n,hn⟩:=fX l.length;have e:ks.length=n:=(by omega);have s:=fQ hn;have f:=fQ e;rw[hn]at r B;rw[e]at q A;rw[hn,e];have C:((n:Int) != (n:Int))=false:=(by simp);clear hn e hlen;go_in;go_wp2;go_loopw [5] (fun i wr=>∃ k:Nat,k<=n/\i = .int .i64 k/\Hid (AY w.heap.size w wr/\∀ (j:Nat) (t:Int) (n:Nat),j<k->ks[j]? = some t->l[j]? = some n->fitsB t n=true)) (fun i _=>n - (intOf i).toNat)
  case atStart=>exact⟨0,by omega,rfl,fQ ⟨Below.refl _ _,fun j t n h=>by omega⟩⟩
  case round=>
   obtain⟨k,c,rfl,IM⟩:=hrel;by_cases u:k<n
   ·have D:decide ((k:Int)<n)=true:=(by simp;omega);have t2:(k:Int)<n:=(by omega);obtain⟨x,g⟩:∃ x,ks[k]? = some x:=⟨_,Aj (by rw[f.out];exact u)⟩;obtain⟨y,p⟩:∃ y,l[k]? = some y:=⟨_,Aj (by rw[s.out];exact u)⟩;obtain⟨b,o,rfl,hb,hc⟩:=(q.out.below IM.out.1 (Aq _)).cell g;obtain⟨b2,o2,rfl,ae,af,_⟩:=(r.out.below IM.out.1 (Aq _)).cell p;have v:=fQ g;have z:=fQ p;clear g p;cases hf:fitsB x y
    ·have a:=fQ hf;clear hf;go_wp2_with fail;go_quiet ((go_at_call 63;exact Az ((aQq x y _).mono fun _ _ ⟨h1,h2⟩=>⟨h1.trans (by rw[a.out]),h2.symm⟩)));go_wp2;go_ret;exact⟨false,rfl,⟨fun h=>(by cases h),fun h=>(by have:=h.2 k x y v.out z.out;rw[a.out]at this;cases this)⟩,fK IM.out.1 _⟩
    ·have a:=fQ hf;clear hf;go_wp2_with fail;go_quiet ((go_at_call 63;exact Az ((aQq x y _).mono fun _ _ ⟨h1,h2⟩=>⟨h1.trans (by rw[a.out]),h2.symm⟩)));go_wp2;refine⟨⟨k+1,by omega,by simp,fQ ⟨fK IM.out.1 _,fun j t n hj h1 h2=>?_⟩⟩,by simp[intOf];omega⟩;rcases AX j k with h | h
     ·exact IM.out.2 j t n h h1 h2
     ·obtain rfl:j=k:=(by omega);rw[v.out]at h1;rw[z.out]at h2;cases h1;cases h2;exact a.out
   ·have D:decide ((k:Int)<n)=false:=(by simp;omega);go_wp2;go_ret;exact⟨true,rfl,⟨fun _=>⟨f.out.trans s.out.symm,fun j t m h1 h2=>IM.out.2 j t m (by have:=(List.getElem?_eq_some_iff.1 h1).1;have:=f.out;omega) h1 h2⟩,fun _=>rfl⟩,IM.out.1⟩
 ·have C:((ks.length:Int) != (l.length:Int))=true:=(by simp;omega);have E:=fQ hlen;clear hlen;go_in;go_wp2;go_ret;exact⟨false,rfl,⟨fun h=>(by cases h),fun h=>absurd h.1 E.out⟩,Below.refl _ _⟩
theorem dZc(vk vs:AW)(ks:List Int)(m:Bool)(s:RawS)(w:AV)(z:IR w vk ks)(hs:StV w vs s)(ak:ks.length<=100000):Calls fZ 94 #[vk,.bool m,vs] w (aWw (HoldsP ks m s) w):=by
 obtain⟨A0,c0,rfl⟩:=z.shape;obtain⟨a,g,i,l,rfl,h1,h2,L,M⟩:=hs;obtain⟨B,c1,rfl⟩:=h1.shape;obtain⟨C,D,rfl⟩:=h2.shape;obtain⟨E,F,rfl⟩:=L.shape;obtain⟨G,H,rfl⟩:=M.shape;have z1:=h1.len.2.2.2.2.1;have z2:=h2.len.2.2.2.2.1;have z3:=L.len.2.2.2.2.1;have z4:=M.len.2.2.2.2.1;obtain⟨Y,N⟩:∃ n,ks.length=n:=⟨_,rfl⟩;obtain⟨n1,O⟩:∃ n,s.mem.length=n:=⟨_,rfl⟩;obtain⟨n2,P⟩:∃ n,s.globals.length=n:=⟨_,rfl⟩;obtain⟨q,Q⟩:∃ n,s.input.length=n:=⟨_,rfl⟩;obtain⟨r,R⟩:∃ n,s.log.length=n:=⟨_,rfl⟩;obtain⟨c,S⟩:∃ x,s.most=x:=⟨_,rfl⟩;obtain⟨f,T⟩:∃ x,s.fuel=x:=⟨_,rfl⟩;rw[O]at z1 ⊢;rw[P]at h2 z2 ⊢;rw[Q]at z3 ⊢;rw[R]at z4 ⊢;rw[N]at z ak ⊢;rw[S,T];have HK:=fQ z;have H2:=fQ h2;have I:=fQ N;have J:=fQ O;have U:=fQ P;have Z:=fQ Q;have N4:=fQ R;have v:=fQ S;have K:=fQ T;have HB:=fQ ((Below.refl w.heap.size w).alloc (Aq _) (.cells #[.slice B n1 c1,.int .i64 c,.slice C n2 D,.int .i64 f,.slice E q F,.slice G r H] 33));have KB:=fQ (Blk.new w 33 #[.slice B n1 c1,.int .i64 c,.slice C n2 D,.int .i64 f,.slice E q F,.slice G r H]);have p:=fQ (fun h:¬HoldsP ks m s=>show aWw (HoldsP ks m s) w (.returned (.bool false)) (w.alloc (.cells #[.slice B n1 c1,.int .i64 c,.slice C n2 D,.int .i64 f,.slice E q F,.slice G r H] 33))from⟨false,rfl,⟨fun e=>(by cases e),fun e=>absurd e h⟩,HB.out⟩);clear h1 h2 L M z N O P Q R S T;by_cases b1:n1 % 256=0
 case neg=>
  have q1:((n1:Int) % 256 != 0)=true:=(by simp;omega);go_in;go_wp2;go_ret
  exact p.out fun h=>by have:=h.pg;rw[J.out]at this;omega
 have q1:((n1:Int) % 256 != 0)=false:=(by simp;omega);by_cases b2:(n1:Int)<=c
 case neg=>
  have q2:decide (c<(n1:Int))=true:=(by simp;omega);go_in;go_wp2;go_ret
  exact p.out fun h=>by have:=h.le;rw[J.out,v.out]at this;omega
 have q2:decide (c<(n1:Int))=false:=(by simp;omega);by_cases b3:c<=4096
 case neg=>
  have q3:decide (4096<c)=true:=(by simp;omega);go_in;go_wp2;go_ret
  exact p.out fun h=>by have:=h.mx;rw[v.out]at this;omega
 have q3:decide (4096<c)=false:=(by simp;omega);by_cases u:m=false/\c≠0
 ·obtain⟨rfl,u⟩:=u;have d:(c != 0)=true:=(by simpa using u);have al:=fQ u;clear u;go_in;go_wp2;go_ret;exact p.out fun h=>al.out (by have:=h.no rfl;rwa[v.out]at this)
 have B4:=fQ (show m=false->c=0 from fun e=>Classical.byContradiction fun h=>u ⟨e,h⟩);clear u
 have d:m=true\/(m=false/\(c != 0)=false):=by
  cases m
  ·exact .inr ⟨rfl,by have:=B4.out rfl;simp[this]⟩
  ·exact .inl rfl
 by_cases V:n2=Y
 case neg=>
  have q5:((n2:Int) != (Y:Int))=true:=(by simp;omega);have an:=fQ V;clear V;rcases d with rfl | ⟨rfl,d⟩
  all_goals
   go_in;go_wp2;go_ret;exact p.out fun h=>an.out (by have:=h.gl;rwa[U.out,I.out]at this)
 subst V;have q5:((n2:Int) != (n2:Int))=false:=(by simp);by_cases b6:0<=f
 case neg=>
  have q6:decide (f<0)=true:=(by simp;omega);rcases d with rfl | ⟨rfl,d⟩
  all_goals
   go_in;go_wp2;go_ret
   exact p.out fun h=>by have:=h.f0;rw[K.out]at this;omega
 have q6:decide (f<0)=false:=(by simp;omega);by_cases b7:f<=1024
 case neg=>
  have q7:decide (1024<f)=true:=(by simp;omega);rcases d with rfl | ⟨rfl,d⟩
  all_goals
   go_in;go_wp2;go_ret
   exact p.out fun h=>by have:=h.f1;rw[K.out]at this;omega
 have q7:decide (1024<f)=false:=(by simp;omega);by_cases b8:q<=4096
 case neg=>
  have q8:decide ((4096:Int)<(q:Int))=true:=(by simp;omega);rcases d with rfl | ⟨rfl,d⟩
  all_goals
   go_in;go_wp2;go_ret
   exact p.out fun h=>by have:=h.il;rw[Z.out]at this;omega
 have q8:decide ((4096:Int)<(q:Int))=false:=(by simp;omega);by_cases b9:r<=4096
 case neg=>
  have q9:decide ((4096:Int)<(r:Int))=true:=(by simp;omega);rcases d with rfl | ⟨rfl,d⟩
  all_goals
   go_in;go_wp2;go_ret
   exact p.out fun h=>by have:=h.ll;rw[N4.out]at this;omega
 have q9:decide ((4096:Int)<(r:Int))=false:=by simp;omega
 have HY:=fQ (fun(hf:∀ (k:Nat) (t:Int) (n:Nat),ks[k]? = some t->s.globals[k]? = some n->fitsB t n=true)=>show HoldsP ks m s from
  ⟨by rw[J.out];exact b1,by rw[J.out,v.out];exact b2,by rw[v.out];exact b3,fun h=>by rw[v.out];exact B4.out h,by rw[U.out,I.out],by rw[K.out];exact b6,by rw[K.out];exact b7,by rw[Z.out];exact b8,by rw[N4.out];exact b9,hf⟩)
 rcases d with rfl | ⟨rfl,d⟩
 all_goals
  go_in;go_wp2_with fail;go_loopw [7] (fun i wr=>∃ k:Nat,k<=n2/\i = .int .i64 k/\Hid (AY w.heap.size w wr/\Blk wr w.heap.size 33 #[.slice B n1 c1,.int .i64 c,.slice C n2 D,.int .i64 f,.slice E q F,.slice G r H]/\∀ (j:Nat) (t:Int) (n:Nat),j<k->ks[j]? = some t->s.globals[j]? = some n->fitsB t n=true)) (fun i _=>n2 - (intOf i).toNat)
  case atStart=>exact⟨0,by omega,rfl,fQ ⟨HB.out,KB.out,fun j t n h=>by omega⟩⟩
  case round=>
   clear q1 q2 q3 q5 q6 q7 q8 q9;obtain⟨k,z,rfl,IM⟩:=hrel;by_cases ai:k<n2
   ·have t1:decide ((k:Int)<n2)=true:=(by simp;omega);have t2:(k:Int)<n2:=(by omega);obtain⟨x,W⟩:∃ x,ks[k]? = some x:=⟨_,Aj (by rw[I.out];exact ai)⟩;obtain⟨y,X⟩:∃ y,s.globals[k]? = some y:=⟨_,Aj (by rw[U.out];exact ai)⟩;obtain⟨b,o,rfl,hb,hc⟩:=(HK.out.below IM.out.1 (Aq _)).cell W;obtain⟨ao,o2,rfl,aq,ar,_⟩:=(H2.out.below IM.out.1 (Aq _)).cell X;obtain⟨r0,r1,r2,r3,r4,r5⟩:=lX IM.out.2.1;have yr:=IM.out.2.1.lt;have HX:=fQ W;have aj:=fQ X;clear W X;cases hf:fitsB x y
    ·have A:=fQ hf;clear hf;go_wp2_with fail;go_quiet ((go_at_call 63;exact Az ((aQq x y _).mono fun _ _ ⟨h1,h2⟩=>⟨h1.trans (by rw[A.out]),h2.symm⟩)));go_wp2;go_ret;exact⟨false,rfl,⟨fun h=>(by cases h),fun h=>(by have:=h.ft k x y HX.out aj.out;rw[A.out]at this;cases this)⟩,fK IM.out.1 _⟩
    ·have A:=fQ hf;clear hf;go_wp2_with fail;go_quiet ((go_at_call 63;exact Az ((aQq x y _).mono fun _ _ ⟨h1,h2⟩=>⟨h1.trans (by rw[A.out]),h2.symm⟩)));go_wp2;refine⟨⟨k+1,by omega,by simp,fQ ⟨fK IM.out.1 _,IM.out.2.1.drewN _,fun j t n hj h1 h2=>?_⟩⟩,by simp[intOf];omega⟩;rcases AX j k with h | h
     ·exact IM.out.2.2 j t n h h1 h2
     ·obtain rfl:j=k:=(by omega);rw[HX.out]at h1;rw[aj.out]at h2;cases h1;cases h2;exact A.out
   ·have t1:decide ((k:Int)<n2)=false:=(by simp;omega);go_wp2;go_ret;exact⟨true,rfl,⟨fun _=>HY.out fun j t m h1 h2=>IM.out.2.2 j t m (by have:=(List.getElem?_eq_some_iff.1 h1).1;have:=I.out;omega) h1 h2,fun _=>rfl⟩,IM.out.1⟩
def FitP(e:EnvD)(s:RawS):Prop:=envOk e=true/\HoldsP e.globals e.mem s
theorem bJp(f vs:AW)(e:EnvD)(s:RawS)(w:AV)(he:EnvV w f e)(hs:StV w vs s)(j:e.globals.length<=100000):Calls fZ 62 #[f,vs] w (aWw (HoldsP e.globals e.mem s) w):=by
 obtain⟨a,b,d,rfl,_,h2,_⟩:=he;have g:=hs;obtain⟨k,l,m,n,rfl,_⟩:=hs;have c:=fQ (aKv w (.cells #[a,.int .i64 e.imports,b,d,.bool e.mem] 26) (.cells #[k,.int .i64 s.most,l,.int .i64 s.fuel,m,n] 33));have o:=fQ (h2.ir.below c.out (Aq _));have p:=fQ (g.below c.out (Aq _));clear h2 g;go_in;go_wp2_with fail;refine(dZc _ _ e.globals e.mem s _ o.out p.out j).mono ?_;rintro en w1 ⟨q,rfl,h,i⟩;have H1:=fQ h;have r:=fQ (c.out.trans (i.mono c.out.size));clear h i;go_wp2;go_ret;exact⟨q,rfl,H1.out,r.out⟩
theorem dZd(m vs:AW)(e:EnvD)(s:RawS)(w:AV)(he:EnvV w m e)(hs:StV w vs s)(x:e.globals.length<=100000):Calls fZ 33 #[m,vs] w (aWw (FitP e s) w):=by
 have n:=he;obtain⟨a,b,d,rfl,_⟩:=he;have o:=hs;obtain⟨f,g,i,j,rfl,_⟩:=hs;have k:=fQ (aKv w (.cells #[a,.int .i64 e.imports,b,d,.bool e.mem] 26) (.cells #[f,.int .i64 s.most,g,.int .i64 s.fuel,i,j] 33));have p:=fQ (Blk.alloc (Blk.new w 26 #[a,.int .i64 e.imports,b,d,.bool e.mem]) (.cells #[f,.int .i64 s.most,g,.int .i64 s.fuel,i,j] 33));have q:=fQ (Blk.newAt (w.alloc (.cells #[a,.int .i64 e.imports,b,d,.bool e.mem] 26)) (N:=w.heap.size+1) 33 #[f,.int .i64 s.most,g,.int .i64 s.fuel,i,j] (by simp));have r:=fQ n;have y:=fQ o;clear n o;go_in;go_wp2_with fail;refine(aQn _ e _ (r.out.below k.out (Aq _))).mono ?_;rintro z w1 ⟨rfl,c⟩;have H1:=fQ (k.out.trans (c.mono k.out.size));have A:=fQ (p.out.below c p.out.lt);have B:=fQ (q.out.below c q.out.lt);clear c;cases l:envOk e
 ·go_wp2;go_ret;exact⟨false,rfl,⟨fun h=>(by cases h),fun h=>(by have:=h.1;rw[l]at this;cases this)⟩,H1.out⟩
 ·obtain⟨e0,e1,e2,e3,e4⟩:=gQ A.out;obtain⟨s0,s1,s2,s3,s4,s5⟩:=lX B.out;have C:=fQ l;clear l;go_wp2_with fail;refine(bJp _ _ e s _ (r.out.below H1.out (Aq _)) (y.out.below H1.out (Aq _)) x).mono ?_;rintro z w2 ⟨D,rfl,t,u⟩;have v:=fQ t;have E:=fQ (H1.out.trans (u.mono H1.out.size));clear t u;go_wp2;go_ret;exact⟨D,rfl,⟨fun h=>⟨C.out,v.out.1 h⟩,fun h=>v.out.2 h.2⟩,E.out⟩
section
variable {H:Type} {enc:TypeId×AW->H} {w:AV}
theorem eWj:qX enc fZ w 27 (fun w cs (l:List RowD)=>∃ v,cs = [v]/\Structs 5 RowC w v l):=by
 intro fuel cs x h a;obtain⟨l,v,e,hs,_⟩:=uY (enc:=enc) (w:=w) underlying27 (show fZ.cellsOf 43=5 by kernel_rfl) (by omega) (show 1<=fZ.bytesOf 43 by decide +kernel) eJx fuel cs x h a;exact⟨l,v,e,hs⟩
theorem cen:fZ.cellsOf 26=5:=by kernel_rfl
theorem crs:fZ.cellsOf 27=1:=by kernel_rfl
theorem rows_open{r:Reach}{j:Nat}{d:DataW H}{q:List MemPlace}(k:AZ fZ w r j 29 v)(h:DataW.Trod enc fZ w 0 (fun _=>true) true 29 v d q)(hs:aVf fZ 29 d):∃ p,RowsV w v p:=by
 obtain⟨cs,rfl⟩:=dQw (t:=29) (fs:=_) underlying29 k;obtain⟨fuel,hf⟩:=h;obtain⟨e,e0⟩:=kZ underlying29 hf hs 0 0 5 26 rfl eJw rfl rfl cen;obtain⟨l,v1,f,m⟩:=kZ underlying29 hf hs 1 5 1 27 rfl eWj rfl rfl crs;obtain⟨_,_,_,_,n,_,_⟩:=DataW.trod_struct underlying29 hf;have g:(AQ cs).cells.toList.length=6:=n.trans (by kernel_rfl);have hc:(AQ cs).cells.toList=cs.toList:=rfl;rw[hc]at e0 f g
 match i:cs.toList,g with
 | [x0,x1,x2,x3,x4,x5],_=>
  rw[i]at e0 f;obtain⟨a,b,c,hq,h1,h2,o⟩:=e0;simp at hq f;obtain⟨rfl,rfl,rfl,rfl,rfl⟩:=hq;subst f;refine⟨⟨e,l⟩,x0,x2,x3,x5,?_,h1,h2,o,m⟩
  have:cs=#[x0,.int .i64 e.imports,x2,x3,.bool e.mem,x5]:=by
   apply Array.ext';rw[i]
  rw[this]
end
section
open Go.ChangeShapes Go.WideShapes Go.Deep
structure AskD where
 n:Int
 args:List Nat
 s:RawS
def eKh(w:AV)(v:AW)(q:AskD):Prop:=∃ a m i g j h l,v = .agg #[.int .i64 q.n,a,m,.int .i64 i,g,.int .i64 j,h,l] /\ -9223372036854775808<=q.n/\q.n<=9223372036854775807/\UR w a q.args/\StV w (.agg #[m,.int .i64 i,g,.int .i64 j,h,l]) q.s/\i=q.s.most/\j=q.s.fuel
section
variable {H:Type} {enc:TypeId×AW->H} {P:Program} {w:AV}
theorem bZo{k:IntKind}{by_ M:Nat}(o:P.underlying t=some (.slice e))(he:P.underlying e=some (.int k))(p:P.cellsOf e=1)(q:P.bytesOf e=by_)(af:1<=by_)(r:∀ a:Int,(Lit.int k a).wf=true->0<=a/\a<(M:Int)):
  qX enc P w t (fun w cs (l:List Nat)=>∃ A c,cs = [.slice A l.length c]/\Src w A l.length (l.map fun(n:Nat)=>AK k (n:Int))/\l.length<=c/\(A=none->c=0)/\c*by_<=140737488351232/\∀ x∈l,x<M):=by
 intro fuel cs x h s;obtain⟨l,v,rfl,⟨A,c,vs,rfl,h1,h2,h3,h4,u,b,d⟩,z⟩:=uY (enc:=enc) (w:=w) o p (by omega) (by omega) (aJt he) fuel cs x h s;have f:=z _ _ _ rfl;rw[q]at f;have g:∀ i (hi:i<l.length),0<=l[i]/\l[i]<(M:Int):=fun i hi=>r _ (b i _ _ (Aj (by omega)) (Aj hi)).2;refine⟨l.map Int.toNat,A,c,by rw[Ay],?_,by rw[Ay];exact h1,h2,f,fun x B=>?_⟩
 ·rw[Ay]
  have C:vs.flatten=(l.map Int.toNat).map fun(n:Nat)=>AK k (n:Int):=by
   apply List.ext_getElem?;intro i;by_cases hi:i<l.length
   ·have m:vs[i]? = some (vs[i]'(by omega)):=Aj (by omega);have hr:=(b i _ _ m (Aj hi)).1;have:=aXf (j:=0) u m (by rw[hr];rfl);rw[Nat.mul_one,Nat.add_zero]at this;rw[this];have D:=(g i hi).1;simp[List.getElem?_map,Aj hi,Int.toNat_of_nonneg D]
   ·have E:=d.1;rw[AJ (by rw[E];omega),AJ (by simp;omega)]
  rw[<-C]
  simpa using d
 ·obtain⟨y,F,rfl⟩:=List.mem_map.1 B;obtain⟨i,hi,rfl⟩:=List.mem_iff_getElem.1 F;have:=g i hi;omega
end
end
section
variable {H:Type} {enc:TypeId×AW->H} {w:AV}
theorem aYw:qX enc fZ w 30 (fun w cs (l:List Nat)=>∃ v,cs = [v]/\UR w v l):=by
 intro fuel cs x h b;obtain⟨l,A,c,rfl,h1,h2,d,h4,e⟩:=bZo (enc:=enc) (w:=w) (k:=.u64) (by_:=8) (M:=18446744073709551616) underlying30 underlying50 (by kernel_rfl) (by kernel_rfl) (by omega) (fun a ha=>bXn ha) fuel cs x h b;exact⟨l,_,rfl,A,c,rfl,h1,h2,d,⟨by omega,by omega⟩,e⟩
theorem eKi:qX enc fZ w 31 (fun w cs (l:List Nat)=>∃ v,cs = [v]/\BR w v l):=by
 intro fuel cs x h b;obtain⟨l,A,c,rfl,h1,h2,d,h4,e⟩:=bZo (enc:=enc) (w:=w) (k:=.u8) (by_:=1) (M:=256) underlying31 underlying5 (by kernel_rfl) (by kernel_rfl) (by omega) (fun a ha=>cWf ha) fuel cs x h b;exact⟨l,_,rfl,A,c,rfl,h1,h2,d,⟨by omega,by omega⟩,e⟩
theorem eYx:fZ.cellsOf 31=1:=by kernel_rfl
theorem bVz:fZ.cellsOf 30=1:=by kernel_rfl
theorem cst:fZ.cellsOf 33=6:=by kernel_rfl
theorem dWu:qX enc fZ w 33 (fun w cs (s:RawS)=>∃ a g i l,cs = [a,.int .i64 s.most,g,.int .i64 s.fuel,i,l]/\BR w a s.mem/\UR w g s.globals/\UR w i s.input/\UR w l s.log):=by
 intro fuel cs x h e;obtain⟨o,v0,e0,i0⟩:=kZ underlying33 h e 0 0 1 31 rfl eKi rfl rfl eYx;obtain⟨p,j,i1⟩:=kZ underlying33 h e 1 1 1 3 rfl aKs rfl rfl ci;obtain⟨q,v2,e2,r⟩:=kZ underlying33 h e 2 2 1 30 rfl aYw rfl rfl bVz;obtain⟨t,k,i3⟩:=kZ underlying33 h e 3 3 1 3 rfl aKs rfl rfl ci;obtain⟨u,v4,m,v⟩:=kZ underlying33 h e 4 4 1 30 rfl aYw rfl rfl bVz;obtain⟨y,v5,n,z⟩:=kZ underlying33 h e 5 5 1 30 rfl aYw rfl rfl bVz;obtain⟨_,_,_,_,A,_,_⟩:=DataW.trod_struct underlying33 h;have B:cs.length=6:=A.trans (by kernel_rfl)
 match cs,B with
 | [a,b,c,d,f,g],_=>
  simp at e0 j e2 k m n;subst e0;subst j;subst e2;subst k;subst m;subst n;exact⟨⟨o,p,q,t,u,y⟩,_,_,_,_,rfl,i0,r,v,z⟩
theorem ask_open{r:Reach}{m:Nat}{d:DataW H}{q:List MemPlace}(o:AZ fZ w r m 58 v)(h:DataW.Trod enc fZ w 0 (fun _=>true) true 58 v d q)(hs:aVf fZ 58 d):∃ p,eKh w v p:=by
 obtain⟨cs,rfl⟩:=dQw (t:=58) (fs:=_) underlying58 o;obtain⟨fuel,hf⟩:=h;obtain⟨n,e0,i0⟩:=kZ underlying58 hf hs 0 0 1 3 rfl aKs rfl rfl ci;obtain⟨l,v1,b,u⟩:=kZ underlying58 hf hs 1 1 1 30 rfl aYw rfl rfl bVz;obtain⟨s,e2⟩:=kZ underlying58 hf hs 2 2 6 33 rfl dWu rfl rfl cst;obtain⟨_,_,_,_,x,_,_⟩:=DataW.trod_struct underlying58 hf;have f:(AQ cs).cells.toList.length=8:=x.trans (by kernel_rfl);have hc:(AQ cs).cells.toList=cs.toList:=rfl;rw[hc]at e0 b e2 f
 match j:cs.toList,f with
 | [x0,x1,x2,x3,x4,x5,c,e],_=>
  rw[j]at e0 b e2;obtain⟨a,g,i,lg,hq,h1,h2,y,z⟩:=e2;simp at hq e0 b;obtain⟨rfl,rfl,rfl,rfl,rfl,rfl⟩:=hq;subst e0;subst b;have k:=bXo i0;refine⟨⟨n,l,s⟩,x1,x2,s.most,x4,s.fuel,c,e,?_,k.1,k.2,u,⟨x2,x4,c,e,rfl,h1,h2,y,z⟩,rfl,rfl⟩
  have:cs=#[.int .i64 n,x1,x2,.int .i64 s.most,x4,.int .i64 s.fuel,c,e]:=by
   apply Array.ext';rw[j]
  rw[this]
end
end Go.Proofs.YtabibkpfgmolkaaGreat

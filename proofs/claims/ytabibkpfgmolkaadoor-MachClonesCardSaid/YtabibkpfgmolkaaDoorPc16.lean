/- Lemmas for the claim, part 16. Conditions: none. -/
import Derived.Test.YtabibkpfgmolkaaDoorPc15
import Derived.Deep.WholeRow
set_option maxRecDepth 100000
set_option maxHeartbeats 16000000
set_option linter.unusedVariables false
set_option linter.unusedSimpArgs false
open Go.Lib renaming hid→cQ
open Go.Proofs.Tryd renaming prog→cZ
open Go.Proofs.Tryd
open Go.RowKit
open Nat renaming le_refl→Aj,lt_of_lt_of_le→Ax,le_trans→Ay,lt_or_ge→AZ
open Array renaming getElem?_setIfInBounds_ne→Aq,getElem?_setIfInBounds_self_of_lt→Aw
open Go.RowKit.Below renaming heap_setCell→Az,refl→AW
open List renaming setIfInBounds_toArray→Ak,set_cons_zero→AJ,set_cons_succ→AQ,eq_nil_of_length_eq_zero→AX,append_assoc→AK,append_nil→AY
open Go.World renaming setCell→AV
open Go renaming World→Aa,Value→Ab
namespace Go.Proofs.YtabibkpfgmolkaaDoor
variable {w wx:Aa}{wd j N i k B g dc:Nat}{O l o:List Nat}{E e2:Int}{a v gv:Ab}{e:TypeId}
theorem bZz{b c d f h i j:Ab}(k:Blk w g e #[a,b,c,d,f,h,i,j]):
  w.cell? ⟨g,0,none⟩=some a/\w.cell? ⟨g,1,none⟩=some b/\w.cell? ⟨g,2,none⟩=some c/\w.cell? ⟨g,3,none⟩=some d/\w.cell? ⟨g,4,none⟩=some f/\w.cell? ⟨g,5,none⟩=some h/\w.cell? ⟨g,6,none⟩=some i/\w.cell? ⟨g,7,none⟩=some j:=
 ⟨by simpa using k.cell 0,by simpa using k.cell 1,by simpa using k.cell 2,by simpa using k.cell 3,by simpa using k.cell 4,by simpa using k.cell 5,by simpa using k.cell 6,by simpa using k.cell 7⟩
def bJa(w:Aa)(en:Ending)(w':Aa):Prop:=en = .returned (.bool true)/\Below w.heap.size w w'
theorem aJc{g i l:Ab}{s:RawS}{x y:Int}(h:StV w (.agg #[a,.int .i64 x,g,.int .i64 y,i,l]) s):∃ A m B n C k D j,a = .slice A s.mem.length m/\g = .slice B s.globals.length n/\i = .slice C s.input.length k/\l = .slice D s.log.length j:=by
 obtain⟨a1,g1,i1,l1,e,h1,h2,b,c⟩:=h;injection e with e;injection e with e;simp only[List.cons.injEq,and_true]at e;obtain⟨rfl,_,rfl,_,rfl,rfl⟩:=e;obtain⟨A,m,rfl⟩:=h1.shape;obtain⟨B,n,rfl⟩:=h2.shape;obtain⟨C,k,rfl⟩:=b.shape;obtain⟨D,j,rfl⟩:=c.shape;exact⟨A,m,B,n,C,k,D,j,rfl,rfl,rfl,rfl⟩
structure ModS (s:RawS):Prop where
 b:AllB s.mem
 g:All64 s.globals
 i:All64 s.input
 l:All64 s.log
 bl:s.mem.length<=140737488355328
 gl:s.globals.length<=17592186043904
 il:s.input.length<=17592186043904
 ll:s.log.length<=17592186043904
theorem aVi{e:EnvD}{s:StD}(h:StOk e s)(he:envOk e=true)(hl:s.log.length<=1000000000):ModS (RawS.of s):=by
 have h1:=h.cYd;have h2:=zV he;have h3:=h.glen;have h4:=h.ilen;exact⟨h.memB,h.g64,h.i64,h.l64,by show s.mem.length<=_;omega,by show s.globals.length<=_;omega,by show s.input.length<=_;omega,by show s.log.length<=_;omega⟩
theorem cJo{base:Nat}(h:w.ownsRow base e 1 v l.length (bys l))(a:AllB l)(hl:l.length<=140737488355328):BR w v l:=by
 rcases h.2 with⟨h1,h2⟩ | ⟨g,cap,cur,h1,_,_,b,c,_⟩
 ·have hn:l = []:=AX h2;subst hn;subst h1;exact⟨none,0,rfl,Src.nil _ _,Aj _,fun _=>rfl,⟨by simp,by omega⟩,a⟩
 ·subst h1;exact⟨_,cap,rfl,Src.cYa h,b,(fun e=>by cases e),⟨by omega,by unfold maxLen at c;omega⟩,a⟩
theorem aJw{base:Nat}{s:RawS}{g i l:Ab}(h:ModS s)(o2:w.ownsRow base 5 1 a s.mem.length (bys s.mem))(o3:w.ownsRow base 62 1 g s.globals.length (u64V s.globals))(o4:w.ownsRow base 62 1 i s.input.length (u64V s.input))(o5:w.ownsRow base 62 1 l s.log.length (u64V s.log)):StV w (.agg #[a,.int .i64 s.most,g,.int .i64 s.fuel,i,l]) s:=
 ⟨_,_,_,_,rfl,cJo o2 h.b h.bl,sJ o3 h.gl h.g,sJ o4 h.il h.i,sJ o5 h.ll h.l⟩
theorem GoodD.cYw{p:RowsD}{s:RawS}{sd:StD}{g:SigD}{s2:StD}(h:GoodD p s k l sd g s2 e2 dc wd o){vs va:Ab}(hp:RowsV w a p)(hs:StV w vs s)(ha:UR w va l):ModS (RawS.of s2)/\All64 (if e2=0 then o else[])/\(if e2=0 then o else[]).length<=1000000:=by
 have h1:=(h.hyps hp hs ha).1 _ (Aj _);rw[h.cYo]at h1;have h2:=h1.log;have h3:=h.bounds;have b:=h1.olen;exact⟨aVi h1.st h.hp.env (by have c:s2.log.length<=4096+9*gX p k dc:=h2;omega),h1.o64,by have c:(if e2=0 then o else[]).length<=200000:=b;omega⟩
theorem ask21_open{H:Type}{enc:TypeId×Ab->H}{r:Reach}{o:Nat}{d:DataW H}{q:List MemPlace}(hv:Value.okWide cZ w r o 35 v)(h:DataW.Trod enc cZ w 0 (fun _=>true) true 35 v d q)(hs:aQb cZ 35 d):∃ p,aYo w v p:=by
 obtain⟨cs,rfl⟩:=bKg (t:=35) (fs:=_) underlying35 hv;obtain⟨fuel,hf⟩:=h;obtain⟨n,b,u⟩:=eZ underlying35 hf hs 0 0 1 3 rfl yW rfl rfl ci;obtain⟨l,v1,c,x⟩:=eZ underlying35 hf hs 1 1 1 30 rfl aZl rfl rfl aWp;obtain⟨s,e2⟩:=eZ underlying35 hf hs 2 2 6 33 rfl cQm rfl rfl cst;obtain⟨_,_,_,_,y,_,_⟩:=DataW.trod_struct underlying35 hf;have j:(Value.agg cs).cells.toList.length=8:=y.trans (by kernel_rfl);have hc:(Value.agg cs).cells.toList=cs.toList:=rfl;rw[hc]at b c e2 j
 match k:cs.toList,j with
 | [x0,x1,x2,x3,x4,x5,e,f],_=>
  rw[k]at b c e2;obtain⟨a,g,i,lg,hq,h1,h2,z,A⟩:=e2;simp at hq b c;obtain⟨rfl,rfl,rfl,rfl,rfl,rfl⟩:=hq;subst b;subst c;have m:=aJk u;refine⟨⟨n,l,s⟩,x1,x2,s.most,x4,s.fuel,e,f,?_,m.1,m.2,x,⟨x2,x4,e,f,rfl,h1,h2,z,A⟩,rfl,rfl⟩
  have:cs=#[.int .i64 n,x1,x2,.int .i64 s.most,x4,.int .i64 s.fuel,e,f]:=by
   apply Array.ext';rw[k]
  rw[this]
theorem bVh{p:RowsD}{s:RawS}{sd:StD}{g:SigD}{s2:StD}(h:GoodD p s k l sd g s2 e2 dc wd o)(a vs va:Ab)(w:Aa)(hp:RowsV w a p)(hs:StV w vs s)(ha:UR w va l):
  Calls cZ 6 #[a,vs,.int .i64 (k:Int),va] w (aXh p sd k l w):=by
 have hf:=h.hf;have b:=hs;rw[<-h.hs]at hf b;exact aYk a vs va p sd l k g w hp b ha hf h.hp h.hg h.hv
structure PvI (C:KaC) (X0:KaS) (wz:Aa) (x0:MaD) (j:Nat) (wx:Aa):Prop where
 ex:∃ X,KRef C X wx/\KK X0 X wz wx/\X.x=stN C.p j x0
structure PvK (C:KaC) (x0:MaD) (N:Nat) (s2:StD) (O:List Nat) (E:Int) (wd:Nat):Prop where
 ok:∀ i,i<=N->MOk C.p (stN C.p i x0)
 no:∀ i,i<N->(stN C.p i x0).over=false
 st:∀ i,i<=N->(stN C.p i x0).steps=i
 fi:∀ i,(stN C.p i x0).first≠none->x0.first≠none
 en:stN C.p N x0=⟨[],s2,O,E,N,true,x0.first⟩
 wd:mwM C.p N x0=wd
 hp:ProgP C.p
 hN:N<=4196353
theorem GoodD.pvk{p:RowsD}{s:RawS}{sd:StD}{g:SigD}{s2:StD}(h:GoodD p s k l sd g s2 e2 dc wd o){vs va:Ab}(hp:RowsV w a p)(hs:StV w vs s)(ha:UR w va l)(C:KaC)(b:C.p=p):
  PvK C (eV p k l sd) (gX p k dc) s2 (if e2=0 then o else[]) e2 wd:=by
 subst b;obtain⟨h1,h2,h3,c,d⟩:=h.hyps hp hs ha;exact⟨h1,h2,c,d,h.cYo,(aXj h.hg h.hd).2.2,h.hp,h.bounds⟩
theorem cWr{C:KaC}{X0:KaS}{wz:Aa}{x0:MaD}{s2:StD}(a:PvK C x0 N s2 O E wd)(c:KC C)(d:Tabs C.w0)(hf:x0.first≠none->C.fv = .func (.func 23) #[] #[.pointer (some ⟨C.nb,0,none⟩),.pointer (some ⟨C.ab,0,none⟩)])(h:PvI C X0 wz x0 j wx)(e:j<N):
  Calls cZ 12 #[.pointer (some ⟨C.mm,0,none⟩)] wx fun en w'=>en = .returned (.bool true)/\PvI C X0 wz x0 (j+1) w':=by
 obtain⟨X,h1,h2,b⟩:=h.ex;refine(wW C X wx h1 c d (by rw[b];exact a.ok j (by omega)) (fun f=>hf (a.fi j (by rw[<-b];exact f))) (by rw[b,a.st j (by omega)];have:=a.hN;omega)).mono ?_;rintro en w' ⟨rfl,Y,g,i,k⟩;refine⟨by rw[b,a.no j e];rfl,⟨Y,g,h2.trans i,by rw[k,b,qZ];rfl⟩⟩
theorem bVi{C:KaC}{X:KaS}{x0:MaD}{s2:StD}(a:PvK C x0 N s2 O E wd)(h:KRef C X wx)(b:X.x=stN C.p N x0):
  Calls cZ 11 #[.pointer (some ⟨C.mm,0,none⟩)] wx (aJy O (RawS.of s2) E wx):=by
 have h1:=a.ok N (Aj _);have h2:=a.st N (Aj _);rw[<-b]at h1 h2;have:=aKu C X wx h h1.st (by rw[h1.st.glen];exact Ay (zV a.hp.env) (by decide)) (by have h3:=h1.log;have:=a.hN;omega);rw[b,a.en]at this;exact this
def PvJ(C:KaC)(x0:MaD)(j:Nat)(wx:Aa):Prop:=∃ X,KRef C X wx/\X.x=stN C.p j x0
theorem aVm{p:RowsD}{y:MaD}(h:y.over=true):∀ d,stN p d y=y
 | 0=>rfl
 | d+1=>by
  have h1:dK p y=y:=(by unfold dK;rw[if_pos h]);show stN p d (dK p y)=y;rw[h1];exact aVm h d
theorem tJ{p:RowsD}{x0:MaD}(h:(stN p N x0).over=true)(hj:N<=j):stN p j x0=stN p N x0:=by
 obtain⟨d,rfl⟩:∃ d,j=N+d:=⟨j - N,by omega⟩;rw[qZ];exact aVm h d
theorem PvK.over{C:KaC}{x0:MaD}{N:Nat}{s2:StD}{O:List Nat}{E:Int}{wd:Nat}(a:PvK C x0 N s2 O E wd):(stN C.p N x0).over=true:=by rw[a.en]
theorem PvK.cut{C:KaC}{x0:MaD}{s2:StD}(a:PvK C x0 N s2 O E wd)(j:Nat):∃ i,i<=N/\stN C.p j x0=stN C.p i x0/\(j<N->i=j)/\(N<=j->i=N):=by
 rcases AZ j N with h | h
 ·exact⟨j,by omega,rfl,fun _=>rfl,fun h2=>by omega⟩
 ·exact⟨N,Aj _,tJ a.over h,fun h2=>by omega,fun _=>rfl⟩
theorem cZg{C:KaC}{x0:MaD}{s2:StD}(a:PvK C x0 N s2 O E wd)(c:KC C)(d:Tabs C.w0)(hf:x0.first≠none->C.fv = .func (.func 23) #[] #[.pointer (some ⟨C.nb,0,none⟩),.pointer (some ⟨C.ab,0,none⟩)])(h:PvJ C x0 j wx):
  Calls cZ 12 #[.pointer (some ⟨C.mm,0,none⟩)] wx fun en w'=>en = .returned (.bool (decide (j<N)))/\PvJ C x0 (j+1) w':=by
 obtain⟨X,h1,b⟩:=h;obtain⟨i,hi,he,aa,ad⟩:=a.cut j;refine(wW C X wx h1 c d (by rw[b,he];exact a.ok i hi) (fun e=>hf (a.fi j (by rw[<-b];exact e))) (by rw[b,he,a.st i hi];have:=a.hN;omega)).mono ?_;rintro en w' ⟨rfl,Y,f,y2,g⟩;refine⟨?_,⟨Y,f,by rw[g,b,qZ];rfl⟩⟩;rcases AZ j N with h | h
 ·rw[b,a.no j h,decide_eq_true h];rfl
 ·rw[b,tJ a.over h,a.over,decide_eq_false (by omega)];rfl
theorem bVj{C:KaC}{X:KaS}{x0:MaD}{s2:StD}(a:PvK C x0 N s2 O E wd)(h:KRef C X wx)(b:X.x=stN C.p j x0):
  Calls cZ 11 #[.pointer (some ⟨C.mm,0,none⟩)] wx (aJy X.x.out (RawS.of X.x.s) X.x.e wx):=by
 obtain⟨i,hi,he,_⟩:=a.cut j;have h1:=a.ok i hi;have h2:=a.st i hi;rw[<-he,<-b]at h1 h2;exact aKu C X wx h h1.st (by rw[h1.st.glen];exact Ay (zV a.hp.env) (by decide)) (by have h3:=h1.log;have:=a.hN;omega)
structure SameC (C C':KaC):Prop where
 w0:C'.w0=C.w0
 fv:C'.fv=C.fv
 nb:C'.nb=C.nb
 ab:C'.ab=C.ab
 av:C'.av=C.av
theorem SameC.symm{C C':KaC}(h:SameC C C'):SameC C' C:=⟨h.w0.symm,h.fv.symm,h.nb.symm,h.ab.symm,h.av.symm⟩
def FB(C:KaC)(X:KaS)(k:Nat):Prop:=X.x.first≠none/\(k=C.nb\/k=C.ab\/C.av.ownBlock=some k)
def Sep(C:KaC)(X X':KaS):Prop:=X'.x.first=X.x.first/\∀ k,X.lab k≠0->X'.lab k≠0->FB C X k
theorem Sep.symm{C C':KaC}{X X':KaS}(hc:SameC C C')(h:Sep C X X'):Sep C' X' X:=
 ⟨h.1.symm,fun k h1 h2=>by
  obtain⟨a,b⟩:=h.2 k h2 h1
  exact⟨by rw[h.1];exact a,by rw[hc.nb,hc.ab,hc.av];exact b⟩⟩
theorem KRest.fb{C:KaC}{X:KaS}(h:KRest C X w)(b:FB C X k):X.lab k=9:=by
 obtain⟨c,b⟩:=b;have hf:=h.fst
 cases hx:X.x.first with
 | none=>exact absurd hx c
 | some q=>
  obtain⟨n,a⟩:=q;rw[hx]at hf;obtain⟨_,_,_,_,d,e,f⟩:=hf;rcases b with rfl | rfl | h
  ·exact d
  ·exact e
  ·exact f k h
theorem KRef.apart{C:KaC}{X:KaS}{w':Aa}(h:KRef C X w)(hs:w.heap.size<=w'.heap.size)(b:∀ k,X.lab k≠0->X.lab k≠9->w'.heap[k]? = w.heap[k]?)(hf:FstV C X.lab w' X.x.first)(d:Below C.w0.heap.size C.w0 w'):KRef C X w':=by
 have q:∀ {v:Ab} {j:Nat},(∀ k,v.ownBlock=some k->X.lab k=j)->j≠0->j≠9->∀ k,v.ownBlock=some k->k<w.heap.size->w'.heap[k]? = w.heap[k]?:=fun c h1 h2 k a _=>b k (by rw[c k a];exact h1) (by rw[c k a];exact h2);exact { bel:=d,lb:=fun k a=>⟨(h.lb k a).1,Ax (h.lb k a).2 hs⟩,cl:=h.cl,mm:=(b C.mm (by rw[h.ml];decide) (by rw[h.ml];decide)).trans h.mm,ml:=h.ml,glo:=mQ h.glo (q h.l3 (by decide) (by decide)),l3:=h.l3,log:=mQ h.log (q h.l4 (by decide) (by decide)),l4:=h.l4,inp:=h.inp.heap hs (q h.l5 (by decide) (by decide)),l5:=h.l5,mem:=h.mem.heap hs (q h.l6 (by decide) (by decide)),l6:=h.l6,stk:=mQ h.stk (q h.l7 (by decide) (by decide)),l7:=h.l7,out:=h.out.heap hs (q h.l8 (by decide) (by decide)),l8:=h.l8,fst:=hf,pls:=h.pls.heap (fun k h1 _ _=>⟨b k (by omega) (by omega),rfl⟩),cb:=(b C.cb (by rw[h.cl];decide) (by rw[h.cl];decide)).trans h.cb }
theorem KRef.other{C C':KaC}{X X' Y:KaS}{w':Aa}(h:KRef C X w)(c:KRef C' Y w')(k:KK X' Y w w')(hc:SameC C C')(hs:Sep C X X')(hf:Y.x.first=X'.x.first):KRef C X w'/\Sep C X Y:=by
 have g:∀ i,X.lab i≠0->X.lab i≠9->X'.lab i=0:=fun i h1 h2=>by
  by_cases b:X'.lab i=0
  ·exact b
  ·exact absurd (h.toKRest.fb (hs.2 i h1 b)) h2
 refine⟨h.apart k.size (fun i h1 h2=>(k.keep i (h.lb i h1).2 (g i h1 h2)).1) ?_ (by have:=c.bel;rw[hc.w0]at this;exact this),hf.trans hs.1,fun i h1 h2=>?_⟩
 ·have h1:=h.fst;have h2:=c.fst;rw[hf,hs.1]at h2
  cases hx:X.x.first with
  | none=>rw[hx]at h1;exact h1
  | some q=>
   obtain⟨n,a⟩:=q;rw[hx]at h1 h2;obtain⟨j,_,_,_,l,m,o⟩:=h1;obtain⟨_,d,e,f,_⟩:=h2;rw[hc.nb]at d;rw[hc.ab,hc.av]at e;rw[hc.av]at f;exact⟨j,d,e,f,l,m,o⟩
 ·by_cases b:X'.lab i=0
  ·exact absurd (k.keep i (h.lb i h1).2 b).2 h2
  ·exact hs.2 i h1 b
def clC(C:KaC)(B M:Nat)(gv:Ab):KaC:={ C with mm:=M,cb:=B,gv:=gv }
def clX(X:KaS)(lab:Nat->Nat)(lv iv mv sv ov:Ab)(ps:List Ab):KaS:=⟨X.x,lab,lv,iv,mv,sv,ov,ps⟩
open Classical in
noncomputable def labC (C:KaC) (X:KaS) (a B M:Nat) (gv lv iv mv ov:Ab) (lab:Nat->Nat):Nat->Nat:=fun k=>
 if k<a then(if k=B then 1 else if gv.ownBlock=some k then 3 else if lv.ownBlock=some k then 4 else if iv.ownBlock=some k then 5 else if mv.ownBlock=some k then 6 else if ov.ownBlock=some k then 8 else if FB C X k then 9 else 0)else if k=M then 2 else lab k
theorem aJp(C:KaC)(B M:Nat)(gv:Ab):∀ (l:List FrD) (vs:List Ab),stCells (clC C B M gv) l vs=stCells C l vs
 | [],[]=>rfl
 | [],_ :: _=>rfl
 | _ :: _,[]=>rfl
 | f :: l,v :: vs=>by
  show stCells (clC C B M gv) l vs++iK C f v=stCells C l vs++iK C f v;rw[aJp C B M gv l vs]
theorem bXl(h:UR w v l):l.length<=17592186043904/\All64 l:=by
 obtain⟨_,_,_,_,_,_,b,h⟩:=h;exact⟨b.1,h⟩
theorem cXt(h:BR w v l):l.length<=140737488355328/\AllB l:=by
 obtain⟨_,_,_,_,_,_,b,h⟩:=h;exact⟨b.1,h⟩
theorem cKv{C:KaC}{X:KaS}(h:KRef C X w)(a:FB C X k):C.w0.heap.size<=k/\k<w.heap.size:=h.lb k (by rw[h.toKRest.fb a];decide)
theorem PlsV.mono{w:Aa}{b a:Nat}{lab:Nat->Nat}(c:a<=b):∀ {l:List FrD} {vs:List Ab},PlsV w b lab l vs->PlsV w a lab l vs
 | [],[],_=>trivial
 | f :: l,v :: vs,h=>⟨⟨eQ h.1.1 c,h.1.2⟩,PlsV.mono c h.2⟩
 | [],_ :: _,h=>h.elim
 | _ :: _,[],h=>h.elim
structure ClI (C:KaC) (w w5:Aa) (B:Nat) (cs:Ab->Array Ab) (l:List FrD) (sv:Ab) (ps:List Ab) (lab:Nat->Nat) (wr:Aa):Prop where
 bel:Below w.heap.size w wr
 hs5:w5.heap.size<=wr.heap.size
 keep:∀ k,k<w5.heap.size->k≠B->wr.heap[k]? = w5.heap[k]?
 core:Blk wr B 68 (cs sv)
 stk:wr.ownsRow w5.heap.size 77 3 sv l.length (stCells C l ps)
 l7:∀ k,sv.ownBlock=some k->lab k=7
 pls:PlsV wr w5.heap.size lab l ps
 lb:∀ k,lab k≠0->w5.heap.size<=k/\k<wr.heap.size
theorem ClI.below{C:KaC}{w w5:Aa}{B:Nat}{cs:Ab->Array Ab}{l:List FrD}{sv:Ab}{ps:List Ab}{lab:Nat->Nat}{wr w':Aa}(h:ClI C w w5 B cs l sv ps lab wr)(c:w.heap.size<=wr.heap.size)(h5:B<w5.heap.size)(a:Below wr.heap.size wr w'):ClI C w w5 B cs l sv ps lab w' where
 bel:=h.bel.trans (a.mono c)
 hs5:=Ay h.hs5 a.size
 keep:=fun k h1 h2=>(a.block k (Ax h1 h.hs5)).trans (h.keep k h1 h2)
 core:=h.core.below a h.core.lt
 stk:=cK h.stk a (Aj _)
 l7:=h.l7
 pls:=h.pls.heap (fun k _ _ d=>⟨a.block k d,rfl⟩)
 lb:=fun k b=>⟨(h.lb k b).1,Ax (h.lb k b).2 a.size⟩
theorem ClI.push{C:KaC}{w5:Aa}{cs:Ab->Array Ab}{l:List FrD}{sv sv' pv:Ab}{ps:List Ab}{lab:Nat->Nat}{d c:Aa}{f:FrD}(h:ClI C w w5 B cs l sv ps lab d)(q:w.heap.size<=B)(h5:B<w5.heap.size)(r:∀ u,(cs sv).setIfInBounds 12 u=cs u)
  (hp:d.ownsRow w5.heap.size 62 1 pv f.V.length (u64V f.V)) (m:∀ k,pv.ownBlock=some k->lab k=0) (n:c.ownsRow w5.heap.size 77 3 sv' (l.length+1) (stCells C l ps++iK C f pv)) (hg:d.grownBy c sv.ownBlock) (hv:sv'.ownBlock=sv.ownBlock\/sv'.ownBlock=some d.heap.size) :
  ClI C w w5 B cs (f :: l) sv' (pv :: ps) (eK (eK lab pv (10+l.length)) sv' 7) (c.setCell ⟨B,12,none⟩ sv'):=by
 have i:∀ k,sv.ownBlock=some k->w5.heap.size<=k:=fun k a=>(h.stk.lt k a).1;have s4':∀ k,sv'.ownBlock=some k->w5.heap.size<=k/\k<c.heap.size:=fun k a=>n.lt k a
 have s:sv'.ownBlock≠some B:=fun e=>by have:=(s4' B e).1;omega
 have sz:(c.setCell ⟨B,12,none⟩ sv').heap.size=c.heap.size:=(by simp[AV]);have ag:=hg.size;have ah:=h.hs5;have j:∀ k,k<d.heap.size->k≠B->sv.ownBlock≠some k->(c.setCell ⟨B,12,none⟩ sv').heap[k]? = d.heap[k]?:=fun k h1 h2 g=>(Az _ _ _ _ h2).trans (hg.block k h1 (fun e=>g e.symm))
 have o:∀ k,pv.ownBlock=some k->sv.ownBlock≠some k/\sv'.ownBlock≠some k:=fun k a=>by
  have h1:=m k a;have h2:=hp.lt k a
  have g:sv.ownBlock≠some k:=fun e=>by rw[h.l7 k e]at h1;cases h1
  refine⟨g,fun e=>?_⟩;rcases hv with b | b
  ·exact g (by rw[<-b];exact e)
  ·rw[e]at b;injection b with b;omega
 have t:∀ k,lab k≠0->sv'.ownBlock=some k->lab k=7:=fun k h1 h2=>by
  rcases hv with b | b
  ·exact h.l7 k (by rw[<-b];exact h2)
  ·rw[h2]at b;injection b with b;have:=(h.lb k h1).2;omega
 have v:∀ k,10<=lab k->eK (eK lab pv (10+l.length)) sv' 7 k=lab k:=fun k a=>by
  rw[hJ (fun e=>by have:=t k (by omega) e;omega),hJ (fun e=>by have:=m k e;omega)]
 refine⟨(h.bel.grown hg h.bel.size (fun k a=>by have:=i k a;omega)).setCell (p:=⟨B,12,none⟩) q _,by omega,fun k h1 h2=>(j k (by omega) h2 (fun e=>by have:=i k e;omega)).trans (h.keep k h1 h2),?_,iV n s,fun k a=>lZ a,⟨⟨mQ hp (fun k a x=>j k x (by have:=(hp.lt k a).1;omega) (o k a).1),fun k a=>?_⟩,h.pls.heap (fun k h1 h2 g=>⟨j k g (by have:=(h.lb k (by omega)).1;omega) (fun e=>by have:=h.l7 k e;omega),v k h1⟩)⟩,fun k a=>?_⟩
 ·have:=dY (h.core.grown hg (fun e=>by have:=i B e;omega)) 12 sv';rw[r]at this;exact this
 ·rw[hJ (o k a).2,lZ a]
 ·by_cases e:sv'.ownBlock=some k
  ·have:=s4' k e;omega
  ·rw[hJ e]at a;by_cases e2:pv.ownBlock=some k
   ·have:=hp.lt k e2;omega
   ·rw[hJ e2]at a;have:=h.lb k a;omega
theorem aQs(C:KaC):∀ (A l:List FrD) (vs:List Ab),vs.length=(A++l).length->stCells C (A++l) vs=stCells C l (vs.drop A.length)++stCells C A (vs.take A.length)
 | [],l,vs,_=>by show stCells C l vs=stCells C l vs ++ [];rw[AY]
 | f :: A,l,[],h=>by simp at h
 | f :: A,l,v :: vs,h=>by
  have:=aQs C A l vs (by simpa using h);show stCells C (A++l) vs++iK C f v=stCells C l (vs.drop A.length)++(stCells C A (vs.take A.length)++iK C f v);rw[this,AK]
theorem PlsV.split{w:Aa}{base:Nat}{lab:Nat->Nat}:∀ {A l:List FrD} {vs:List Ab},PlsV w base lab (A++l) vs->PlsV w base lab l (vs.drop A.length)
 | [],l,vs,h=>h
 | f :: A,l,[],h=>h.elim
 | f :: A,l,v :: vs,h=>PlsV.split (A:=A) (l:=l) (vs:=vs) h.2
theorem KRest.at_{C:KaC}{X:KaS}(h:KRest C X w){A l:List FrD}{f:FrD}(b:X.x.st=A++f :: l):∃ g c v,X.sv = .slice (some ⟨g,0,none⟩) X.x.st.length c/\w.cell? ⟨g,l.length*3,none⟩=some (.pointer (some ⟨C.zf,C.of_+f.fi*5,none⟩))/\w.cell? ⟨g,l.length*3+1,none⟩=some (.int .i64 (f.k:Int))/\w.cell? ⟨g,l.length*3+2,none⟩=some v/\g<w.heap.size/\w.ownsRow C.w0.heap.size 62 1 v f.V.length (u64V f.V):=by
 have h1:=h.pls;have h2:=h.stk;have i:=h1.len;rw[b]at h1 i;have a:=h1.split;have hs:=aQs C A (f :: l) X.ps i
 cases hps:X.ps.drop A.length with
 | nil=>rw[hps]at a;exact a.elim
 | cons v vs=>
  rw[hps]at a hs;have m:=nJ C a.2.len;have hn:X.x.st.length=A.length+(l.length+1):=(by rw[b];simp);rcases h2.2 with⟨_,e⟩ | ⟨g,c,cur,e,_,hg,hc,r⟩
  ·omega
  ·rw[e]at h2
   have d:∀ j,j<3->w.cell? ⟨g,l.length*3+j,none⟩=(iK C f v)[j]?:=fun j hj=>by
    rw[h2.cellAt (l.length*3+j) (by omega),b,hs];show((stCells C l vs++iK C f v)++_)[_]? = _;rw[AK,<-m,List.getElem?_append_right (by omega),Nat.add_sub_cancel_left,List.getElem?_append_left (by simp[iK];omega)]
   exact⟨g,c,v,e,d 0 (by omega),d 1 (by omega),d 2 (by omega),(Array.getElem?_eq_some_iff.1 hg).1,a.1.1⟩
theorem cKw{α:Type}:∀ (l:List α),l ≠ []->∃ A f,l=A ++ [f]:=fun l h=>⟨l.dropLast,l.getLast h,(List.dropLast_concat_getLast h).symm⟩
def LoI(C:KaC)(X:KaS)(w w5:Aa)(B:Nat)(cs:Ab->Array Ab)(j:Nat)(wr:Aa):Prop:=∃ A l sv a lab,X.x.st=A++l/\l.length=j/\ClI C w w5 B cs l sv a lab wr
theorem cJl{C:KaC}{X:KaS}{w5 wr:Aa}{F:Nat}{gv lv iv mv ov sv:Ab}{ps:List Ab}{lab:Nat->Nat}(h:KRef C X w)(hB:w.heap.size<=B)(f:B<g)(G:B<F)(R:B<w5.heap.size)(H:Below w.heap.size w wr)(hs5:w5.heap.size<=wr.heap.size)
  (keep:∀ k,k<w5.heap.size->k≠B->wr.heap[k]? = w5.heap[k]?)
  (core:Blk wr B 68 (kCells (clC C B 0 gv) (clX X lab lv iv mv sv ov ps)))
  (r:w5.ownsRow g 62 1 gv X.x.s.globals.length (u64V X.x.s.globals)) (t:w5.ownsRow g 62 1 lv X.x.s.log.length (u64V X.x.s.log)) (i:w5.ownsRow g 62 1 iv X.x.s.input.length (u64V X.x.s.input)) (j:w5.ownsRow g 5 1 mv X.x.s.mem.length (bys X.x.s.mem)) (v:w5.ownsRow F 62 1 ov X.x.out.length (u64V X.x.out))
  (S:∀ k,ov.ownBlock=some k->gv.ownBlock≠some k/\lv.ownBlock≠some k/\iv.ownBlock≠some k/\mv.ownBlock≠some k)
  (n1:∀ k,gv.ownBlock=some k->lv.ownBlock≠some k/\iv.ownBlock≠some k/\mv.ownBlock≠some k) (n2:∀ k,lv.ownBlock=some k->iv.ownBlock≠some k/\mv.ownBlock≠some k)
  (stk:wr.ownsRow w5.heap.size 77 3 sv X.x.st.length (stCells C X.x.st ps)) (l7:∀ k,sv.ownBlock=some k->lab k=7) (pls:PlsV wr w5.heap.size lab X.x.st ps) (lb:∀ k,lab k≠0->w5.heap.size<=k/\k<wr.heap.size) :
  ∃ X',X'.x=X.x/\KRef (clC C B wr.heap.size gv) X' (wr.alloc (.cells #[.pointer (some ⟨B,0,none⟩)] 57))/\Sep C X X':=by
 obtain⟨w',y⟩:∃ w',wr.alloc (.cells #[.pointer (some ⟨B,0,none⟩)] 57)=w':=⟨_,rfl⟩;have l:Below wr.heap.size wr w':=(by rw[<-y];exact(AW wr.heap.size wr).alloc (Aj _) _);have ar:w'.heap.size=wr.heap.size+1:=(by rw[<-y];simp);have T:Blk w' wr.heap.size 57 #[.pointer (some ⟨B,0,none⟩)]:=(by rw[<-y];exact Blk.new _ _ _);have m:Below w.heap.size w w':=H.trans (l.mono H.size);have U:∀ k,k<w5.heap.size->k≠B->w'.heap[k]? = w5.heap[k]?:=fun k h1 h2=>(l.block k (by omega)).trans (keep k h1 h2);have V:∀ k,iv.ownBlock=some k->mv.ownBlock≠some k:=aXi i j (by decide);have au:=h.bel.size;have I:∀ k,FB C X k->C.w0.heap.size<=k/\k<w.heap.size:=fun k c=>cKv h c;obtain⟨L,d⟩:=cX (labC C X w5.heap.size B wr.heap.size gv lv iv mv ov lab)
 have lo:∀ k,k<w5.heap.size->L k=labC C X w5.heap.size B wr.heap.size gv lv iv mv ov lab k:=fun k _=>by rw[d]
 have hi:∀ k,w5.heap.size<=k->k<wr.heap.size->L k=lab k:=fun k a b=>by rw[<-d];unfold labC;rw[if_neg (by omega),if_neg (by omega)]
 have W:L B=1:=(by rw[<-d];unfold labC;rw[if_pos R,if_pos rfl]);have Y:L wr.heap.size=2:=(by rw[<-d];unfold labC;rw[if_neg (by omega),if_pos rfl])
 have Z:∀ k,gv.ownBlock=some k->L k=3:=fun k c=>by
  have:=r.lt k c;rw[<-d];unfold labC;rw[if_pos this.2,if_neg (by omega),if_pos c]
 have Ll:∀ k,lv.ownBlock=some k->L k=4:=fun k c=>by
  have:=t.lt k c;rw[<-d];unfold labC;rw[if_pos this.2,if_neg (by omega),if_neg (fun e=>(n1 k e).1 c),if_pos c]
 have Li:∀ k,iv.ownBlock=some k->L k=5:=fun k c=>by
  have:=i.lt k c;rw[<-d];unfold labC;rw[if_pos this.2,if_neg (by omega),if_neg (fun e=>(n1 k e).2.1 c),if_neg (fun e=>(n2 k e).1 c),if_pos c]
 have Lm:∀ k,mv.ownBlock=some k->L k=6:=fun k c=>by
  have:=j.lt k c;rw[<-d];unfold labC;rw[if_pos this.2,if_neg (by omega),if_neg (fun e=>(n1 k e).2.2 c),if_neg (fun e=>(n2 k e).2 c),if_neg (fun e=>V k e c),if_pos c]
 have Lo:∀ k,ov.ownBlock=some k->L k=8:=fun k c=>by
  have:=v.lt k c;obtain⟨q1,q2,q3,q4⟩:=S k c;rw[<-d];unfold labC;rw[if_pos this.2,if_neg (by omega),if_neg q1,if_neg q2,if_neg q3,if_neg q4,if_pos c]
 have A:∀ k,FB C X k->L k=9:=fun k c=>by
  have:=I k c
  have a:∀ {u:Ab} {b n s:Nat} {e:TypeId} {z:List Ab},w5.ownsRow b e s u n z->B<b->u.ownBlock≠some k:=fun o hb e=>by have:=(o.lt k e).1;omega
  rw[<-d];unfold labC;rw[if_pos (by omega),if_neg (by omega),if_neg (a r f),if_neg (a t f),if_neg (a i f),if_neg (a j f),if_neg (a v G),if_pos c]
 have J:∀ k,L k≠0->FB C X k\/w.heap.size<=k/\k<w'.heap.size:=fun k c=>by
  rcases AZ k w5.heap.size with h1 | h1
  ·rw[<-d]at c;unfold labC at c;rw[if_pos h1]at c
   split at c
   ·exact .inr ⟨by omega,by omega⟩
   split at c
   ·rename_i e;have:=r.lt k e;exact .inr ⟨by omega,by omega⟩
   split at c
   ·rename_i e;have:=t.lt k e;exact .inr ⟨by omega,by omega⟩
   split at c
   ·rename_i e;have:=i.lt k e;exact .inr ⟨by omega,by omega⟩
   split at c
   ·rename_i e;have:=j.lt k e;exact .inr ⟨by omega,by omega⟩
   split at c
   ·rename_i e;have:=v.lt k e;exact .inr ⟨by omega,by omega⟩
   split at c
   ·rename_i e;exact .inl e
   ·exact absurd rfl c
  ·by_cases e:k=wr.heap.size
   ·exact .inr ⟨by omega,by omega⟩
   ·rw[<-d]at c;unfold labC at c;rw[if_neg (by omega),if_neg e]at c;have:=lb k c;exact .inr ⟨by omega,by omega⟩
 have p:∀ {u:Ab} {b n s:Nat} {e:TypeId} {z:List Ab},w5.ownsRow b e s u n z->B<b->w'.ownsRow C.w0.heap.size e s u n z:=fun o hb=>eQ (mQ o (fun k c aq=>U k aq (by have:=(o.lt k c).1;omega))) (by omega);rw[y];have K:=bXl h.inp;have M:=bXl h.out;have N:=cXt h.mem;refine⟨clX X L lv iv mv sv ov ps,rfl,{ bel:=h.bel.trans (m.mono h.bel.size),lb:=fun k c=>?_,cl:=W,mm:=T,ml:=Y,glo:=p r f,l3:=Z,log:=p t f,l4:=Ll,inp:=sJ (p i f) K.1 K.2,l5:=Li,mem:=cJo (p j f) N.2 N.1,l6:=Lm,stk:=(show w'.ownsRow C.w0.heap.size 77 3 sv X.x.st.length (stCells (clC C B wr.heap.size gv) X.x.st ps) by rw[aJp];exact eQ (cK stk l (Aj _)) (by omega)),l7:=fun k c=>?_,out:=sJ (p v G) M.1 M.2,l8:=Lo,fst:=?_,pls:=?_,cb:=(l.block B (by omega)).trans core },rfl,fun k h1 h2=>?_⟩
 ·rcases J k c with e | e
  ·have:=I k e;exact⟨this.1,by have:=m.size;omega⟩
  ·exact⟨by show C.w0.heap.size<=k;omega,e.2⟩
 ·have:=stk.lt k c;exact(hi k this.1 this.2).trans (l7 k c)
 ·have hf:=h.fst;show FstV (clC C B wr.heap.size gv) L w' X.x.first
  cases D:X.x.first with
  | none=>rw[D]at hf;exact hf
  | some q=>
   obtain⟨n,a⟩:=q;rw[D]at hf;have E:X.x.first≠none:=(by rw[D];simp);obtain⟨g1,O,P,g4,_⟩:=hf;exact⟨g1,O.below m O.lt,P.below m P.lt,g4.below m (Aj _),A _ ⟨E,.inl rfl⟩,A _ ⟨E,.inr (.inl rfl)⟩,fun k c=>A k ⟨E,.inr (.inr c)⟩⟩
 ·have h1:PlsV w' w5.heap.size L X.x.st ps:=pls.heap (fun k h1 _ Q=>⟨l.block k Q,hi k (lb k (by omega)).1 Q⟩);exact h1.mono (by show C.w0.heap.size<=w5.heap.size;omega)
 ·rcases J k h2 with e | e
  ·exact e
  ·exact absurd (h.lb k h1).2 (by omega)
theorem SameC.cl(C:KaC)(B M:Nat)(gv:Ab):SameC C (clC C B M gv):=⟨rfl,rfl,rfl,rfl,rfl⟩
theorem KC.cl{C:KaC}(h:KC C)(B M:Nat)(gv:Ab):KC (clC C B M gv):=⟨h.rows,h.ok,h.adr⟩
theorem PvK.cl{C:KaC}{x0:MaD}{s2:StD}(h:PvK C x0 N s2 O E wd)(B M:Nat)(gv:Ab):PvK (clC C B M gv) x0 N s2 O E wd:=⟨h.ok,h.no,h.st,h.fi,h.en,h.wd,h.hp,h.hN⟩
def CI(C C':KaC)(x0:MaD)(i j:Nat)(Z b:KaS)(a wx:Aa):Prop:=∃ X X',KRef C X wx/\KRef C' X' wx/\X.x=stN C.p i x0/\X'.x=stN C.p j x0/\Sep C X X'/\a.heap.size<=wx.heap.size/\∀ k,k<a.heap.size->Z.lab k=0->b.lab k=0->wx.heap[k]? = a.heap[k]? /\ X.lab k=0/\X'.lab k=0
theorem CI.start{C C':KaC}{x0:MaD}{X X':KaS}(h:KRef C X w)(a:KRef C' X' w)(b:X.x=stN C.p i x0)(c:X'.x=stN C.p j x0)(hs:Sep C X X'):CI C C' x0 i j X X' w w:=⟨X,X',h,a,b,c,hs,Aj _,fun k _ h1 h2=>⟨rfl,h1,h2⟩⟩
theorem CI.below{C C':KaC}{x0:MaD}{i j:Nat}{Z e:KaS}{f wx w':Aa}(h:CI C C' x0 i j Z e f wx)(d:Below wx.heap.size wx w'):CI C C' x0 i j Z e f w':=by
 obtain⟨X,X',h1,h2,l,m,n,o,g⟩:=h;exact⟨X,X',h1.below d,h2.below d,l,m,n,Ay o d.size,fun k a b c=>⟨(d.block k (by omega)).trans (g k a b c).1,(g k a b c).2⟩⟩
theorem CI.ur{C C':KaC}{x0:MaD}{Z a:KaS}{b:Aa}(h:CI C C' x0 i j Z a b wx)(e:UR b v l)(c:∀ k,v.ownBlock=some k->Z.lab k=0/\a.lab k=0):UR wx v l:=by
 obtain⟨X,X',_,_,_,_,_,f,g⟩:=h;exact e.heap f (fun k d m=>(g k m (c k d).1 (c k d).2).1)
theorem CI.blk{C C':KaC}{x0:MaD}{Z a:KaS}{b:Aa}(h:CI C C' x0 i j Z a b wx){cs:Array Ab}(c:Blk b g e cs)(d:Z.lab g=0/\a.lab g=0):Blk wx g e cs:=by
 obtain⟨X,X',_,_,_,_,_,h6,f⟩:=h;exact(f g c.lt d.1 d.2).1.trans c
theorem CI.stv{C C':KaC}{x0:MaD}{Z f:KaS}{m:Aa}(h:CI C C' x0 i j Z f m wx){g q l:Ab}{x y:Int}{s:RawS}(hs:StV m (.agg #[a,.int .i64 x,g,.int .i64 y,q,l]) s)(b:∀ u ∈ [a,g,q,l],∀ k,u.ownBlock=some k->Z.lab k=0/\f.lab k=0):StV wx (.agg #[a,.int .i64 x,g,.int .i64 y,q,l]) s:=by
 obtain⟨a1,g1,i1,l1,e,h1,h2,o,p⟩:=hs;injection e with e;injection e with e;simp only[List.cons.injEq,and_true]at e;obtain⟨rfl,c,rfl,e2,rfl,rfl⟩:=e;injection c with _ c;injection e2 with _ e2;subst c;subst e2;have d:=h;obtain⟨X,X',_,_,_,_,_,r,t⟩:=h;exact⟨a,g,q,l,rfl,h1.heap r (fun k n v=>(t k v (b a (by simp) k n).1 (b a (by simp) k n).2).1),d.ur h2 (b g (by simp)),d.ur o (b q (by simp)),d.ur p (b l (by simp))⟩
theorem bYl{C:KaC}{M:Nat}{l:Aa}{x0:MaD}{Z m:KaS}{s2:StD}(d:PvK C x0 N s2 O E wd)(o:KC C)(r:Tabs C.w0)(hf:x0.first≠none->C.fv = .func (.func 23) #[] #[.pointer (some ⟨C.nb,0,none⟩),.pointer (some ⟨C.ab,0,none⟩)])(h:CI C (clC C B M gv) x0 i j Z m l wx):
  Calls cZ 12 #[.pointer (some ⟨M,0,none⟩)] wx fun en w'=>en = .returned (.bool (decide (j<N)))/\CI C (clC C B M gv) x0 i (j+1) Z m l w':=by
 obtain⟨X,X',h1,h2,s,e,t,u,v⟩:=h;obtain⟨q,hq,he,aa,ad⟩:=d.cut j;refine(wW (clC C B M gv) X' wx h2 (o.cl B M gv) r (by rw[e,he];exact d.ok q hq) (fun w=>hf (d.fi j (by rw[<-e];exact w))) (by rw[e,he,d.st q hq];have:=d.hN;omega)).mono ?_;rintro en w' ⟨rfl,Y,n,g,f⟩;have f:Y.x=dK C.p X'.x:=f;obtain⟨y,z⟩:=h1.other n g (SameC.cl C B M gv) t (by rw[f,stepM_first]);refine⟨?_,⟨X,Y,y,n,s,by rw[f,e,qZ];rfl,z,Ay u g.size,fun k a b c=>?_⟩⟩
 ·rcases AZ j N with h | h
  ·rw[e,d.no j h,decide_eq_true h];rfl
  ·rw[e,tJ d.over h,d.over,decide_eq_false (by omega)];rfl
 ·obtain⟨A,D,F⟩:=v k a b c;have:=g.keep k (by omega) F;exact⟨this.1.trans A,D,this.2⟩
theorem cXu{C:KaC}{M:Nat}{g:Aa}{x0:MaD}{Z l:KaS}{s2:StD}(d:PvK C x0 N s2 O E wd)(o:KC C)(p:Tabs C.w0)(hf:x0.first≠none->C.fv = .func (.func 23) #[] #[.pointer (some ⟨C.nb,0,none⟩),.pointer (some ⟨C.ab,0,none⟩)])(h:CI C (clC C B M gv) x0 i j Z l g wx):
  Calls cZ 12 #[.pointer (some ⟨C.mm,0,none⟩)] wx fun en w'=>en = .returned (.bool (decide (i<N)))/\CI C (clC C B M gv) x0 (i+1) j Z l g w':=by
 obtain⟨X,X',h1,h2,e,r,s,t,u⟩:=h;obtain⟨q,hq,he,aa,ad⟩:=d.cut i;refine(wW C X wx h1 o p (by rw[e,he];exact d.ok q hq) (fun v=>hf (d.fi i (by rw[<-e];exact v))) (by rw[e,he,d.st q hq];have:=d.hN;omega)).mono ?_;rintro en w' ⟨rfl,Y,m,f,n⟩;obtain⟨w,x⟩:=h2.other m f (SameC.cl C B M gv).symm (Sep.symm (SameC.cl C B M gv) s) (by rw[n,stepM_first]);refine⟨?_,⟨Y,X',m,w,by rw[n,e,qZ];rfl,r,Sep.symm (SameC.cl C B M gv).symm x,Ay t f.size,fun k a b c=>?_⟩⟩
 ·rcases AZ i N with h | h
  ·rw[e,d.no i h,decide_eq_true h];rfl
  ·rw[e,tJ d.over h,d.over,decide_eq_false (by omega)];rfl
 ·obtain⟨y,z,A⟩:=u k a b c;have:=f.keep k (by omega) z;exact⟨this.1.trans y,this.2,A⟩
def bKo(C:KaC)(X:KaS)(w:Aa)(en:Ending)(w':Aa):Prop:=∃ B M gv X',en = .returned (.pointer (some ⟨M,0,none⟩))/\X'.x=X.x/\KRef C X w'/\KRef (clC C B M gv) X' w'/\Sep C X X'/\Below w.heap.size w w'
theorem bXm(kc:Array Ab)(a b c d e f:Ab)(h:12<=i):((((((kc.setIfInBounds 6 a).setIfInBounds 7 b).setIfInBounds 8 c).setIfInBounds 9 d).setIfInBounds 10 e).setIfInBounds 11 f)[i]? = kc[i]?:=by
 rw[Aq (by omega),Aq (by omega),Aq (by omega),Aq (by omega),Aq (by omega),Aq (by omega)]
theorem bZq(C:KaC)(X:KaS)(w:Aa)(h:KRef C X w)(hC:KC C)(hM:MOk C.p X.x)(bM:X.x.steps<=100000000):Calls cZ 13 #[.pointer (some ⟨C.mm,0,none⟩)] w (bKo C X w):=by
  have J:=h.stv hM.st (by rw[hM.st.glen];exact Ay (zV hC.ok.env) (by decide)) (by have:=hM.log;omega);have HD:=cQ hM;have HC:=cQ hC;obtain⟨Q,R,aD⟩:=h.out.shape;obtain⟨Am,cm,aL⟩:=BR.shape h.mem;obtain⟨Ag,cg,aM,_⟩:=cJ h.glo;obtain⟨Ai,ci,aN⟩:=h.inp.shape;obtain⟨Al,cl,aO,_⟩:=cJ h.log;obtain⟨As,cs,ao,_⟩:=cJ h.stk;have bk:=cQ ao;have aT:=h.out;rw[aL,aM,aN,aO]at J;rw[aD]at aT;have aU:=cQ J;have bN:=cQ aT;have HZ:=cQ (Blk.new w 68 (kCells C X));have HB:=cQ ((AW w.heap.size w).alloc (Aj _) (.cells (kCells C X) 68));have aE:=cQ h;have HR:=cQ (h.below HB.out);have y:=cQ (And.intro h.mm.lt h.cb.lt);have S:=cQ (And.intro aD (And.intro aL (And.intro aM (And.intro aN aO))));have m0:=h.cWt;have L:=h.mm.lt;have d:=h.cb.lt;obtain⟨ra,rb,rd,rf,aq,bm,bn,bo,bp⟩:=hC.rows
  have ar:(kCells C X).all (·.oneCell')=true:=by
    injection aq with aq;injection aq with aq;simp only[List.cons.injEq,and_true]at aq;obtain⟨h1,_,h2,h3,_,h4⟩:=aq;subst h1 h2 h3 h4;obtain⟨_,_,T,_⟩:=bm.len;obtain⟨_,_,e2⟩:=bn.shape;obtain⟨_,_,e3,_⟩:=bo;obtain⟨_,_,e4,_⟩:=bp.len
    have bO:C.fv = .nilFunc\/∃ fn ca,C.fv = .func fn #[] ca:=by
      have hf:=h.fst
      cases hx:X.x.first with
      | none=>rw[hx]at hf;exact .inl hf
      | some q=>rw[hx]at hf;exact .inr hf.1
    rcases bO with e5 | ⟨fn,ca,e5⟩ <;> simp[kCells,T,e2,e3,e4,e5,aL,aM,aN,aO,ao,aD,Value.oneCell']
  obtain⟨kc,aw⟩:=cX (kCells C X);have aV:=h.cb;rw[aw]at ar aV HZ HB HR;have bq:kc.size=18:=(by rw[<-aw];rfl);have aW:=cQ ar;have bP:=cQ aV;have aX:=cQ bq;have aj:=cQ aw;have bQ:=cQ (show kc[13]? = some (.slice Q X.x.out.length R) by rw[<-aw];exact congrArg some aD);have bT:=cQ (show kc[12]? = some (.slice As X.x.st.length cs) by rw[<-aw];exact congrArg some ao);clear ar aV aq bm bn bo bp bq aw;clear h J aT hM hC bM ao aD aL aM aN aO;go_in;go_wp2_with fail;refine(vY C X _ aE.out).mono ?_;rintro e F ⟨rfl,rfl⟩
  go_upto_region 4 with(first
    | (refine wpList_load_row rfl 68 _ rfl C.cb rfl 68 kc (0,0) _ bP.out underlying68 rfl (by rw[aX.out];kernel_rfl) ?_)
    | (refine wpList_store_row rfl 68 _ _ rfl w.heap.size kc rfl rfl 68 _ (heap_alloc_last w _) (by rw[aX.out];kernel_rfl) (by rw[aX.out];rfl) aW.out ?_;rw[World.setRow_alloc_new]))
  obtain⟨F,aY⟩:=cX (w.alloc (.cells kc 68));have br:=cQ (show F.heap.size=w.heap.size+1 by rw[<-aY];simp);rw[aY]at HZ HB HR ⊢;clear aY;have aZ:=cQ HZ.out.drew;have ax:=cQ HB.out.drew;have M:=cQ HR.out.drew;clear m0 L d;have m0:=M.out.cWt;have L:=M.out.mm.lt;have d:=M.out.cb.lt;have ay:F.drew.cell? ⟨C.cb,13,none⟩=some (.slice Q X.x.out.length R):=(M.out.cell 13).trans (congrArg some S.out.1);have c6:F.drew.cell? ⟨C.cb,6,none⟩=some (.slice Am X.x.s.mem.length cm):=(M.out.cell 6).trans (congrArg some S.out.2.1);have c7:F.drew.cell? ⟨C.cb,7,none⟩=some (.int .i64 X.x.s.most):=M.out.cell 7;have c8:F.drew.cell? ⟨C.cb,8,none⟩=some (.slice Ag X.x.s.globals.length cg):=(M.out.cell 8).trans (congrArg some S.out.2.2.1);have c9:F.drew.cell? ⟨C.cb,9,none⟩=some (.int .i64 (X.x.s.fuel:Int)):=M.out.cell 9;have az:F.drew.cell? ⟨C.cb,10,none⟩=some (.slice Ai X.x.s.input.length ci):=(M.out.cell 10).trans (congrArg some S.out.2.2.2.1);have aA:F.drew.cell? ⟨C.cb,11,none⟩=some (.slice Al X.x.s.log.length cl):=(M.out.cell 11).trans (congrArg some S.out.2.2.2.2);have aB:F.drew.cell? ⟨C.cb,14,none⟩=some (.int .i64 X.x.e):=M.out.cell 14;refine iZ (fun w'=>w'.cell? ⟨C.mm,0,none⟩=some (.pointer (some ⟨C.cb,0,none⟩))/\w'.cell? ⟨C.cb,13,none⟩=some (.slice Q X.x.out.length R)/\w'.cell? ⟨C.cb,6,none⟩=some (.slice Am X.x.s.mem.length cm)/\w'.cell? ⟨C.cb,7,none⟩=some (.int .i64 X.x.s.most)/\w'.cell? ⟨C.cb,8,none⟩=some (.slice Ag X.x.s.globals.length cg)/\w'.cell? ⟨C.cb,9,none⟩=some (.int .i64 (X.x.s.fuel:Int))/\w'.cell? ⟨C.cb,10,none⟩=some (.slice Ai X.x.s.input.length ci)/\w'.cell? ⟨C.cb,11,none⟩=some (.slice Al X.x.s.log.length cl)/\w'.cell? ⟨C.cb,14,none⟩=some (.int .i64 X.x.e)/\C.mm<w'.heap.size/\C.cb<w'.heap.size) (fun _=>True) 19 (by kernel_rfl) ⟨m0,ay,c6,c7,c8,c9,az,aA,aB,L,d⟩ trivial (fun c=>?_);refine wtk 0 c (fun c=>?_);refine wtk 1 c (fun c=>?_);refine wtk 2 c (fun c=>?_);refine wtk 3 c (fun c=>?_);refine wtk 4 c (fun c=>?_);refine wtk 5 c (fun c=>?_);refine wtk 6 c (fun c=>?_);refine wtk 8 c (fun c=>?_);refine wtk 9 c (fun c=>?_);refine wtk 10 c (fun c=>?_);refine wtk 11 c (fun c=>?_);refine wtk 12 c (fun c=>?_);refine wtk 13 c (fun c=>?_);refine wtk 14 c (fun c=>?_);refine dQ (i:=7) (by kernel_rfl) rfl (fun K O=>?_);go_simp;refine(aZg _ (RawS.of X.x.s) _ (aU.out.below ax.out (Aj _))).mono ?_;rintro en wa ⟨a,g,i,l,rfl,o2,o3,o4,o5,z,n1,n2⟩;obtain⟨U,W,rfl,_⟩:=cJ o2;obtain⟨D,Y,rfl,_⟩:=cJ o3;obtain⟨Z,d4,rfl,_⟩:=cJ o4;obtain⟨B5,d5,rfl,_⟩:=cJ o5;have O2:=cQ o2;have O3:=cQ o3;have O4:=cQ o4;have O5:=cQ o5;have P1:=cQ z;have N1:=cQ n1;have N2:=cQ n2;have bs:=cQ (aZ.out.below z aZ.out.lt);have HS:=cQ (show(fun w':Aa=>w'.cell? ⟨C.mm,0,none⟩=some (.pointer (some ⟨C.cb,0,none⟩))/\w'.cell? ⟨C.cb,13,none⟩=some (.slice Q X.x.out.length R)/\w'.cell? ⟨C.cb,6,none⟩=some (.slice Am X.x.s.mem.length cm)/\w'.cell? ⟨C.cb,7,none⟩=some (.int .i64 X.x.s.most)/\w'.cell? ⟨C.cb,8,none⟩=some (.slice Ag X.x.s.globals.length cg)/\w'.cell? ⟨C.cb,9,none⟩=some (.int .i64 (X.x.s.fuel:Int))/\w'.cell? ⟨C.cb,10,none⟩=some (.slice Ai X.x.s.input.length ci)/\w'.cell? ⟨C.cb,11,none⟩=some (.slice Al X.x.s.log.length cl)/\w'.cell? ⟨C.cb,14,none⟩=some (.int .i64 X.x.e)/\C.mm<w'.heap.size/\C.cb<w'.heap.size) wa from⟨(z.cell (p:=⟨C.mm,0,none⟩) L).trans m0,(z.cell (p:=⟨C.cb,13,none⟩) d).trans ay,(z.cell (p:=⟨C.cb,6,none⟩) d).trans c6,(z.cell (p:=⟨C.cb,7,none⟩) d).trans c7,(z.cell (p:=⟨C.cb,8,none⟩) d).trans c8,(z.cell (p:=⟨C.cb,9,none⟩) d).trans c9,(z.cell (p:=⟨C.cb,10,none⟩) d).trans az,(z.cell (p:=⟨C.cb,11,none⟩) d).trans aA,(z.cell (p:=⟨C.cb,14,none⟩) d).trans aB,Ax L z.size,Ax d z.size⟩)
  refine O.out _ _ ⟨HS.out,fun _=>trivial⟩ (fun c=>?_);clear O K o2 o3 o4 o5 z n1 n2
  try simp only[Act.put,Ak,AJ,AQ]
  refine dQ (i:=15) (by kernel_rfl) rfl (fun K O=>?_);go_simp;refine(kQ (.slice Q X.x.out.length R) X.x.out _ (bN.out.below (ax.out.trans (P1.out.mono ax.out.size)) (Aj _))).mono ?_;rintro en r ⟨v1,rfl,o1,b2⟩;obtain⟨B1,d1,rfl,_⟩:=cJ o1;have G:=P1.out.trans (b2.mono P1.out.size);have HS:=cQ (show(fun w':Aa=>w'.cell? ⟨C.mm,0,none⟩=some (.pointer (some ⟨C.cb,0,none⟩))/\w'.cell? ⟨C.cb,13,none⟩=some (.slice Q X.x.out.length R)/\w'.cell? ⟨C.cb,6,none⟩=some (.slice Am X.x.s.mem.length cm)/\w'.cell? ⟨C.cb,7,none⟩=some (.int .i64 X.x.s.most)/\w'.cell? ⟨C.cb,8,none⟩=some (.slice Ag X.x.s.globals.length cg)/\w'.cell? ⟨C.cb,9,none⟩=some (.int .i64 (X.x.s.fuel:Int))/\w'.cell? ⟨C.cb,10,none⟩=some (.slice Ai X.x.s.input.length ci)/\w'.cell? ⟨C.cb,11,none⟩=some (.slice Al X.x.s.log.length cl)/\w'.cell? ⟨C.cb,14,none⟩=some (.int .i64 X.x.e)/\C.mm<w'.heap.size/\C.cb<w'.heap.size) r from⟨(G.cell (p:=⟨C.mm,0,none⟩) L).trans m0,(G.cell (p:=⟨C.cb,13,none⟩) d).trans ay,(G.cell (p:=⟨C.cb,6,none⟩) d).trans c6,(G.cell (p:=⟨C.cb,7,none⟩) d).trans c7,(G.cell (p:=⟨C.cb,8,none⟩) d).trans c8,(G.cell (p:=⟨C.cb,9,none⟩) d).trans c9,(G.cell (p:=⟨C.cb,10,none⟩) d).trans az,(G.cell (p:=⟨C.cb,11,none⟩) d).trans aA,(G.cell (p:=⟨C.cb,14,none⟩) d).trans aB,Ax L G.size,Ax d G.size⟩);have O1:=cQ o1;have bU:=cQ (cK O2.out b2 (Aj _));have bV:=cQ (cK O3.out b2 (Aj _));have bW:=cQ (cK O4.out b2 (Aj _));have bX:=cQ (cK O5.out b2 (Aj _));have P2:=cQ b2;have bt:=cQ G;have B:=cQ (bs.out.below b2 bs.out.lt);refine O.out _ _ ⟨HS.out,fun _=>trivial⟩ (fun c=>?_);clear O K o1 b2 G
  try simp only[Act.put,Ak,AJ,AQ]
  refine wtk 16 c (fun c=>?_);have g6:r.cell? ⟨w.heap.size,6,none⟩=some (.slice Am X.x.s.mem.length cm):=(B.out.cell 6).trans (by rw[<-aj.out];exact congrArg some S.out.2.1);have f6:=frz B.out 6;have g7:r.cell? ⟨w.heap.size,7,none⟩=some (.int .i64 X.x.s.most):=(B.out.cell 7).trans (by rw[<-aj.out];rfl);have f7:=frz B.out 7;have g8:r.cell? ⟨w.heap.size,8,none⟩=some (.slice Ag X.x.s.globals.length cg):=(B.out.cell 8).trans (by rw[<-aj.out];exact congrArg some S.out.2.2.1);have f8:=frz B.out 8;have g9:r.cell? ⟨w.heap.size,9,none⟩=some (.int .i64 (X.x.s.fuel:Int)):=(B.out.cell 9).trans (by rw[<-aj.out];rfl);have f9:=frz B.out 9;have g10:r.cell? ⟨w.heap.size,10,none⟩=some (.slice Ai X.x.s.input.length ci):=(B.out.cell 10).trans (by rw[<-aj.out];exact congrArg some S.out.2.2.2.1);have f10:=frz B.out 10;have g11:r.cell? ⟨w.heap.size,11,none⟩=some (.slice Al X.x.s.log.length cl):=(B.out.cell 11).trans (by rw[<-aj.out];exact congrArg some S.out.2.2.2.2);have f11:=frz B.out 11;have g13:r.cell? ⟨w.heap.size,13,none⟩=some (.slice Q X.x.out.length R):=(B.out.cell 13).trans (by rw[<-aj.out];exact congrArg some S.out.1);have f13:=frz B.out 13;have yz:=B.out.lt;have bu:=cQ (show Below w.heap.size r ((((((r.setCell ⟨w.heap.size,6,none⟩ (.slice U (RawS.of X.x.s).mem.length W)).setCell ⟨w.heap.size,7,none⟩ (.int .i64 (RawS.of X.x.s).most)).setCell ⟨w.heap.size,8,none⟩ (.slice D (RawS.of X.x.s).globals.length Y)).setCell ⟨w.heap.size,9,none⟩ (.int .i64 (RawS.of X.x.s).fuel)).setCell ⟨w.heap.size,10,none⟩ (.slice Z (RawS.of X.x.s).input.length d4)).setCell ⟨w.heap.size,11,none⟩ (.slice B5 (RawS.of X.x.s).log.length d5))from(((((((AW w.heap.size r).setCell (p:=⟨w.heap.size,6,none⟩) (Aj _) (.slice U (RawS.of X.x.s).mem.length W)).setCell (p:=⟨w.heap.size,7,none⟩) (Aj _) (.int .i64 (RawS.of X.x.s).most)).setCell (p:=⟨w.heap.size,8,none⟩) (Aj _) (.slice D (RawS.of X.x.s).globals.length Y)).setCell (p:=⟨w.heap.size,9,none⟩) (Aj _) (.int .i64 (RawS.of X.x.s).fuel)).setCell (p:=⟨w.heap.size,10,none⟩) (Aj _) (.slice Z (RawS.of X.x.s).input.length d4)).setCell (p:=⟨w.heap.size,11,none⟩) (Aj _) (.slice B5 (RawS.of X.x.s).log.length d5)));have aC:=cQ (show Blk ((((((r.setCell ⟨w.heap.size,6,none⟩ (.slice U (RawS.of X.x.s).mem.length W)).setCell ⟨w.heap.size,7,none⟩ (.int .i64 (RawS.of X.x.s).most)).setCell ⟨w.heap.size,8,none⟩ (.slice D (RawS.of X.x.s).globals.length Y)).setCell ⟨w.heap.size,9,none⟩ (.int .i64 (RawS.of X.x.s).fuel)).setCell ⟨w.heap.size,10,none⟩ (.slice Z (RawS.of X.x.s).input.length d4)).setCell ⟨w.heap.size,11,none⟩ (.slice B5 (RawS.of X.x.s).log.length d5)) w.heap.size 68 ((((((kc.setIfInBounds 6 (.slice U (RawS.of X.x.s).mem.length W)).setIfInBounds 7 (.int .i64 (RawS.of X.x.s).most)).setIfInBounds 8 (.slice D (RawS.of X.x.s).globals.length Y)).setIfInBounds 9 (.int .i64 (RawS.of X.x.s).fuel)).setIfInBounds 10 (.slice Z (RawS.of X.x.s).input.length d4)).setIfInBounds 11 (.slice B5 (RawS.of X.x.s).log.length d5))from(dY (dY (dY (dY (dY (dY B.out 6 (.slice U (RawS.of X.x.s).mem.length W)) 7 (.int .i64 (RawS.of X.x.s).most)) 8 (.slice D (RawS.of X.x.s).globals.length Y)) 9 (.int .i64 (RawS.of X.x.s).fuel)) 10 (.slice Z (RawS.of X.x.s).input.length d4)) 11 (.slice B5 (RawS.of X.x.s).log.length d5)))
  have bw:=cQ (show((((((r.setCell ⟨w.heap.size,6,none⟩ (.slice U (RawS.of X.x.s).mem.length W)).setCell ⟨w.heap.size,7,none⟩ (.int .i64 (RawS.of X.x.s).most)).setCell ⟨w.heap.size,8,none⟩ (.slice D (RawS.of X.x.s).globals.length Y)).setCell ⟨w.heap.size,9,none⟩ (.int .i64 (RawS.of X.x.s).fuel)).setCell ⟨w.heap.size,10,none⟩ (.slice Z (RawS.of X.x.s).input.length d4)).setCell ⟨w.heap.size,11,none⟩ (.slice B5 (RawS.of X.x.s).log.length d5)).heap.size=r.heap.size by simp[AV]);have bx:=cQ (show ∀ k,k≠w.heap.size->((((((r.setCell ⟨w.heap.size,6,none⟩ (.slice U (RawS.of X.x.s).mem.length W)).setCell ⟨w.heap.size,7,none⟩ (.int .i64 (RawS.of X.x.s).most)).setCell ⟨w.heap.size,8,none⟩ (.slice D (RawS.of X.x.s).globals.length Y)).setCell ⟨w.heap.size,9,none⟩ (.int .i64 (RawS.of X.x.s).fuel)).setCell ⟨w.heap.size,10,none⟩ (.slice Z (RawS.of X.x.s).input.length d4)).setCell ⟨w.heap.size,11,none⟩ (.slice B5 (RawS.of X.x.s).log.length d5)).heap[k]? = r.heap[k]? from fun k t=>(Az _ _ _ _ t).trans ((Az _ _ _ _ t).trans ((Az _ _ _ _ t).trans ((Az _ _ _ _ t).trans ((Az _ _ _ _ t).trans ((Az _ _ _ _ t)))))));refine dQ (i:=17) (by kernel_rfl) rfl (fun K O=>?_);go_simp;obtain⟨wx,bz⟩:=cX (((((((r.setCell ⟨w.heap.size,6,none⟩ (.slice U (RawS.of X.x.s).mem.length W)).setCell ⟨w.heap.size,7,none⟩ (.int .i64 (RawS.of X.x.s).most)).setCell ⟨w.heap.size,8,none⟩ (.slice D (RawS.of X.x.s).globals.length Y)).setCell ⟨w.heap.size,9,none⟩ (.int .i64 (RawS.of X.x.s).fuel)).setCell ⟨w.heap.size,10,none⟩ (.slice Z (RawS.of X.x.s).input.length d4)).setCell ⟨w.heap.size,11,none⟩ (.slice B5 (RawS.of X.x.s).log.length d5)));rw[bz]at bu aC bw bx ⊢;clear bz g6 g7 g8 g9 g10 g11 g13 f6 f7 f8 f9 f10 f11 f13 yz;have N:=cQ ((bt.out.mono ax.out.size).trans bu.out);have HS:=cQ (show(fun w':Aa=>w'.cell? ⟨C.mm,0,none⟩=some (.pointer (some ⟨C.cb,0,none⟩))/\w'.cell? ⟨C.cb,13,none⟩=some (.slice Q X.x.out.length R)/\w'.cell? ⟨C.cb,6,none⟩=some (.slice Am X.x.s.mem.length cm)/\w'.cell? ⟨C.cb,7,none⟩=some (.int .i64 X.x.s.most)/\w'.cell? ⟨C.cb,8,none⟩=some (.slice Ag X.x.s.globals.length cg)/\w'.cell? ⟨C.cb,9,none⟩=some (.int .i64 (X.x.s.fuel:Int))/\w'.cell? ⟨C.cb,10,none⟩=some (.slice Ai X.x.s.input.length ci)/\w'.cell? ⟨C.cb,11,none⟩=some (.slice Al X.x.s.log.length cl)/\w'.cell? ⟨C.cb,14,none⟩=some (.int .i64 X.x.e)/\C.mm<w'.heap.size/\C.cb<w'.heap.size) wx from⟨(N.out.cell (p:=⟨C.mm,0,none⟩) y.out.1).trans m0,(N.out.cell (p:=⟨C.cb,13,none⟩) y.out.2).trans ay,(N.out.cell (p:=⟨C.cb,6,none⟩) y.out.2).trans c6,(N.out.cell (p:=⟨C.cb,7,none⟩) y.out.2).trans c7,(N.out.cell (p:=⟨C.cb,8,none⟩) y.out.2).trans c8,(N.out.cell (p:=⟨C.cb,9,none⟩) y.out.2).trans c9,(N.out.cell (p:=⟨C.cb,10,none⟩) y.out.2).trans az,(N.out.cell (p:=⟨C.cb,11,none⟩) y.out.2).trans aA,(N.out.cell (p:=⟨C.cb,14,none⟩) y.out.2).trans aB,Ax L N.out.size,Ax d N.out.size⟩);refine O.out _ _ ⟨HS.out,fun _=>trivial⟩ (fun c=>?_)
  clear O K
  try simp only[Act.put,Ak,AJ,AQ]
  refine wtk 18 c (fun c=>?_);obtain⟨K5,a1⟩:=cX (((((((kc.setIfInBounds 6 (.slice U (RawS.of X.x.s).mem.length W)).setIfInBounds 7 (.int .i64 (RawS.of X.x.s).most)).setIfInBounds 8 (.slice D (RawS.of X.x.s).globals.length Y)).setIfInBounds 9 (.int .i64 (RawS.of X.x.s).fuel)).setIfInBounds 10 (.slice Z (RawS.of X.x.s).input.length d4)).setIfInBounds 11 (.slice B5 (RawS.of X.x.s).log.length d5)));have aP:=cQ a1;rw[a1]at aC;clear a1;have g13:wx.cell? ⟨w.heap.size,13,none⟩=some (.slice Q X.x.out.length R):=(aC.out.cell 13).trans ((show K5[13]? = kc[13]? by rw[<-aP.out];exact bXm kc _ _ _ _ _ _ (by decide)).trans bQ.out);have f13:=frz aC.out 13;have yz:=aC.out.lt;have H:=cQ (N.out.setCell (p:=⟨w.heap.size,13,none⟩) (Aj _) (.slice B1 X.x.out.length d1));have aF:=cQ (dY aC.out 13 (.slice B1 X.x.out.length d1));have bA:=cQ (show(wx.setCell ⟨w.heap.size,13,none⟩ (.slice B1 X.x.out.length d1)).heap.size=r.heap.size from(show _=wx.heap.size by simp[AV]).trans bw.out);have bB:=cQ (show ∀ k,k≠w.heap.size->(wx.setCell ⟨w.heap.size,13,none⟩ (.slice B1 X.x.out.length d1)).heap[k]? = r.heap[k]? from fun k t=>(Az _ _ _ _ t).trans (bx.out k t));refine dQ (i:=19) (by kernel_rfl) rfl (fun K O=>?_);go_simp;obtain⟨wy,bC⟩:=cX (wx.setCell ⟨w.heap.size,13,none⟩ (.slice B1 X.x.out.length d1));rw[bC]at H aF bA bB ⊢;clear bC g13 f13 yz;have HS:=cQ (show(fun w':Aa=>w'.cell? ⟨C.mm,0,none⟩=some (.pointer (some ⟨C.cb,0,none⟩))/\w'.cell? ⟨C.cb,13,none⟩=some (.slice Q X.x.out.length R)/\w'.cell? ⟨C.cb,6,none⟩=some (.slice Am X.x.s.mem.length cm)/\w'.cell? ⟨C.cb,7,none⟩=some (.int .i64 X.x.s.most)/\w'.cell? ⟨C.cb,8,none⟩=some (.slice Ag X.x.s.globals.length cg)/\w'.cell? ⟨C.cb,9,none⟩=some (.int .i64 (X.x.s.fuel:Int))/\w'.cell? ⟨C.cb,10,none⟩=some (.slice Ai X.x.s.input.length ci)/\w'.cell? ⟨C.cb,11,none⟩=some (.slice Al X.x.s.log.length cl)/\w'.cell? ⟨C.cb,14,none⟩=some (.int .i64 X.x.e)/\C.mm<w'.heap.size/\C.cb<w'.heap.size) wy from⟨(H.out.cell (p:=⟨C.mm,0,none⟩) y.out.1).trans m0,(H.out.cell (p:=⟨C.cb,13,none⟩) y.out.2).trans ay,(H.out.cell (p:=⟨C.cb,6,none⟩) y.out.2).trans c6,(H.out.cell (p:=⟨C.cb,7,none⟩) y.out.2).trans c7,(H.out.cell (p:=⟨C.cb,8,none⟩) y.out.2).trans c8,(H.out.cell (p:=⟨C.cb,9,none⟩) y.out.2).trans c9,(H.out.cell (p:=⟨C.cb,10,none⟩) y.out.2).trans az,(H.out.cell (p:=⟨C.cb,11,none⟩) y.out.2).trans aA,(H.out.cell (p:=⟨C.cb,14,none⟩) y.out.2).trans aB,Ax L H.out.size,Ax d H.out.size⟩);refine O.out _ _ ⟨HS.out,fun _=>trivial⟩ (fun c=>?_);clear O K
  try simp only[Act.put,Ak,AJ,AQ]
  refine iX (by kernel_rfl) ?_ _;clear c HS m0 L d ay c6 c7 c8 c9 az aA aB;have g12:wy.cell? ⟨w.heap.size,12,none⟩=some (.slice As X.x.st.length cs):=(aF.out.cell 12).trans ((Aq (by decide)).trans ((show K5[12]? = kc[12]? by rw[<-aP.out];exact bXm kc _ _ _ _ _ _ (by decide)).trans bT.out));have f12:=frz aF.out 12;have yz:=aF.out.lt;have bD:=cQ (H.out.setCell (p:=⟨w.heap.size,12,none⟩) (Aj _) (.slice none 0 0));have a6:=cQ (dY aF.out 12 (.slice none 0 0));have a7:=cQ (show(wy.setCell ⟨w.heap.size,12,none⟩ (.slice none 0 0)).heap.size=r.heap.size from(show _=wy.heap.size by simp[AV]).trans bA.out);have bE:=cQ (show ∀ k,k≠w.heap.size->(wy.setCell ⟨w.heap.size,12,none⟩ (.slice none 0 0)).heap[k]? = r.heap[k]? from fun k t=>(Az _ _ _ _ t).trans (bB.out k t));go_upto_region 6 with fail;obtain⟨w5,ak⟩:=cX (wy.setCell ⟨w.heap.size,12,none⟩ (.slice none 0 0));rw[ak]at bD a6 a7 bE ⊢;clear ak g12 f12 yz;have bF:=cQ (ax.out.trans bD.out);have R5:=cQ (aE.out.below bF.out);obtain⟨n,hn⟩:=cX X.x.st.length;have aQ:=cQ hn;have bY:n<=16:=(by rw[<-hn];exact HD.out.depth)
  have aG:=cQ (show w.heap.size+1<=w5.heap.size/\F.drew.heap.size=w.heap.size+1/\r.heap.size=w5.heap.size by
    refine⟨?_,br.out,a7.out.symm⟩;have h1:=a7.out;have h2:=bt.out.size;have h3:F.drew.heap.size=w.heap.size+1:=br.out
    omega)
  obtain⟨K6,aR⟩:=cX (K5.setIfInBounds 13 (.slice B1 X.x.out.length d1));have bZ:=cQ aR;have bG:=cQ (show K6.size=18 by rw[<-aR,<-aP.out,<-aj.out];simp[kCells]);rw[aR]at a6;obtain⟨aH,au⟩:∃ aH:Ab->Array Ab,aH=fun u=>K6.setIfInBounds 12 u:=⟨_,rfl⟩;have an:=cQ au;have L0:=cQ (show LoI C X w w5 w.heap.size aH 0 w5 from⟨X.x.st,[],.slice none 0 0,[],fun _=>0,(AY _).symm,rfl,⟨bF.out,Aj _,fun _ _ _=>rfl,by rw[au];exact a6.out,World.ownsRow_nil _ _ _ _,fun k t=>(by cases t),trivial,fun k t=>absurd rfl t⟩⟩);have m0:=R5.out.cWt;have b0:w5.cell? ⟨C.cb,12,none⟩=some (.slice As n cs):=(R5.out.cell 12).trans (by rw[<-hn];exact congrArg some bk.out);have L:=R5.out.mm.lt;have d:=R5.out.cb.lt;clear hn aR au ax M aZ HR HB HZ;go_wp2_with fail;go_loopw [5,42] (fun v i wr=>∃ j:Nat,j<=n/\i = .int .i64 (j:Int)/\Hid (LoI C X w w5 w.heap.size aH j wr)) (fun _ i _=>n - (intOf i).toNat)
  case atStart=>exact⟨0,by omega,rfl,L0⟩
  case round=>
    obtain⟨j,hj,rfl,I⟩:=hrel;clear L0 m0 b0 L d;obtain⟨A0,l,sv,qs,lab,T,e2,E⟩:=I.out;subst e2;by_cases b3:l.length<n
    · as_aux_lemma=>
      have t1:decide ((l.length:Int)<(n:Int))=true:=(by simp;omega);have t2:(l.length:Int)<(n:Int):=(by omega)
      obtain⟨A,f,rfl⟩:=cKw A0 (fun e=>by
        have h1:=aQ.out;rw[T,e]at h1;simp at h1
        omega)
      have J:X.x.st=A++f :: l:=(by rw[T,AK];rfl);have rr:=aE.out.below E.bel;obtain⟨gs,b8,v,ao,s0,s1,s2,b4,hv⟩:=rr.toKRest.at_ J;rw[aQ.out,bk.out,aQ.out]at ao;injection ao with a8 _ ba;subst a8;obtain⟨Av,cv,rfl,_⟩:=cJ hv;have aS:=HD.out.frs f (by rw[J];simp)
      have b5:=cQ (show f.V.length<=4096 from by
        have h3:=(HC.out.ok.row _ _ aS.row).1.p2;have:=aS.len
        omega)
      have UV:=cQ (mW hv aS.a64 (by have:=b5.out;omega));have IC:=cQ E;have aU:=cQ J;have P:=(AW wr.heap.size wr).alloc (Aj _) (.cells #[.pointer (some ⟨C.zf,C.of_+f.fi*5,none⟩),.int .i64 (f.k:Int),.slice Av f.V.length cv] 77);have bb:=cQ P;have KF:=cQ (Blk.new wr 77 #[.pointer (some ⟨C.zf,C.of_+f.fi*5,none⟩),.int .i64 (f.k:Int),.slice Av f.V.length cv]);have bH:=cQ (UV.out.below P (Aj _));clear E T rr hv aS J P ba I UV;go_wp2_with fail;refine(kQ _ f.V _ bH.out).mono ?_;rintro en w2 ⟨pv,rfl,o1,z⟩;obtain⟨Ap,cp,rfl,_⟩:=cJ o1;have aI:=cQ (KF.out.below z KF.out.lt);have D:=cQ ((bb.out.trans (z.mono bb.out.size)).setCell (p:=⟨wr.heap.size,2,none⟩) (Aj _) (.slice Ap f.V.length cp));have bc:=cQ (show Blk (w2.setCell ⟨wr.heap.size,2,none⟩ (.slice Ap f.V.length cp)) wr.heap.size 77 #[.pointer (some ⟨C.zf,C.of_+f.fi*5,none⟩),.int .i64 (f.k:Int),.slice Ap f.V.length cp]from dY aI.out 2 _);have O3:=cQ (eQ (iV (g:=wr.heap.size) (k:=2) (u:=.slice Ap f.V.length cp) o1 (fun e=>by have:=(o1.lt _ e).1;simp at this;omega)) (show wr.heap.size+1<=_ by simp));clear s0 s1 s2 b4 o1 z bH;obtain⟨z0,z1,z2⟩:=bZx aI.out;have f2:=frz aI.out 2;have yz:=aI.out.lt;go_upto_region 10 with fail;obtain⟨w3,bI⟩:=cX (w2.setCell ⟨wr.heap.size,2,none⟩ (.slice Ap f.V.length cp));rw[bI]at D bc O3 ⊢;clear bI z0 z1 z2 f2 yz aI KF bb;have aJ:=cQ (IC.out.below IC.out.bel.size (by have:=aG.out.1;omega) D.out);obtain⟨bd,be,bf,_⟩:=cJ aJ.out.stk;subst bf;obtain⟨z0,z1,z2⟩:=bZx bc.out;have yz:=bc.out.lt;have g12:w3.cell? ⟨w.heap.size,12,none⟩=some (.slice bd l.length be):=(aJ.out.core.cell 12).trans (by rw[an.out];exact Aw (by rw[bG.out];decide));have yg:=aJ.out.core.lt;have al:=(AW w3.heap.size w3).alloc (Aj _) (.cells #[.pointer (some ⟨C.zf,C.of_+f.fi*5,none⟩),.int .i64 (f.k:Int),.slice Ap f.V.length cp] 77);have aK:=cQ (aJ.out.below (by have:=IC.out.bel.size;have:=D.out.size;omega) (by have:=aG.out.1;omega) al);have KN:=cQ (Blk.new w3 77 #[.pointer (some ⟨C.zf,C.of_+f.fi*5,none⟩),.int .i64 (f.k:Int),.slice Ap f.V.length cp]);have O4:=cQ (cK O3.out al (Aj _));have BS:=cQ (show w5.heap.size<=w3.heap.size from aJ.out.hs5);clear al;go_wp2_with (at_builtin;refine xW _ rfl (.tmp 51) (.tmp 53) 65 rfl w5.heap.size 77 (.agg #[.pointer none,.int .i64 0,.slice none 0 0]) 3 40 underlying65 aJu rfl (by omega) (.slice bd l.length be) l.length (stCells C l qs) rfl aK.out.stk (some ⟨w3.heap.size,0,none⟩) 1 1 [.pointer (some ⟨C.zf,C.of_+f.fi*5,none⟩),.int .i64 (f.k:Int),.slice Ap f.V.length cp] rfl (Blk.cWx (cs:=#[.pointer (some ⟨C.zf,C.of_+f.fi*5,none⟩),.int .i64 (f.k:Int),.slice Ap f.V.length cp]) KN.out rfl) (cJn C f Ap f.V.length cp) (by unfold maxLen;omega) (by omega) (by have:=BS.out;simp;omega) ?_);rintro v' w4 q1 q2 q3 _;have kb:=aK.out.core.grown q2 (fV aK.out.stk aK.out.core (by decide))
      have PU:=cQ (aK.out.push (f:=f) (sv':=v') (Aj _) (by have:=aG.out.1;omega) (fun u=>by rw[an.out];exact Array.setIfInBounds_setIfInBounds ..) (eQ O4.out (by have:=IC.out.hs5;omega)) (fun k t=>by
        by_cases h0:lab k=0
        · exact h0
        · have h1:=(IC.out.lb k h0).2
          have h2:=(O4.out.lt k t).1
          omega) q1 q2 (by simpa using q3))
      obtain⟨A7,c7,rfl,_⟩:=cJ q1;have b6:w4.cell? ⟨w.heap.size,12,none⟩=some (.slice bd l.length be):=(kb.cell 12).trans (by rw[an.out];exact Aw (by rw[bG.out];decide));have f12:=frz kb 12;have b9:=kb.lt;clear q1 q2 q3 kb g12 yg z0 z1 z2 yz;go_wp2_with fail;exact⟨⟨l.length+1,by omega,by simp,cQ ⟨A,f :: l,_,_,_,aU.out,rfl,PU.out⟩⟩,by simp[intOf];omega⟩
    · have t1:decide ((l.length:Int)<(n:Int))=false:=by simp;omega
      have t3:decide (l.length<n)=false:=by simp;omega
      have b7:A0 = []:=by
        have h1:=aQ.out;rw[T]at h1;simp at h1;exact AX (by omega)
      subst b7;have T:X.x.st=l:=T
      have bJ:aH sv=kCells (clC C w.heap.size 0 (.slice D X.x.s.globals.length Y)) (clX X lab (.slice B5 X.x.s.log.length d5) (.slice Z X.x.s.input.length d4) (.slice U X.x.s.mem.length W) sv (.slice B1 X.x.out.length d1) qs):=by
        rw[an.out,<-bZ.out,<-aP.out,<-aj.out];simp[kCells,clC,clX,RawS.of]
      have bg:=E.core;rw[bJ]at bg;have J:=E.stk;have bh:=E.pls;rw[<-T]at J bh;have ak:∀ {u:Ab} {b m sz:Nat} {e:TypeId} {xs:List Ab},r.ownsRow b e sz u m xs->w.heap.size<b->w5.ownsRow b e sz u m xs:=fun o hb=>mQ o (fun k t _=>bE.out k (by have:=(o.lt k t).1;omega));have P:w.heap.size<F.drew.heap.size:=(by rw[aG.out.2.1];omega);have bj:w.heap.size<wa.heap.size:=Ax P P1.out.size
      obtain⟨X',x1,x2,x3⟩:=cJl (lab:=lab) aE.out (Aj _) P bj (by have:=aG.out.1;omega) E.bel E.hs5 E.keep bg (ak bV.out P) (ak bX.out P) (ak bW.out P) (ak bU.out P) (ak O1.out bj)
        (fun k t=>by
          have h1:=(O1.out.lt k t).1
          exact⟨fun e=>by have:=(O3.out.lt k e).2;omega,fun e=>by have:=(O5.out.lt k e).2;omega,fun e=>by have:=(O4.out.lt k e).2;omega,fun e=>by have:=(O2.out.lt k e).2;omega⟩) N1.out N2.out J E.l7 bh E.lb
      have X1:=cQ x1;have X2:=cQ x2;have X3:=cQ x3;have bL:=cQ (E.bel.alloc E.bel.size (.cells #[.pointer (some ⟨w.heap.size,0,none⟩)] 57));clear I E T bJ bg J bh ak P bj x1 x2 x3 b3 hj;go_wp2;go_ret;exact⟨_,_,_,X',rfl,X1.out,aE.out.below bL.out,X2.out,X3.out,bL.out⟩
end Go.Proofs.YtabibkpfgmolkaaDoor

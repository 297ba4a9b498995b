/- Lemmas for the claim, part 14. Conditions: none. -/
import Derived.Test.YtabibkpfgmolkaaDoorPd13
import Derived.Deep.CutBlock
set_option maxRecDepth 100000
set_option maxHeartbeats 16000000
set_option linter.unusedVariables false
set_option linter.unusedSimpArgs false
open Go.Lib renaming hid→cQ
open Go.Proofs.Tryd renaming prog→cZ
open Go.Proofs.Tryd
open Go.RowKit
open Nat renaming le_refl→Aj,zero_le→Aw,le_trans→Ay,add_sub_cancel_left→AQ,lt_or_ge→AZ,sub_self→Aa
open List renaming getElem?_append_right→Aq,getElem?_append_left→Ax,length_reverse→Az,getElem?_eq_getElem→Ak,length_cons→AX,take_of_length_le→AK,reverse_cons→AV,not_mem_nil→AW,mem_cons→AY
open Go.RowKit.Below renaming refl→Av
open Go.IntWalk renaming i64_in→AJ
open Go renaming World→Ab,Value→Ac,Calls→Ad
namespace Go.Proofs.YtabibkpfgmolkaaDoor
variable {w wx:Ab}{wd k dc N j g n:Nat}{l o O:List Nat}{e2 E:Int}{v a vs va:Ac}
theorem aYl(a vs va:Ac)(p:RowsD)(sd:StD)(l:List Nat)(k:Nat)(g:SigD)(w:Ab)(hp:RowsV w a p)(hs:StV w vs (RawS.of sd))(ha:UR w va l)(b:FitP p.env (RawS.of sd))(c:ProgP p)(hg:p.env.sigs[k]? = some g)(d:GivP g.inn l):Ad cZ 6 #[a,vs,.int .i64 (k:Int),va] w (aXb p sd k l w):=by
 by_cases h:(k:Int)<p.env.imports
 ·exact cQc a vs va p _ _ l w hp hs ha b c sd rfl k g rfl hg d h
 ·exact cJl a vs va p _ _ l w hp hs ha b c sd rfl k g rfl hg d h
theorem aJw(C:KaC){w:Ab}{base:Nat}{lab:Nat->Nat}:∀ (st:List FrD) (ps:List Ac),PlsV w base lab st ps->∀ i,i<st.length->∃ (f:FrD) (A:Option Addr) (c:Nat),st.reverse[i]? = some f/\(stCells C st ps)[i*3]? = some (.pointer (some ⟨C.zf,C.of_+f.fi*5,none⟩))/\(stCells C st ps)[i*3+1]? = some (.int .i64 (f.k:Int))/\(stCells C st ps)[i*3+2]? = some (.slice A f.V.length c)
 | [],_,_,i,hi=>by simp at hi
 | _ :: _,[],h,_,_=>h.elim
 | f :: l,v :: vs,h,i,hi=>by
  have a:=oZ C h.2.len;rcases AZ i l.length with b | ad
  ·obtain⟨q,A,c,h1,h2,d,g⟩:=aJw C l vs h.2 i b;refine⟨q,A,c,?_,?_,?_,?_⟩
   ·rw[AV,Ax (by rw[Az];exact b)];exact h1
   ·show(stCells C l vs++mX C f v)[_]? = _;rw[Ax (by omega)];exact h2
   ·show(stCells C l vs++mX C f v)[_]? = _;rw[Ax (by omega)];exact d
   ·show(stCells C l vs++mX C f v)[_]? = _;rw[Ax (by omega)];exact g
  ·have e:i=l.length:=(by simp at hi;omega);subst e;obtain⟨A,c,hv,_⟩:=cJ h.1.1;refine⟨f,A,c,?_,?_,?_,?_⟩
   ·rw[AV,Aq (by rw[Az];exact Aj _),Az,Aa];rfl
   ·show(stCells C l vs++mX C f v)[_]? = _;rw[<-a,Aq (by omega),Aa];rfl
   ·show(stCells C l vs++mX C f v)[_]? = _;rw[<-a,Aq (by omega),AQ];rfl
   ·show(stCells C l vs++mX C f v)[_]? = _;rw[<-a,Aq (by omega),AQ,hv];rfl
def sW(st:List FrD)(i:Nat):Nat:=((st.reverse.take i).map fun f=>f.V.length).sum
theorem bVm{st:List FrD}{i:Nat}{f:FrD}(h:st.reverse[i]? = some f):sW st (i+1)=sW st i+f.V.length:=by
 unfold sW;rw[List.take_add_one,h];simp
theorem aYo(x:MaD):sW x.st x.st.length=wdM x:=by
 unfold sW wdM;rw[AK (by rw[Az];exact Aj _),List.map_reverse,List.sum_reverse]
theorem aJx(C:KaC)(X:KaS)(w:Ab)(h:KRef C X w)(s:∀ i,i<=X.x.st.length->sW X.x.st i<=1000000000)(hd:X.x.st.length<=16):Ad cZ 10 #[.pointer (some ⟨C.mm,0,none⟩)] w fun e w'=>e = .returned (.int .i64 (wdM X.x:Int))/\Below w.heap.size w w':=by
 obtain⟨A,c,g⟩:=h.cYi;obtain⟨n,hn⟩:=cX X.x.st.length;rw[hn]at g hd;have m0:=h.cWp;have ym:=h.mm.lt;have yb:=h.cb.lt;have an:w.cell? ⟨C.cb,12,none⟩=some (.slice A n c):=(by rw[h.cell 12,<-g];rfl);have H:=cQ h;have a:=cQ hn;have B:=cQ s;have t:=cQ g;have u:=cQ h.pls;have D:=cQ h.stk;clear h g hn s;go_in;go_wp2_with fail;refine(yV C X _ H.out).mono ?_;rintro e w1 ⟨rfl,rfl⟩;go_wp2_with fail;go_loopw [3,16] (fun v i wx=>∃ j:Nat,j<=n/\i = .int .i64 (j:Int)/\v = .int .i64 (sW X.x.st j:Int)/\Hid (Below w.heap.size w wx)) (fun _ i _=>n - (intOf i).toNat)
 case atStart=>exact⟨0,by omega,rfl,rfl,cQ (Av _ _)⟩
 case round=>
  obtain⟨j,hj,rfl,rfl,b⟩:=hrel;by_cases E:j<n
  ·have F:decide ((j:Int)<n)=true:=(by simp;omega);have t2:(j:Int)<n:=(by omega);obtain⟨f,G,I,h1,h2,y,z⟩:=aJw C X.x.st X.ps u.out j (by rw[a.out];exact E);have d:=D.out;rw[a.out]at d;rcases d.2 with⟨_,e⟩ | ⟨l,cc,cur,e,_,hg,hc,r⟩
   ·exact absurd e (by omega)
   rw[t.out]at e;injection e with e _ _;subst e;rw[t.out]at d;have o:l<w.heap.size:=(Array.getElem?_eq_some_iff.1 hg).1;have hlen:=oZ C u.out.len;rw[a.out]at hlen;have m:∀ q,q<3->wr.cell? ⟨l,j*3+q,none⟩=(stCells C X.x.st X.ps)[j*3+q]?:=fun q hq=>(b.out.cell (p:=⟨l,j*3+q,none⟩) o).trans (d.cellAt (j*3+q) (by omega));have J:=(m 0 (by omega)).trans h2;have d1:=(m 1 (by omega)).trans y;have d2:=(m 2 (by omega)).trans z;rw[Nat.add_zero]at J;have ao:l<wr.heap.size:=Nat.lt_of_lt_of_le o b.out.size;have K:=bVm h1;have L:=B.out (j+1) (by rw[a.out];omega);have aq:IntKind.i64.wrap ((sW X.x.st j:Int)+(f.V.length:Int))=((sW X.x.st (j+1):Nat):Int):=(by rw[show(sW X.x.st j:Int)+(f.V.length:Int)=((sW X.x.st (j+1):Nat):Int) by omega];exact AJ _ (by omega));have M:=cQ (b.out.alloc b.out.size (.cells #[.pointer (some ⟨C.zf,C.of_+f.fi*5,none⟩),.int .i64 (f.k:Int),.slice G f.V.length I] 77));clear h1 h2 y z d hg hc r o hlen m K L;go_wp2;exact⟨⟨j+1,by omega,by simp,by first | rfl | simp,M⟩,by simp[intOf];omega⟩
  ·have F:decide ((j:Int)<n)=false:=(by simp;omega);obtain rfl:j=n:=(by omega);go_wp2;go_ret;exact⟨by rw[<-aYo,a.out];rfl,b.out⟩
end Go.Proofs.YtabibkpfgmolkaaDoor
namespace Go.Proofs.YtabibkpfgmolkaaDoor
variable {w wx:Ab}{wd k dc N j g n:Nat}{l o O:List Nat}{e2 E:Int}{v a vs va:Ac}
def wX:RowD:=⟨⟨[],[127]⟩,1,[],[⟨258,0,[],[],[]⟩,⟨256,5,[],[0],[]⟩,⟨276,0,[0],[],[]⟩]⟩
def hJ:RowsD:=⟨⟨[⟨[],[127]⟩],0,[],[],false⟩,[wX]⟩
def yK:StD:=⟨[],0,[],1,[],[]⟩
theorem aYm{i:Nat}{c:CodeD}(h:wX.code[i]? = some c){x:Int}(a:x∈nextOf c i):x=(i:Int)+1/\i<2:=by
 match i,h with
 | 0,h=>injection h with h;subst h;simp[nextOf]at a;exact⟨a,by omega⟩
 | 1,h=>injection h with h;subst h;simp[nextOf]at a;exact⟨by omega,by omega⟩
 | 2,h=>injection h with h;subst h;simp[nextOf]at a
 | n+3,h=>simp[wX]at h
theorem bQx:CheckP hJ.env wX where
 env:=by decide
 sig:=by decide
 n1:=by decide
 n2:=by decide
 p1:=by decide
 p2:=by decide
 par:=rfl
 pin:=rfl
 pun:=by simp[wX]
 code c hc:=by
  simp only[wX,AY,AW,or_false]at hc;rcases hc with rfl | rfl | rfl <;> rfl
 first c hc:=by injection hc with hc;subst hc;rfl
 last c hc:=by injection hc with hc;subst hc;decide
 rank:=⟨fun i=>3 - i,fun i c k hc _ a=>by
  obtain⟨h1,h2⟩:=aYm hc a;show 3 - k<3 - i
  omega⟩
theorem wZ:ProgP hJ where
 env:=by decide
 len:=by decide
 row i r h:=by
  match i,h with
  | 0,h=>injection h with h;subst h;exact⟨bQx,rfl⟩
  | n+1,h=>simp[hJ]at h
theorem bVi:∀ (i:Nat) q,hJ.fns[i]? = Option.some q->∀ c∈q.code,c.n<18446744073709551616:=by
 intro i q h c hc
 match i,h with
 | 0,h=>
  injection h with h;subst h;simp only[wX,AY,AW,or_false]at hc;rcases hc with rfl | rfl | rfl <;> decide
 | n+1,h=>simp[hJ]at h
theorem bJa:StOk hJ.env yK where
 memB:=fun _ h=>by cases h
 memL:=by decide
 most:=by decide
 glen:=rfl
 g64:=fun _ h=>by cases h
 l64:=fun _ h=>by cases h
 i64:=fun _ h=>by cases h
 ilen:=by decide
 fuel:=by decide
theorem aJs(i:Nat):MOk hJ (stN hJ i (eJ hJ 0 [] yK)):=
 aYj wZ bVi i (aYe (g:=⟨[],[127]⟩) wZ bJa rfl rfl (fun _ h=>by cases h) (by decide))
theorem bQy:FitP hJ.env (RawS.of yK):=⟨by decide,{ pg:=rfl,le:=by decide,mx:=by decide,no:=fun _=>rfl,gl:=rfl,f0:=by decide,f1:=by decide,il:=by decide,ll:=by decide,ft:=fun k t n h=>by simp[hJ]at h }⟩
theorem cQg(C:KaC)(X:KaS)(w:Ab)(h:KRef C X w)(a:X.x.over=true):Ad cZ 12 #[.pointer (some ⟨C.mm,0,none⟩)] w fun e w'=>e = .returned (.bool false)/\w=w':=by
 have H:=cQ h;have b:=cQ a;clear h a;go_in;go_wp2_with fail;refine(mZ C X _ H.out).mono ?_;rintro e w1 ⟨rfl,rfl⟩;rw[b.out];go_wp2;go_ret;exact⟨rfl,rfl⟩
theorem uJ{cs:Array Ac}{l:List Int}(h:Blk w g 3 cs)(a:l.length=n)(e:i64s l=cs.toList)(hn:n<=100):Ints w (.slice (some ⟨g,0,none⟩) n n) l:=by
 subst a;exact⟨_,_,rfl,by rw[e];exact Blk.cWt h (by have:=congrArg List.length e;simpa[i64s]using this.symm),Aj _,(fun e=>by cases e),by omega⟩
def cQh(w:Ab)(en:Ending)(w':Ab):Prop:=∃ v,en = .returned v/\RowsV w' v hJ/\Below w.heap.size w w'
theorem bQz(w:Ab):Ad cZ 27 #[] w (cQh w):=by
 go_in;go_wp2;refine bodyPost_ret (v:=.agg #[.slice (some ⟨w.heap.size+1+1+1+1+1+1+1,0,none⟩) 1 1,.int .i64 0,.slice none 0 0,.slice none 0 0,.bool false,.slice (some ⟨w.heap.size+1+1+1+1+1+1+1+1,0,none⟩) 1 1]) (by simp[results,results27,go_sem]) rfl ⟨_,rfl,⟨_,_,_,_,rfl,?_,Ints.nil _,?_,?_⟩,?_⟩
 ·refine⟨_,_,[[.slice none 0 0,.slice (some ⟨w.heap.size+1,0,none⟩) 1 1]],rfl,by decide,(fun e=>by cases e),by decide,rfl,by simp,?_,Blk.cWt (Blk.alloc (Blk.newAt _ _ _ (by simp)) _) rfl⟩;intro i u x h1 h2
  match i,h1,h2 with
  | 0,h1,h2=>
   injection h1 with h1;injection h2 with h2;subst h1;subst h2;exact⟨_,_,rfl,Ints.nil _,uJ (cs:=#[.int .i64 127]) (Blk.alloc (Blk.alloc (Blk.alloc (Blk.alloc (Blk.alloc (Blk.alloc (Blk.alloc (Blk.newAt _ _ _ (by simp)) _) _) _) _) _) _) _) rfl rfl (by decide)⟩
  | n+1,h1,h2=>simp at h1
 ·exact⟨none,0,rfl,Src.nil _ _,Aj _,fun _=>rfl,by decide⟩
 ·refine⟨_,_,[[.slice none 0 0,.slice (some ⟨w.heap.size+1,0,none⟩) 1 1,.int .i64 1,.slice none 0 0,.slice (some ⟨w.heap.size+1+1+1+1+1,0,none⟩) 3 3]],rfl,by decide,(fun e=>by cases e),by decide,rfl,by simp,?_,Blk.cWt (Blk.newAt _ _ _ (by simp)) rfl⟩;intro i u x h1 h2
  match i,h1,h2 with
  | 0,h1,h2=>
   injection h1 with h1;injection h2 with h2;subst h1;subst h2;refine⟨_,_,_,_,rfl,Ints.nil _,uJ (cs:=#[.int .i64 127]) (Blk.alloc (Blk.alloc (Blk.alloc (Blk.alloc (Blk.alloc (Blk.alloc (Blk.alloc (Blk.newAt _ _ _ (by simp)) _) _) _) _) _) _) _) rfl rfl (by decide),Ints.nil _,?_⟩;refine⟨_,_,[[.int .i64 258,.int .u64 0,.slice none 0 0,.slice none 0 0,.slice none 0 0],[.int .i64 256,.int .u64 5,.slice none 0 0,.slice (some ⟨w.heap.size+1+1+1,0,none⟩) 1 1,.slice none 0 0],[.int .i64 276,.int .u64 0,.slice (some ⟨w.heap.size+1+1+1+1,0,none⟩) 1 1,.slice none 0 0,.slice none 0 0]],rfl,by decide,(fun e=>by cases e),by decide,rfl,by simp,?_,Blk.cWt (Blk.alloc (Blk.alloc (Blk.alloc (Blk.newAt _ _ _ (by simp)) _) _) _) rfl⟩;intro i u x h1 h2
   match i,h1,h2 with
   | 0,h1,h2=>
    injection h1 with h1;injection h2 with h2;subst h1;subst h2;exact⟨_,_,_,rfl,by simp[CodeD.ok],Ints.nil _,Ints.nil _,Ints.nil _⟩
   | 1,h1,h2=>
    injection h1 with h1;injection h2 with h2;subst h1;subst h2;exact⟨_,_,_,rfl,by simp[CodeD.ok],Ints.nil _,uJ (cs:=#[.int .i64 0]) (Blk.alloc (Blk.alloc (Blk.alloc (Blk.alloc (Blk.alloc (Blk.newAt _ _ _ (by simp)) _) _) _) _) _) rfl rfl (by decide),Ints.nil _⟩
   | 2,h1,h2=>
    injection h1 with h1;injection h2 with h2;subst h1;subst h2;exact⟨_,_,_,rfl,by simp[CodeD.ok],uJ (cs:=#[.int .i64 0]) (Blk.alloc (Blk.alloc (Blk.alloc (Blk.alloc (Blk.newAt _ _ _ (by simp)) _) _) _) _) rfl rfl (by decide),Ints.nil _,Ints.nil _⟩
   | n+3,h1,h2=>simp at h1
  | n+1,h1,h2=>simp at h1
 ·exact(((((((((Av _ _).alloc (Aj _) _).alloc (by simp) _).alloc (by simp;omega) _).alloc (by simp;omega) _).alloc (by simp;omega) _).alloc (by simp;omega) _).alloc (by simp;omega) _).alloc (by simp;omega) _).alloc (by simp;omega) _
def smX(i:Nat):MaD:=stN hJ i (eJ hJ 0 [] yK)
def smE:MaD:=⟨[],⟨[],0,[],0,[],[]⟩,[5],0,3,true,none⟩
theorem aQx:smX 3=smE:=by rfl
theorem bYj:∀ i,i<3->(smX i).over=false
 | 0,_=>rfl
 | 1,_=>rfl
 | 2,_=>rfl
 | n+3,h=>by omega
theorem bKh:∀ i,i<4->(smX i).steps=i
 | 0,_=>rfl
 | 1,_=>rfl
 | 2,_=>rfl
 | 3,_=>rfl
 | n+4,h=>by omega
theorem aZt:(smX 0).over=false/\(smX 0).st.length=1/\wdM (smX 0)=1:=⟨rfl,rfl,rfl⟩
theorem bKi:∀ i,i<4->(smX i).first=none
 | 0,_=>rfl
 | 1,_=>rfl
 | 2,_=>rfl
 | 3,_=>rfl
 | n+4,h=>by omega
theorem qQ(w:Ab):UR w (.slice none 0 0) []:=⟨none,0,rfl,Src.nil _ _,Aj _,fun _=>rfl,⟨Aw _,by omega⟩,fun _ h=>by cases h⟩
theorem aWz(w:Ab):BR w (.slice none 0 0) []:=⟨none,0,rfl,Src.nil _ _,Aj _,fun _=>rfl,⟨Aw _,by omega⟩,fun _ h=>by cases h⟩
theorem bYk{x:Nat}(h:Blk w g 62 #[.int .u64 (x:Int)])(a:x<18446744073709551616):UR w (.slice (some ⟨g,0,none⟩) 1 1) [x]:=
 ⟨_,_,rfl,Blk.cWt h rfl,Aj _,(fun e=>by cases e),⟨by simp,by omega⟩,fun y b=>by rw[List.mem_singleton.1 b];exact a⟩
theorem bKj(a:Ac)(w:Ab)(hp:RowsV w a hJ):Ad cZ 6 #[a,.agg #[.slice none 0 0,.int .i64 0,.slice none 0 0,.int .i64 1,.slice none 0 0,.slice none 0 0],.int .i64 0,.slice none 0 0] w (aXb hJ yK 0 [] w):=
 aYl a _ _ hJ yK [] 0 ⟨[],[127]⟩ w hp ⟨_,_,_,_,rfl,aWz w,qQ w,qQ w,qQ w⟩ (qQ w) bQy wZ rfl ⟨rfl,fun k t n h=>by simp at h⟩
theorem bKk(C:KaC)(X:KaS)(w:Ab)(h:KRef C X w)(hp:C.p=hJ)(a:X.x=smX 3):Ad cZ 11 #[.pointer (some ⟨C.mm,0,none⟩)] w (aJr [5] ⟨[],0,[],0,[],[]⟩ 0 w):=by
 have hs:=(aJs 3).st;have h1:StOk C.p.env X.x.s:=(by rw[hp,a];exact hs);rw[aQx]at a;have:=bXo C X w h h1 (by rw[a];decide) (by rw[a];decide);rw[a]at this;exact this
theorem bXm(x:MaD)(i:Nat):sW x.st i<=wdM x:=by
 rw[<-aYo];unfold sW;rw[AK (l:=x.st.reverse) (i:=x.st.length) (by rw[Az];exact Aj _)];have h:=congrArg (fun l:List FrD=>(l.map fun f=>f.V.length).sum) (List.take_append_drop i x.st.reverse);simp only[List.map_append,List.sum_append]at h;omega
def SmI(C:KaC)(i:Nat)(wx:Ab):Prop:=∃ X:KaS,KRef C X wx/\X.x=smX i
theorem tQ(w:Ab)(N:Tabs w):Ad cZ 7 #[] w fun en w'=>en = .returned (.bool true)/\Below w.heap.size w w':=by
 have O:=cQ N;clear N;go_in;go_wp2_with fail;refine(bQz _).mono ?_;rintro en w1 ⟨v1,rfl,P,Q⟩;have an:=cQ P;have D:=cQ Q;clear P Q;go_wp2_with fail;refine(bKj _ _ an.out).mono ?_;rintro en w2 ⟨C,X,rfl,E,R,q1,S,f,q4,q5⟩;have E0:=cQ E;have F:=cQ R;have l:=cQ q1;have RC:=cQ S;have RX:=cQ (show X.x=smX 0 from f);have TT:=cQ (show Tabs C.w0 by rw[E];exact O.out.below D.out O.out.2.2);have x1:X.x.over=false:=(by rw[f];exact aZt.1);have x2:X.x.st.length=1:=(by rw[f];exact aZt.2.1);have x3:wdM X.x=1:=(by rw[f];exact aZt.2.2);have X1:=cQ x1;have T:=cQ x2;have U:=cQ x3;clear q1 S f q4 q5 E R x1 x2 x3;go_wp2_with fail;refine(mZ C X _ l.out).mono ?_;rintro e G ⟨rfl,rfl⟩;rw[X1.out];go_wp2_with fail;refine(aJu C X _ l.out).mono ?_;rintro e G ⟨rfl,rfl⟩;rw[T.out];go_wp2_with fail;refine(aJx C X _ l.out (fun i _=>Ay (bXm X.x i) (by rw[U.out];decide)) (by rw[T.out];decide)).mono ?_;rintro e G ⟨rfl,V⟩;rw[U.out];have R1:=cQ (show SmI C 0 G from⟨X,l.out.below V,RX.out⟩);clear V;go_wp2_with fail;go_loopw [32] (fun v wx=>∃ i:Nat,i<=3/\v = .int .i64 (i:Int)/\Hid (SmI C i wx)) (fun v _=>3 - (intOf v).toNat)
 case atStart=>exact⟨0,by omega,rfl,R1⟩
 case round=>
  obtain⟨i,hi,rfl,I⟩:=hrel;by_cases m:i<3
  ·have t1:decide ((i:Int)<3)=true:=(by simp;omega);obtain⟨Y,j,k⟩:=I.out;have n:=cQ j;have b:=cQ k;clear j k;have H:=bYj i m;rw[<-b.out]at H;have HO:=cQ H;have o:=cQ m;clear H m;go_wp2_with fail;refine(aZw C Y _ n.out RC.out TT.out (by rw[F.out,b.out];exact aJs i) (fun h=>absurd (by rw[b.out];exact bKi i (by have:=o.out;omega)) h) (by rw[b.out,bKh i (by have:=o.out;omega)];omega)).mono ?_;rintro en w5 ⟨rfl,Z,m1,m2,W⟩;rw[HO.out];have IZ:=cQ (show SmI C (i+1) w5 from⟨Z,m1,by rw[W,F.out,b.out];show dK hJ (stN hJ i _)=stN hJ (i+1) _;rw[vZ];rfl⟩);clear m1 m2 W;go_wp2;exact⟨⟨i+1,by have:=o.out;omega,by simp,IZ⟩,by have:=o.out;simp[intOf];omega⟩
  ·have t1:decide ((i:Int)<3)=false:=(by simp;omega);obtain rfl:i=3:=(by omega);obtain⟨Y,j,k⟩:=I.out;have n:=cQ j;have b:=cQ k;clear j k m I;go_wp2_with fail;refine(bKk C Y _ n.out F.out b.out).mono ?_;rintro en c ⟨v,a,g,i6,l6,rfl,o1,o2,o3,o4,o5,J,j1,j2,j3⟩;have U1:=cQ (show UR c v [5]from mY o1 (fun x hx=>by rw[List.mem_singleton.1 hx];decide) (by decide));obtain⟨B1,d1,rfl,_⟩:=cJ o1;obtain⟨p,q,rfl,_⟩:=cJ o2;obtain⟨r,s,rfl,_⟩:=cJ o3;obtain⟨t,u,rfl,_⟩:=cJ o4;obtain⟨y,z,rfl,_⟩:=cJ o5;have RB:=cQ (J.trans (((Av c.heap.size c).alloc (Aj _) (.cells #[.slice p 0 q,.int .i64 0,.slice r 0 s,.int .i64 0,.slice t 0 u,.slice y 0 z] 33)).mono J.size));have K:=cQ (U1.out.below ((Av c.heap.size c).alloc (Aj _) (.cells #[.slice p 0 q,.int .i64 0,.slice r 0 s,.int .i64 0,.slice t 0 u,.slice y 0 z] 33)) (Aj _));have A:=cQ (Blk.new c 33 #[.slice p 0 q,.int .i64 0,.slice r 0 s,.int .i64 0,.slice t 0 u,.slice y 0 z]);have d:=cQ (n.out.below RB.out);have ai:Y.x.over=true:=(by rw[b.out,aQx];rfl);have aj:(Y.x.steps:Int)=3:=(by rw[b.out,aQx];rfl);have ak:=cQ ai;have ao:=cQ aj;clear o1 o2 o3 o4 o5 J j1 j2 j3 aj ai U1;go_upto_region 10 with fail;obtain⟨w7,al⟩:=cX (c.alloc (.cells #[.slice p 0 q,.int .i64 0,.slice r 0 s,.int .i64 0,.slice t 0 u,.slice y 0 z] 33))
   try dsimp only[List.length_nil,AX]
   rw[al]at d K A ⊢;clear al RB;go_wp2_with fail;refine(mZ C Y _ d.out).mono ?_;rintro e w8 ⟨rfl,rfl⟩;rw[ak.out];go_wp2_with fail;refine(cQg C Y _ d.out ak.out).mono ?_;rintro e w8 ⟨rfl,rfl⟩;go_wp2_with fail;refine(bJb C Y _ d.out).mono ?_;rintro e w8 ⟨rfl,rfl⟩;rw[ao.out];go_wp2_with fail;have B:=(Av w7.heap.size w7).alloc (Aj _) (.cells #[.int .u64 5] 62);have U3:=cQ (K.out.below B (Aj _));have L:=cQ (A.out.below B A.out.lt);have RW:=cQ (d.out.below B);clear B;refine(xJ _ _ [5] [5] _ U3.out (bYk (Blk.new _ _ _) (by decide))).mono ?_;rintro en w9 ⟨rfl,M,rfl⟩;rw[decide_eq_true (rfl:([5]:List Nat) = [5])];obtain⟨k0,k1,k2,k3,k4,k5⟩:=eX (L.out.drewN M);have yk:=(L.out.drewN M).lt;have RL:=cQ (RW.out.drewN M);clear U3 L RW d A K;go_wp2;go_ret;refine⟨rfl,?_⟩;have h1:=RL.out.bel;rw[E0.out]at h1;exact D.out.trans (h1.mono D.out.size)
end Go.Proofs.YtabibkpfgmolkaaDoor
namespace Go.Proofs.YtabibkpfgmolkaaDoor
variable {w wx:Ab}{wd k dc N j g n:Nat}{l o O:List Nat}{e2 E:Int}{v a vs va:Ac}
theorem aYr{s:SigD}(h:sigOk s=true):s.inn.length<=8/\s.out.length<=8:=by
 unfold sigOk gY at h;simp only[Bool.and_eq_true,decide_eq_true_eq]at h;exact⟨h.1.1,h.2.1⟩
theorem bVu:∀ (a:List Int) (l:List Nat),lowL a (lowL a l)=lowL a l
 | [],l=>by cases l <;> rfl
 | t :: a,[]=>rfl
 | t :: a,n :: l=>by
  show jX t (jX t n) :: lowL a (lowL a l)=_;rw[bVu a l]
  congr 1
  unfold jX
  split <;> simp
theorem cJo{e:EnvD}{g:SigD}(h:envOk e=true)(hg:e.sigs[n]? = some g):g.inn.length<=8/\g.out.length<=8:=by
 unfold envOk at h;simp only[Bool.and_eq_true,decide_eq_true_eq]at h;have h2:=h.2;have:=List.mem_of_getElem? hg;exact aYr (by first | exact List.all_eq_true.1 h.2.2 g this | exact List.all_eq_true.1 h.2.1 g this | exact List.all_eq_true.1 h.2.1.1 g this | exact List.all_eq_true.1 h.2 g this | exact List.all_eq_true.1 h.2.2.2 g this)
theorem aZk{l:List RowD}(h:Structs 5 RowC w v l){x:RowD}(a:l[k]? = some x):
  ∃ b o p q r s,(∃ c,v = .slice (some ⟨b,o,none⟩) l.length c)/\b<w.heap.size/\w.cell? ⟨b,o+k*5,none⟩=some p/\w.cell? ⟨b,o+k*5+1,none⟩=some q/\w.cell? ⟨b,o+k*5+2,none⟩=some (.int .i64 x.places)/\w.cell? ⟨b,o+k*5+3,none⟩=some r/\w.cell? ⟨b,o+k*5+4,none⟩=some s /\
   Ints w p x.sig.inn/\Ints w q x.sig.out/\Ints w r x.params/\Structs 5 CodeC w s x.code:=by
 obtain⟨A,c,rfl,_⟩:=h.len;obtain⟨b,o,p,q,r,s,rfl,d⟩:=h.row a;exact⟨b,o,p,q,r,s,⟨c,rfl⟩,d⟩
theorem aXi:∀ (a:List Int) (l:List Nat),(lowL a l).length<=l.length
 | [],l=>by cases l <;> exact Aw _
 | t :: a,[]=>Aw _
 | t :: a,x :: l=>by simp only[lowL,AX];have:=aXi a l;omega
theorem bJe{p:RowsD}{lost d:Nat}{r:RowD}{V:List Nat}{s:StD}{R:ResD}(h:Ev p lost d r k V s R)(a:R.e≠0):R.out = []:=by
 induction h with
 | ret hc ha=>exact absurd rfl a
 | trap hc ha=>rfl
 | go hc ha hn b=>exact b a
 | vals hc ha hn b=>exact b a
 | call hc ha hd hq hg h1 he h2 ih1 ih2=>exact ih2 a
 | callT hc ha hd hq hg h1 he ih1=>rfl
 | deep hc ha hd=>rfl
def aYu(p:RowsD)(n:Int)(args:List Nat):Prop:=0<=n/\n<p.env.sigs.length/\∀ g,p.env.sigs[n.toNat]? = some g->GivP g.inn args
def stD(s:RawS):StD:=⟨s.mem,s.most,s.globals,s.fuel.toNat,s.input,s.log⟩
theorem cJu{ks:List Int}{m:Bool}{s:RawS}(h:HoldsP ks m s):RawS.of (stD s)=s:=by
 have:=h.f0;show RawS.mk s.mem s.most s.globals ((s.fuel.toNat:Nat):Int) s.input s.log=s;rw[Int.toNat_of_nonneg this]
theorem cJv{e:EnvD}{s:RawS}(h:HoldsP e.globals e.mem s)(h1:AllB s.mem)(h2:All64 s.globals)(a:All64 s.input)(b:All64 s.log):StOk e (stD s):=
 ⟨h1,h.le,h.mx,h.gl,h2,b,a,(by show s.input.length<=_;have:=h.il;omega),(by show s.fuel.toNat<=_;have:=h.f1;omega)⟩
theorem cJw{p:RowsD}(h:Structs 5 RowC w v p.fns):∀ (i:Nat) q,p.fns[i]? = Option.some q->∀ c∈q.code,c.n<18446744073709551616:=by
 intro i q hq c hc;obtain⟨b,o,p',q',r,s,_,_,_,_,_,_,_,_,_,_,a⟩:=aZk h hq;obtain⟨j,d⟩:=List.mem_iff_getElem?.1 hc;obtain⟨A,c',rfl,_⟩:=a.len;obtain⟨_,_,_,_,_,_,_,_,_,_,_,_,e,_⟩:=a.code d;exact e.1
theorem bVy{p:RowsD}(hp:ProgP p)(lost n:Nat){g:SigD}(a:List Nat)(s:StD)(hg:p.env.sigs[n]? = some g):∃ s2 e2 dc wd l,CDid p lost 0 n g a s s2 e2 dc wd l:=by
 by_cases hi:(n:Int)<p.env.imports
 ·exact⟨_,_,_,_,_,.host hi⟩
 ·have h1:=(List.getElem?_eq_some_iff.1 hg).1;have h2:=iX hp.env;have h3:=hp.len;obtain⟨q,hq⟩:∃ q,p.fns[n - p.env.imports.toNat]? = Option.some q:=⟨_,Ak (by omega)⟩;have hc:=(hp.row _ q hq).1;obtain⟨R,b⟩:=Ev.some hp lost hc (0+1) 0 (initV q (lowL g.inn a)) s (by have:=hc.n1;omega);exact⟨_,_,_,_,_,.call hi (by omega) hq b⟩
theorem bXb{p:RowsD}(hp:ProgP p){lost d:Nat}{g:SigD}{a:List Nat}{s s2:StD}(h:CDid p lost d n g a s s2 e2 dc wd l)(ha:a.length<=8):dc<=4098*s.fuel+1/\s2.log.length<=s.log.length+9*(dc+1)/\l.length<=s.input.length+8:=by
 cases h with
 | host hi=>
  have c:(lowL g.inn a).length<=8:=Ay (aXi _ _) ha;have h1:=aXh (n:=n) (outs:=g.out) (s:=s) c;refine⟨by omega,by omega,?_⟩;unfold hostV
  split
  ·rename_i h2;show(lowL g.out (s.input.take g.out.length)).length<=_;have:=aXi g.out (s.input.take g.out.length);rw[List.length_take]at this;omega
  ·exact Aw _
 | deep hi hd=>exact⟨by omega,by omega,Aw _⟩
 | @call q R hi hd hq h1=>
  have hc:=(hp.row _ q hq).1;refine⟨h1.dQc hp hc,?_,?_⟩
  ·have:=h1.log hp hc;omega
  ·by_cases b:R.e=0
   ·have h2:=h1.dQd hc b;have h3:=(aYr hc.sig).2;omega
   ·rw[bJe h1 b];exact Aw _
theorem cZi{s:RawS}(h:StV w v s):AllB s.mem/\All64 s.globals/\All64 s.input/\All64 s.log:=by
 obtain⟨a,g,i,l,_,⟨_,_,_,_,_,_,_,h1⟩,⟨_,_,_,_,_,_,_,h2⟩,⟨_,_,_,_,_,_,_,b⟩,⟨_,_,_,_,_,_,_,c⟩⟩:=h;exact⟨h1,h2,b,c⟩
end Go.Proofs.YtabibkpfgmolkaaDoor
namespace Go.Proofs.YtabibkpfgmolkaaDoor
variable {w wx:Ab}{wd k dc N j g n:Nat}{l o O:List Nat}{e2 E:Int}{v a vs va:Ac}
theorem bXn{p:RowsD}{n:Int}:aYu p n l↔cJk p n l:=by
 constructor
 ·rintro⟨h1,h2,b⟩;obtain⟨k,rfl⟩:=Int.eq_ofNat_of_zero_le h1;have a:p.env.sigs[k]? = some (p.env.sigs[k]'(by omega)):=Ak (by omega);exact⟨k,_,rfl,a,b _ a⟩
 ·rintro⟨k,g,rfl,hg,hv⟩;refine⟨by omega,by have:=(List.getElem?_eq_some_iff.1 hg).1;omega,fun c d=>?_⟩;have h1:p.env.sigs[k]? = some c:=d;rw[hg]at h1;cases h1;exact hv
theorem cQf{sd:StD}{s:RawS}(h:RawS.of sd=s):sd=stD s:=by
 subst h;cases sd;simp[stD,RawS.of]
structure GoodD (p:RowsD) (s:RawS) (k:Nat) (l:List Nat) (sd:StD) (g:SigD) (s2:StD) (e2:Int) (dc wd:Nat) (o:List Nat):Prop where
 hp:ProgP p
 hf:FitP p.env s
 hs:RawS.of sd=s
 hg:p.env.sigs[k]? = some g
 hv:GivP g.inn l
 hd:CDid p 8 0 k g l sd s2 e2 dc wd o
theorem GoodD.of{p:RowsD}{s:RawS}{n:Int}(hp:ProgP p)(hf:FitP p.env s)(ha:aYu p n l):∃ (k:Nat) (g:SigD) (s2:StD) (e2:Int) (dc wd:Nat) (o:List Nat),n=(k:Int)/\GoodD p s k l (stD s) g s2 e2 dc wd o:=by
 obtain⟨k,g,hn,hg,hv⟩:=bXn.1 ha;obtain⟨s2,e2,dc,wd,o,hd⟩:=bVy hp 8 k l (stD s) hg;exact⟨k,g,s2,e2,dc,wd,o,hn,hp,hf,cJu hf.2,hg,hv,hd⟩
theorem GoodD.bounds{p:RowsD}{s:RawS}{sd:StD}{g:SigD}{s2:StD}(h:GoodD p s k l sd g s2 e2 dc wd o):gQ p k dc<=4196353:=by
 have h1:=cJo h.hp.env h.hg;have h2:=h.hv.1;have h3:=(bXb h.hp h.hd (by omega)).1
 have h4:sd.fuel<=1024:=by
  have:=h.hf.2.f1;rw[<-h.hs]at this;have h5:(sd.fuel:Int)<=1024:=this;omega
 unfold gQ
 split <;> omega
theorem GoodD.hyps{p:RowsD}{s:RawS}{sd:StD}{g:SigD}{s2:StD}(h:GoodD p s k l sd g s2 e2 dc wd o){e:Ac}(hp:RowsV w e p)(hs:StV w vs s)(ha:UR w va l):
  (∀ i,i<=gQ p k dc->MOk p (stN p i (eJ p k l sd)))/\(∀ i,i<gQ p k dc->(stN p i (eJ p k l sd)).over=false)/\(stN p (gQ p k dc) (eJ p k l sd)).over=true/\(∀ i,i<=gQ p k dc->(stN p i (eJ p k l sd)).steps=i)/\(∀ i,(stN p i (eJ p k l sd)).first≠none->(eJ p k l sd).first≠none):=by
 obtain⟨a,b,d,f,rfl,r1,r2,r3,j⟩:=hp;have c:=cZi hs;have h1:=cJv h.hf.2 c.1 c.2.1 c.2.2.1 c.2.2.2;rw[<-cQf h.hs]at h1;obtain⟨_,_,_,_,_,_,_,m⟩:=ha;refine bYz h.hp (cJw j) h1 h.hg h.hv.1.symm m ?_ h.hd;have:=h.hf.2.ll;rw[<-h.hs]at this;exact this
theorem GoodD.cYh{p:RowsD}{s:RawS}{sd:StD}{g:SigD}{s2:StD}(h:GoodD p s k l sd g s2 e2 dc wd o):stN p (gQ p k dc) (eJ p k l sd)=⟨[],s2,if e2=0 then o else[],e2,gQ p k dc,true,(eJ p k l sd).first⟩:=(aXc h.hg h.hd).1
theorem bZz{e:TypeId}{b c d f h i j:Ac}(k:Blk w g e #[a,b,c,d,f,h,i,j]):
  w.cell? ⟨g,0,none⟩=some a/\w.cell? ⟨g,1,none⟩=some b/\w.cell? ⟨g,2,none⟩=some c/\w.cell? ⟨g,3,none⟩=some d/\w.cell? ⟨g,4,none⟩=some f/\w.cell? ⟨g,5,none⟩=some h/\w.cell? ⟨g,6,none⟩=some i/\w.cell? ⟨g,7,none⟩=some j:=
 ⟨by simpa using k.cell 0,by simpa using k.cell 1,by simpa using k.cell 2,by simpa using k.cell 3,by simpa using k.cell 4,by simpa using k.cell 5,by simpa using k.cell 6,by simpa using k.cell 7⟩
def aYg(w:Ab)(en:Ending)(w':Ab):Prop:=en = .returned (.bool true)/\Below w.heap.size w w'
theorem aZx{g i l:Ac}{s:RawS}{x y:Int}(h:StV w (.agg #[a,.int .i64 x,g,.int .i64 y,i,l]) s):∃ A m B n C k D j,a = .slice A s.mem.length m/\g = .slice B s.globals.length n/\i = .slice C s.input.length k/\l = .slice D s.log.length j:=by
 obtain⟨a1,g1,i1,l1,e,h1,h2,b,c⟩:=h;injection e with e;injection e with e;simp only[List.cons.injEq,and_true]at e;obtain⟨rfl,_,rfl,_,rfl,rfl⟩:=e;obtain⟨A,m,rfl⟩:=h1.shape;obtain⟨B,n,rfl⟩:=h2.shape;obtain⟨C,k,rfl⟩:=b.shape;obtain⟨D,j,rfl⟩:=c.shape;exact⟨A,m,B,n,C,k,D,j,rfl,rfl,rfl,rfl⟩
structure ModS (s:RawS):Prop where
 b:AllB s.mem
 g:All64 s.globals
 i:All64 s.input
 l:All64 s.log
 bl:s.mem.length<=140737488355328
 gl:s.globals.length<=17592186043904
 il:s.input.length<=17592186043904
 ll:s.log.length<=17592186043904
theorem bVd{e:EnvD}{s:StD}(h:StOk e s)(he:envOk e=true)(hl:s.log.length<=1000000000):ModS (RawS.of s):=by
 have h1:=h.cWy;have h2:=aKs he;have h3:=h.glen;have h4:=h.ilen;exact⟨h.memB,h.g64,h.i64,h.l64,by show s.mem.length<=_;omega,by show s.globals.length<=_;omega,by show s.input.length<=_;omega,by show s.log.length<=_;omega⟩
theorem GoodD.cYo{p:RowsD}{s:RawS}{sd:StD}{g:SigD}{s2:StD}(h:GoodD p s k l sd g s2 e2 dc wd o)(hp:RowsV w a p)(hs:StV w vs s)(ha:UR w va l):ModS (RawS.of s2)/\All64 (if e2=0 then o else[])/\(if e2=0 then o else[]).length<=1000000:=by
 have h1:=(h.hyps hp hs ha).1 _ (Aj _);rw[h.cYh]at h1;have h2:=h1.log;have h3:=h.bounds;have b:=h1.olen;exact⟨bVd h1.st h.hp.env (by have c:s2.log.length<=4096+9*gQ p k dc:=h2;omega),h1.o64,by have c:(if e2=0 then o else[]).length<=200000:=b;omega⟩
theorem ask21_open{H:Type}{enc:TypeId×Ac->H}{r:Reach}{o:Nat}{d:DataW H}{q:List MemPlace}(hv:Value.okWide cZ w r o 35 v)(h:DataW.Trod enc cZ w 0 (fun _=>true) true 35 v d q)(hs:zZ cZ 35 d):∃ p,aYq w v p:=by
 obtain⟨cs,rfl⟩:=bKf (t:=35) (fs:=_) underlying35 hv;obtain⟨fuel,hf⟩:=h;obtain⟨n,b,u⟩:=dY underlying35 hf hs 0 0 1 3 rfl xY rfl rfl ci;obtain⟨l,v1,c,x⟩:=dY underlying35 hf hs 1 1 1 30 rfl aZd rfl rfl aWm;obtain⟨s,e2⟩:=dY underlying35 hf hs 2 2 6 33 rfl cQn rfl rfl cst;obtain⟨_,_,_,_,y,_,_⟩:=DataW.trod_struct underlying35 hf;have j:(Value.agg cs).cells.toList.length=8:=y.trans (by kernel_rfl);have hc:(Value.agg cs).cells.toList=cs.toList:=rfl;rw[hc]at b c e2 j
 match k:cs.toList,j with
 | [x0,x1,x2,x3,x4,x5,e,f],_=>
  rw[k]at b c e2;obtain⟨a,g,i,lg,hq,h1,h2,z,A⟩:=e2;simp at hq b c;obtain⟨rfl,rfl,rfl,rfl,rfl,rfl⟩:=hq;subst b;subst c;have m:=aJg u;refine⟨⟨n,l,s⟩,x1,x2,s.most,x4,s.fuel,e,f,?_,m.1,m.2,x,⟨x2,x4,e,f,rfl,h1,h2,z,A⟩,rfl,rfl⟩
  have:cs=#[.int .i64 n,x1,x2,.int .i64 s.most,x4,.int .i64 s.fuel,e,f]:=by
   apply Array.ext';rw[k]
  rw[this]
theorem aJt{l:List FrD}{b:Nat}(h:∀ f∈l,f.V.length<=b):(l.map fun f=>f.V.length).sum<=l.length*b:=by
 induction l with
 | nil=>simp
 | cons f l a=>
  have h1:=h f (List.mem_cons_self ..);have h2:=a (fun q hq=>h q (List.mem_cons_of_mem _ hq));simp only[List.map_cons,List.sum_cons,AX,Nat.add_mul];omega
theorem bVj{p:RowsD}{x:MaD}(hp:ProgP p)(h:MOk p x):wdM x<=65536:=by
 have h1:wdM x<=x.st.length*4096:=aJt fun f hf=>by
  have h2:=h.frs f hf;have h3:=(hp.row _ _ h2.row).1.p2;have:=h2.len;omega
 have:=h.depth;omega
theorem bVk{p:RowsD}{s:RawS}{sd:StD}{g:SigD}{s2:StD}(h:GoodD p s k l sd g s2 e2 dc wd o)(a vs va:Ac)(w:Ab)(hp:RowsV w a p)(hs:StV w vs s)(ha:UR w va l):
  Ad cZ 6 #[a,vs,.int .i64 (k:Int),va] w (aXb p sd k l w):=by
 have hf:=h.hf;have b:=hs;rw[<-h.hs]at hf b;exact aYl a vs va p sd l k g w hp b ha hf h.hp h.hg h.hv
structure PvI (C:KaC) (X0:KaS) (wz:Ab) (x0:MaD) (j:Nat) (wx:Ab):Prop where
 ex:∃ X,KRef C X wx/\KK X0 X wz wx/\X.x=stN C.p j x0
structure PvK (C:KaC) (x0:MaD) (N:Nat) (s2:StD) (O:List Nat) (E:Int) (wd:Nat):Prop where
 ok:∀ i,i<=N->MOk C.p (stN C.p i x0)
 no:∀ i,i<N->(stN C.p i x0).over=false
 st:∀ i,i<=N->(stN C.p i x0).steps=i
 fi:∀ i,(stN C.p i x0).first≠none->x0.first≠none
 en:stN C.p N x0=⟨[],s2,O,E,N,true,x0.first⟩
 wd:mwM C.p N x0=wd
 hp:ProgP C.p
 hN:N<=4196353
theorem GoodD.pvk{p:RowsD}{s:RawS}{sd:StD}{g:SigD}{s2:StD}(h:GoodD p s k l sd g s2 e2 dc wd o)(hp:RowsV w a p)(hs:StV w vs s)(ha:UR w va l)(C:KaC)(b:C.p=p):
  PvK C (eJ p k l sd) (gQ p k dc) s2 (if e2=0 then o else[]) e2 wd:=by
 subst b;obtain⟨h1,h2,h3,c,d⟩:=h.hyps hp hs ha;exact⟨h1,h2,c,d,h.cYh,(aXc h.hg h.hd).2.2,h.hp,h.bounds⟩
theorem cWn{C:KaC}{X0:KaS}{wz:Ab}{x0:MaD}{s2:StD}(a:PvK C x0 N s2 O E wd)(c:KC C)(d:Tabs C.w0)(hf:x0.first≠none->C.fv = .func (.func 23) #[] #[.pointer (some ⟨C.nb,0,none⟩),.pointer (some ⟨C.ab,0,none⟩)])(h:PvI C X0 wz x0 j wx)(e:j<N):
  Ad cZ 12 #[.pointer (some ⟨C.mm,0,none⟩)] wx fun en w'=>en = .returned (.bool true)/\PvI C X0 wz x0 (j+1) w':=by
 obtain⟨X,h1,h2,b⟩:=h.ex;refine(aZw C X wx h1 c d (by rw[b];exact a.ok j (by omega)) (fun f=>hf (a.fi j (by rw[<-b];exact f))) (by rw[b,a.st j (by omega)];have:=a.hN;omega)).mono ?_;rintro en w' ⟨rfl,Y,g,i,k⟩;refine⟨by rw[b,a.no j e];rfl,⟨Y,g,h2.trans i,by rw[k,b,vZ];rfl⟩⟩
def PvJ(C:KaC)(x0:MaD)(j:Nat)(wx:Ab):Prop:=∃ X,KRef C X wx/\X.x=stN C.p j x0
theorem aVj{p:RowsD}{y:MaD}(h:y.over=true):∀ d,stN p d y=y
 | 0=>rfl
 | d+1=>by
  have h1:dK p y=y:=(by unfold dK;rw[if_pos h]);show stN p d (dK p y)=y;rw[h1];exact aVj h d
theorem aYn{p:RowsD}{x0:MaD}(h:(stN p N x0).over=true)(hj:N<=j):stN p j x0=stN p N x0:=by
 obtain⟨d,rfl⟩:∃ d,j=N+d:=⟨j - N,by omega⟩;rw[vZ];exact aVj h d
theorem PvK.over{C:KaC}{x0:MaD}{N:Nat}{s2:StD}{O:List Nat}{E:Int}{wd:Nat}(a:PvK C x0 N s2 O E wd):(stN C.p N x0).over=true:=by rw[a.en]
theorem PvK.cut{C:KaC}{x0:MaD}{s2:StD}(a:PvK C x0 N s2 O E wd)(j:Nat):∃ i,i<=N/\stN C.p j x0=stN C.p i x0/\(j<N->i=j)/\(N<=j->i=N):=by
 rcases AZ j N with h | h
 ·exact⟨j,by omega,rfl,fun _=>rfl,fun h2=>by omega⟩
 ·exact⟨N,Aj _,aYn a.over h,fun h2=>by omega,fun _=>rfl⟩
theorem bXp{C:KaC}{x0:MaD}{s2:StD}(a:PvK C x0 N s2 O E wd)(c:KC C)(d:Tabs C.w0)(hf:x0.first≠none->C.fv = .func (.func 23) #[] #[.pointer (some ⟨C.nb,0,none⟩),.pointer (some ⟨C.ab,0,none⟩)])(h:PvJ C x0 j wx):
  Ad cZ 12 #[.pointer (some ⟨C.mm,0,none⟩)] wx fun en w'=>en = .returned (.bool (decide (j<N)))/\PvJ C x0 (j+1) w':=by
 obtain⟨X,h1,b⟩:=h;obtain⟨i,hi,he,aa,ad⟩:=a.cut j;refine(aZw C X wx h1 c d (by rw[b,he];exact a.ok i hi) (fun e=>hf (a.fi j (by rw[<-b];exact e))) (by rw[b,he,a.st i hi];have:=a.hN;omega)).mono ?_;rintro en w' ⟨rfl,Y,f,y2,g⟩;refine⟨?_,⟨Y,f,by rw[g,b,vZ];rfl⟩⟩;rcases AZ j N with h | h
 ·rw[b,a.no j h,decide_eq_true h];rfl
 ·rw[b,aYn a.over h,a.over,decide_eq_false (by omega)];rfl
theorem cJn{C:KaC}{X:KaS}{x0:MaD}{s2:StD}(a:PvK C x0 N s2 O E wd)(h:KRef C X wx)(b:X.x=stN C.p j x0):
  Ad cZ 11 #[.pointer (some ⟨C.mm,0,none⟩)] wx (aJr X.x.out (RawS.of X.x.s) X.x.e wx):=by
 obtain⟨i,hi,he,_⟩:=a.cut j;have h1:=a.ok i hi;have h2:=a.st i hi;rw[<-he,<-b]at h1 h2;exact bXo C X wx h h1.st (by rw[h1.st.glen];exact Ay (aKs a.hp.env) (by decide)) (by have h3:=h1.log;have:=a.hN;omega)
def aWk(p:RowsD)(j:Nat)(m:Nat):Prop:=m<=4096/\∀ (i:Nat) r,i<j->p.fns[i]? = some r->r.places<=(m:Int)
theorem bYm{C:KaC}{x:MaD}{m:Nat}(h:MOk C.p x)(a:aWk C.p C.p.fns.length m):wdM x<=x.st.length*m:=aJt fun f hf=>by
 have h2:=h.frs f hf;have h3:=a.2 _ _ (List.getElem?_eq_some_iff.1 h2.row).1 h2.row;have:=h2.len;omega
theorem aJk(p:RowsD)(q:AskD)(E F:Ac)(w:Ab)(hv:RowsV w E p)(hq:aYq w F q)(x:Tabs w)(y:¬(ProgP p/\FitP p.env q.s)):Ad cZ 3 #[E,F] w (aYg w):=by
 have G:=hv;obtain⟨c,p2,d,e,rfl,_⟩:=hv;obtain⟨qa,qm,qi,qg,qj,qh,ql,rfl,z,A,B,C,rfl,rfl⟩:=hq;obtain⟨f,g,i,j,k,l,m,o,rfl,rfl,rfl,rfl⟩:=aZx C;obtain⟨r,t,rfl⟩:=B.shape;obtain⟨n,hn⟩:=cX q.n;rw[hn]at z A ⊢
 try rw[hn]at y
 have I:=cQ y;have J:=cQ G;have K:=cQ B;have L:=cQ C;have M:=cQ x;have O:=cQ (show 2<=w.heap.size from x.2.2);have aN:=cQ (And.intro z A);have a:=cQ (vJ w (.cells #[c,.int .i64 p.env.imports,p2,d,.bool p.env.mem,e] 29) (.cells #[.int .i64 n,.slice r q.args.length t,.slice f q.s.mem.length g,.int .i64 q.s.most,.slice i q.s.globals.length j,.int .i64 q.s.fuel,.slice k q.s.input.length l,.slice m q.s.log.length o] 35));have u:=cQ (Blk.alloc (Blk.new w 29 #[c,.int .i64 p.env.imports,p2,d,.bool p.env.mem,e]) (.cells #[.int .i64 n,.slice r q.args.length t,.slice f q.s.mem.length g,.int .i64 q.s.most,.slice i q.s.globals.length j,.int .i64 q.s.fuel,.slice k q.s.input.length l,.slice m q.s.log.length o] 35));have v:=cQ (Blk.newAt (w.alloc (.cells #[c,.int .i64 p.env.imports,p2,d,.bool p.env.mem,e] 29)) (N:=w.heap.size+1) 35 #[.int .i64 n,.slice r q.args.length t,.slice f q.s.mem.length g,.int .i64 q.s.most,.slice i q.s.globals.length j,.int .i64 q.s.fuel,.slice k q.s.input.length l,.slice m q.s.log.length o] (by simp));clear G B C hn z A x;clear y;go_in;go_upto_region 1 with fail;obtain⟨w0,H⟩:=cX ((w.alloc (.cells #[c,.int .i64 p.env.imports,p2,d,.bool p.env.mem,e] 29)).alloc (.cells #[.int .i64 n,.slice r q.args.length t,.slice f q.s.mem.length g,.int .i64 q.s.most,.slice i q.s.globals.length j,.int .i64 q.s.fuel,.slice k q.s.input.length l,.slice m q.s.log.length o] 35));rw[H]at a u v ⊢;clear H;obtain⟨P,Q,R,S,T,U⟩:=eX u.out;have V:=u.out.lt;obtain⟨W,X,Y,Z,aI,aJ,aK,aL⟩:=bZz v.out;have aM:=v.out.lt;go_wp2_with fail;refine(cQb _ _ _ p q.s _ q.args _ (J.out.below a.out (Aj _)) (L.out.below a.out (Aj _)) (K.out.below a.out (Aj _)) (fun h=>absurd (And.intro h.2 h.1) I.out)).mono ?_;rintro en c1 ⟨rfl,b⟩;have D:=cQ (a.out.trans (b.mono a.out.size));clear b u v a P Q R S T U V W X Y Z aI aJ aK aL aM;go_wp2_with fail;refine(tQ _ (M.out.below D.out O.out)).mono ?_;rintro en c4 ⟨rfl,b⟩;have B4:=cQ (D.out.trans (b.mono D.out.size));clear b;go_wp2;go_ret;exact⟨rfl,B4.out⟩
theorem aKo(p:RowsD)(q:AskD)(E F:Ac)(w:Ab)(hv:RowsV w E p)(hq:aYq w F q)(x:Tabs w)(G:ProgP p)(H:FitP p.env q.s)(y:¬aYu p q.n q.args):Ad cZ 3 #[E,F] w (aYg w):=by
 have K:=cQ G;have L:=cQ H;clear G H;have I:=hv;obtain⟨c,p2,d,e,rfl,_⟩:=hv;obtain⟨qa,qm,qi,qg,qj,qh,ql,rfl,z,A,B,C,rfl,rfl⟩:=hq;obtain⟨f,g,i,j,k,l,m,o,rfl,rfl,rfl,rfl⟩:=aZx C;obtain⟨r,t,rfl⟩:=B.shape;obtain⟨n,hn⟩:=cX q.n;rw[hn]at z A ⊢
 try rw[hn]at y
 have M:=cQ y;have O:=cQ I;have P:=cQ B;have Q:=cQ C;have R:=cQ x;have S:=cQ (show 2<=w.heap.size from x.2.2);have aR:=cQ (And.intro z A);have a:=cQ (vJ w (.cells #[c,.int .i64 p.env.imports,p2,d,.bool p.env.mem,e] 29) (.cells #[.int .i64 n,.slice r q.args.length t,.slice f q.s.mem.length g,.int .i64 q.s.most,.slice i q.s.globals.length j,.int .i64 q.s.fuel,.slice k q.s.input.length l,.slice m q.s.log.length o] 35));have u:=cQ (Blk.alloc (Blk.new w 29 #[c,.int .i64 p.env.imports,p2,d,.bool p.env.mem,e]) (.cells #[.int .i64 n,.slice r q.args.length t,.slice f q.s.mem.length g,.int .i64 q.s.most,.slice i q.s.globals.length j,.int .i64 q.s.fuel,.slice k q.s.input.length l,.slice m q.s.log.length o] 35));have v:=cQ (Blk.newAt (w.alloc (.cells #[c,.int .i64 p.env.imports,p2,d,.bool p.env.mem,e] 29)) (N:=w.heap.size+1) 35 #[.int .i64 n,.slice r q.args.length t,.slice f q.s.mem.length g,.int .i64 q.s.most,.slice i q.s.globals.length j,.int .i64 q.s.fuel,.slice k q.s.input.length l,.slice m q.s.log.length o] (by simp));clear I B C hn z A x;clear y;go_in;go_upto_region 1 with fail;obtain⟨w0,J⟩:=cX ((w.alloc (.cells #[c,.int .i64 p.env.imports,p2,d,.bool p.env.mem,e] 29)).alloc (.cells #[.int .i64 n,.slice r q.args.length t,.slice f q.s.mem.length g,.int .i64 q.s.most,.slice i q.s.globals.length j,.int .i64 q.s.fuel,.slice k q.s.input.length l,.slice m q.s.log.length o] 35));rw[J]at a u v ⊢;clear J;obtain⟨T,U,V,W,X,Y⟩:=eX u.out;have Z:=u.out.lt;obtain⟨aI,aJ,aK,aL,aM,aN,aO,aP⟩:=bZz v.out;have aQ:=v.out.lt;go_wp2_with fail;refine(cZc _ _ _ p q.s _ q.args _ (O.out.below a.out (Aj _)) (Q.out.below a.out (Aj _)) (P.out.below a.out (Aj _)) L.out K.out (fun h=>absurd (bXn.2 h) M.out)).mono ?_;rintro en c1 ⟨rfl,b⟩;have D:=cQ (a.out.trans (b.mono a.out.size));clear b u v a T U V W X Y Z aI aJ aK aL aM aN aO aP aQ;go_wp2_with fail;refine(tQ _ (R.out.below D.out S.out)).mono ?_;rintro en c4 ⟨rfl,b⟩;have B4:=cQ (D.out.trans (b.mono D.out.size));clear b;go_wp2;go_ret;exact⟨rfl,B4.out⟩
theorem aJl(p:RowsD)(q:AskD)(vp vq:Ac)(w:Ab)(hv:RowsV w vp p)(hq:aYq w vq q)(hT:Tabs w)(aD:ProgP p)(aW:FitP p.env q.s)(aX:aYu p q.n q.args):Ad cZ 3 #[vp,vq] w (aYg w):=by
 have aE:=cQ aD;have R:=hv;obtain⟨S,p2,T,U,rfl,_⟩:=hv;obtain⟨qa,qm,qi,qg,qj,qh,ql,rfl,aF,aG,L,M,rfl,rfl⟩:=hq;obtain⟨V,W,Z,ar,QI,au,QL,aw,rfl,rfl,rfl,rfl⟩:=aZx M;obtain⟨ax,ay,rfl⟩:=L.shape;obtain⟨k,g,s2,e2,dc,wd,o,hn,az⟩:=GoodD.of aD aW aX;rw[hn]at aF aG ⊢;obtain⟨O,hO⟩:∃ O,(if e2=0 then o else[])=O:=⟨_,rfl⟩;obtain⟨E,hE⟩:=cX e2;have bn:=cQ az;have bo:=cQ (az.cYo R M L);rw[hO]at bo;obtain⟨NS,aY⟩:=cX (gQ p k dc);have aH:=cQ (fun(C:KaC) (hC:C.p=p)=>az.pvk R M L C hC);rw[hO,hE,aY]at aH;clear aY;have HO:=cQ hO;have HE:=cQ hE;have HV:=cQ R;have HA:=cQ L;have HS:=cQ M;have HT:=cQ hT;have aZ:=cQ (show 2<=w.heap.size from hT.2.2);have bO:=cQ (And.intro aF aG);have t:=cQ (vJ w (.cells #[S,.int .i64 p.env.imports,p2,T,.bool p.env.mem,U] 29) (.cells #[.int .i64 (k:Int),.slice ax q.args.length ay,.slice V q.s.mem.length W,.int .i64 q.s.most,.slice Z q.s.globals.length ar,.int .i64 q.s.fuel,.slice QI q.s.input.length au,.slice QL q.s.log.length aw] 35));have D:=cQ (Blk.alloc (Blk.new w 29 #[S,.int .i64 p.env.imports,p2,T,.bool p.env.mem,U]) (.cells #[.int .i64 (k:Int),.slice ax q.args.length ay,.slice V q.s.mem.length W,.int .i64 q.s.most,.slice Z q.s.globals.length ar,.int .i64 q.s.fuel,.slice QI q.s.input.length au,.slice QL q.s.log.length aw] 35));have KA:=cQ (Blk.newAt (w.alloc (.cells #[S,.int .i64 p.env.imports,p2,T,.bool p.env.mem,U] 29)) (N:=w.heap.size+1) 35 #[.int .i64 (k:Int),.slice ax q.args.length ay,.slice V q.s.mem.length W,.int .i64 q.s.most,.slice Z q.s.globals.length ar,.int .i64 q.s.fuel,.slice QI q.s.input.length au,.slice QL q.s.log.length aw] (by simp));clear R L M hn aF aG hT;clear aD aW aX az hO hE;go_in;go_upto_region 1 with fail;obtain⟨w0,a6⟩:=cX ((w.alloc (.cells #[S,.int .i64 p.env.imports,p2,T,.bool p.env.mem,U] 29)).alloc (.cells #[.int .i64 (k:Int),.slice ax q.args.length ay,.slice V q.s.mem.length W,.int .i64 q.s.most,.slice Z q.s.globals.length ar,.int .i64 q.s.fuel,.slice QI q.s.input.length au,.slice QL q.s.log.length aw] 35));rw[a6]at t D KA ⊢;clear a6;obtain⟨aI,aJ,aK,aL,aM,aA⟩:=eX D.out;have aN:=D.out.lt;obtain⟨bp,bq,br,bs,bt,bu,bw,bx⟩:=bZz KA.out;have bz:=KA.out.lt;go_wp2_with fail;refine(bVk bn.out _ _ _ _ (HV.out.below t.out (Aj _)) (HS.out.below t.out (Aj _)) (HA.out.below t.out (Aj _))).mono ?_;rintro en c1 ⟨C,X,rfl,e0,e1,q1,q2,q3,q4,f⟩;obtain⟨x0,a7⟩:=cX (eJ p k q.args (stD q.s));have l:=cQ (aH.out C e1);rw[a7]at l q3;have RF:=cQ (show x0.first≠none->C.fv = .func (.func 23) #[] #[.pointer (some ⟨C.nb,0,none⟩),.pointer (some ⟨C.ab,0,none⟩)]from fun h=>q4 (by rw[q3];exact h));have RC:=cQ q2;have TT:=cQ (show Tabs C.w0 by rw[e0];exact HT.out.below t.out aZ.out);have z:=cQ (show Below w.heap.size w C.w0 by rw[e0];exact t.out);have B1:=cQ (t.out.trans (f.mono t.out.size));rw[<-e0]at D KA;have J0:=cQ (show PvJ C x0 0 c1 from⟨X,q1,q3⟩);have EP:=cQ e1;clear f q1 q2 q3 q4 e0 e1 a7 aH t aI aJ aK aL aM aA aN bp bq br bs bt bu bw bx bz;go_wp2_with fail;refine(tQ _ (HT.out.below B1.out aZ.out)).mono ?_;rintro en c3 ⟨rfl,f⟩
 have J3:=cQ (show PvJ C x0 0 c3 by obtain⟨Y,c,y⟩:=J0.out;exact⟨Y,c.below f,y⟩);clear f J0 B1;obtain⟨Y,c,y⟩:=J3.out;have bA:=cQ (z.out.trans (c.bel.mono z.out.size));have aO:=cQ (D.out.below c.bel D.out.lt);clear c y Y;obtain⟨aI,aJ,aK,aL,aM,aA⟩:=eX aO.out;have aN:=aO.out.lt;obtain⟨va,vb,vd,vf,F,bB,bC,bD,aP⟩:=HV.out;injection F with F;injection F with F;simp only[List.cons.injEq,and_true]at F;obtain⟨rfl,_,rfl,rfl,_,rfl⟩:=F;obtain⟨FA,fc,rfl,_,a8,_⟩:=aP.len;have aQ:=cQ aP;obtain⟨nf,aB⟩:∃ n,p.fns.length=n:=⟨_,rfl⟩;have P:=cQ aB;rw[aB]at aA aQ a8;clear bB bC bD aP aB a8;go_wp2_with fail;go_loopw [7,9,41] (fun v u i wx=>∃ (j m:Nat),j<=nf/\i = .int .i64 (j:Int)/\v = .int .i64 (m:Int)/\Hid (PvJ C x0 0 wx/\aWk p j m)) (fun _ _ i _=>nf - (intOf i).toNat)
 case atStart=>exact⟨0,0,by omega,rfl,rfl,cQ ⟨J3.out,by omega,fun i r h=>by omega⟩⟩
 case round=>
  obtain⟨j,m,hj,rfl,rfl,I⟩:=hrel;clear J3 aI aJ aK aL aM aA aN aO bA;by_cases G:j<nf
  ·as_aux_lemma=>
   have t1:decide ((j:Int)<(nf:Int))=true:=(by simp;omega);have t2:(j:Int)<(nf:Int):=(by omega);obtain⟨Y,c,y⟩:=I.out.1;obtain⟨r,hr⟩:∃ r,p.fns[j]? = some r:=⟨_,Ak (by have:=P.out;omega)⟩;obtain⟨b,o',u0,u1,u3,u4,⟨c',he⟩,f,d0,d1,d2,d3,d4,ba,bb,bc,bd⟩:=aZk (aQ.out.below (z.out.trans (c.bel.mono z.out.size)) (Aj _) (fun r x q=>q.below (z.out.trans (c.bel.mono z.out.size)) (Aj _))) hr;rw[P.out]at he;injection he with bE _ _;subst bE;obtain⟨U0,V0,rfl⟩:=ba.shape;obtain⟨U1,V1,rfl⟩:=bb.shape;obtain⟨U3,V3,rfl⟩:=bc.shape;obtain⟨U4,V4,rfl,_⟩:=bd.len;have aR:=(aE.out.row _ _ hr).1;have bF:=aR.p1;have be:=aR.p2;obtain⟨pl,ad⟩:∃ pl:Nat,r.places=(pl:Int):=⟨r.places.toNat,by omega⟩;rw[ad]at d2 be
   have aB:nf<=64:=by
    have h1:=aE.out.len;have h2:=iX aE.out.env;have h3:=P.out;omega
   have aS:IntKind.i64.wrap ((j:Int)+1)=((j+1:Nat):Int):=(by rw[show(j:Int)+1=((j+1:Nat):Int) by omega];exact AJ _ (by omega));have bG:=cQ (fun cs e=>(show PvJ C x0 0 (wr.alloc (.cells cs e))from⟨Y,c.below ((Av _ _).alloc (Aj _) _),y⟩))
   have bH:=cQ (show aWk p (j+1) (max m pl)from⟨by have:=I.out.2.1;omega,fun i r' hi h=>by
    rcases AZ i j with h1 | h1
    ·have:=I.out.2.2 i r' h1 h;omega
    ·have h2:i=j:=(by omega);subst h2;rw[hr]at h;injection h with h;subst h;rw[ad]
     omega⟩)
   have yb:b<wr.heap.size:=f;clear c y I hr aR bF be ad ba bb bc bd f;go_wp2;exact⟨⟨j+1,max m pl,by omega,rfl,congrArg (Value.int .i64) (by omega),cQ ⟨bG.out _ _,bH.out⟩⟩,by simp[intOf];omega⟩
  ·have t1:decide ((j:Int)<(nf:Int))=false:=(by simp;omega);obtain rfl:nf=j:=(by omega);have HM:=cQ (show aWk C.p C.p.fns.length m by rw[EP.out,P.out];exact I.out.2);have J4:=cQ I.out.1;have bI:=I.out.2.1;clear I G t1 hj aQ P;go_wp2_with fail;go_loopw [10,11,12,13,14,15] (fun i _ _ _ _ _ wx=>∃ j:Nat,j<=NS/\i = .int .i64 (j:Int)/\Hid (PvJ C x0 j wx)) (fun i _ _ _ _ _ _=>NS - (intOf i).toNat)
   case atStart=>exact⟨0,by omega,rfl,J4⟩
   case round=>
    as_aux_lemma=>
    obtain⟨j,hj,rfl,I⟩:=hrel;clear J4;have bJ:=l.out.hN;have t1:decide ((j:Int)<8388608)=true:=(by simp;omega);obtain⟨Y,c,y⟩:=I.out;have A:=cQ c;have B:=cQ y;clear c y I;by_cases G:j<NS
    ·have H:MOk C.p Y.x:=(by rw[B.out];exact l.out.ok j hj);have aT:Y.x.over=false:=(by rw[B.out];exact l.out.no j G);have aU:=bYm H HM.out;have bf:=bVj l.out.hp H;have bL:=cQ H.depth;have bg:=cQ (H.go aT);have aC:=cQ aT;obtain⟨d,hd⟩:=cX Y.x.st.length;obtain⟨a,ha⟩:=cX (wdM Y.x);have ae:=H.depth;rw[hd,ha]at aU;rw[hd]at ae;rw[ha]at bf;have HD:=cQ hd;have bM:=cQ ha;have J:=cQ G;have bh:d*m<=65536:=Ay (Nat.mul_le_mul ae bI) (by decide);obtain⟨dm,aV⟩:=cX (d*m);rw[aV]at aU bh;have hmul:IntKind.i64.wrap ((d:Int)*(m:Int))=(dm:Int):=(by rw[show(d:Int)*(m:Int)=((d*m:Nat):Int) by simp,aV];exact AJ _ (by omega));have u1:decide ((d:Int)<0)=false:=(by simp);have u2:decide ((16:Int)<(d:Int))=false:=(by simp;omega);have u3:decide (16<d)=false:=(by simp;omega);have u4:decide ((dm:Int)<(a:Int))=false:=(by simp;omega);have u5:decide (dm<a)=false:=(by simp;omega);have u6:decide ((a:Int)<0)=false:=(by simp);have aS:IntKind.i64.wrap ((j:Int)+1)=((j+1:Nat):Int):=(by rw[show(j:Int)+1=((j+1:Nat):Int) by omega];exact AJ _ (by omega));clear H aT aU bf hd ha G aV bh ae bJ;go_wp2_with fail;refine(mZ C Y _ A.out).mono ?_;rintro en K ⟨rfl,rfl⟩;rw[aC.out];go_wp2_with fail;refine(aJu C Y _ A.out).mono ?_;rintro en K ⟨rfl,rfl⟩;rw[HD.out];go_wp2_with fail;refine(aJx C Y _ A.out (fun i _=>Ay (bXm Y.x i) (Ay (bVj l.out.hp (by rw[B.out];exact l.out.ok j hj)) (by decide))) bL.out).mono ?_;rintro en K ⟨rfl,bj⟩;rw[bM.out];have Y5:=cQ (A.out.below bj);clear bj A;by_cases an:j<100
     ·have u7:decide ((j:Int)<100)=true:=(by simp;omega);have u8:decide (j<100)=true:=(by simpa using an)
      have bk:=cQ (show Ad cZ 11 #[.pointer (some ⟨C.mm,0,none⟩)] K (aJr [] (RawS.of Y.x.s) 0 K) by
       have h:=cJn l.out Y5.out B.out;rw[bg.out.1,bg.out.2]at h
       exact h)
      go_wp2_with fail;refine bk.out.mono ?_;rintro en w6 ⟨v1,a1,g1,i1,l1,rfl,o1,o2,o3,o4,o5,f,_,_,_⟩;obtain⟨XV,xv,rfl,_⟩:=cJ o1;obtain⟨XM,Xm,rfl,_⟩:=cJ o2;obtain⟨XG,Xg,rfl,_⟩:=cJ o3;obtain⟨XI,Xi,rfl,_⟩:=cJ o4;obtain⟨XL,Xl,rfl,_⟩:=cJ o5;have J6:=cQ (show PvJ C x0 j (w6.alloc (.cells #[.slice XM (RawS.of Y.x.s).mem.length Xm,.int .i64 (RawS.of Y.x.s).most,.slice XG (RawS.of Y.x.s).globals.length Xg,.int .i64 (RawS.of Y.x.s).fuel,.slice XI (RawS.of Y.x.s).input.length Xi,.slice XL (RawS.of Y.x.s).log.length Xl] 33))from⟨Y,Y5.out.below (f.trans (((Av w6.heap.size w6).alloc (Aj _) _).mono f.size)),B.out⟩);clear o1 o2 o3 o4 o5 f bk;go_upto_region 18 with fail;obtain⟨w7,bm⟩:=cX (w6.alloc (.cells #[.slice XM (RawS.of Y.x.s).mem.length Xm,.int .i64 (RawS.of Y.x.s).most,.slice XG (RawS.of Y.x.s).globals.length Xg,.int .i64 (RawS.of Y.x.s).fuel,.slice XI (RawS.of Y.x.s).input.length Xi,.slice XL (RawS.of Y.x.s).log.length Xl] 33));rw[bm]at J6 ⊢;clear bm;go_wp2_with fail;refine(bXp l.out RC.out TT.out RF.out J6.out).mono ?_;rintro en w8 ⟨rfl,Q⟩;rw[decide_eq_true J.out];have I8:=cQ Q;clear Q;go_wp2;exact⟨⟨j+1,J.out,rfl,I8⟩,by have:=J.out;simp[intOf];omega⟩
     ·have u7:decide ((j:Int)<100)=false:=(by simp;omega);have u8:decide (j<100)=false:=(by simpa using an);go_wp2_with fail;refine(bXp l.out RC.out TT.out RF.out ⟨Y,Y5.out,B.out⟩).mono ?_;rintro en w8 ⟨rfl,Q⟩;rw[decide_eq_true J.out];have I8:=cQ Q;clear Q;go_wp2;exact⟨⟨j+1,J.out,rfl,I8⟩,by have:=J.out;simp[intOf];omega⟩
    ·obtain rfl:NS=j:=(by omega);have aC:=cQ (show Y.x.over=true by rw[B.out,l.out.en]);clear G;go_wp2_with fail;refine(mZ C Y _ A.out).mono ?_;rintro en K ⟨rfl,rfl⟩;rw[aC.out];go_wp2_with fail;refine(mZ C Y _ A.out).mono ?_;rintro en K ⟨rfl,rfl⟩;rw[aC.out];have bN:=cQ (z.out.trans (A.out.bel.mono z.out.size));go_wp2;go_ret;exact⟨rfl,bN.out⟩
theorem MachBounds_walk(p:RowsD)(q:AskD)(a b:Ac)(w:Ab)(hv:RowsV w a p)(hq:aYq w b q)(c:Tabs w):Ad cZ 3 #[a,b] w (aYg w):=by
 by_cases h1:ProgP p/\FitP p.env q.s
 ·by_cases h2:aYu p q.n q.args
  ·exact aJl p q a b w hv hq c h1.1 h1.2 h2
  ·exact aKo p q a b w hv hq c h1.1 h1.2 h2
 ·exact aJk p q a b w hv hq c h1
def NobP(v:Ac)(w:Ab):Prop:=v = .pointer none\/∃ g,v = .pointer (some ⟨g,0,none⟩)/\Blk w g 57 #[.pointer none]
theorem NobP.below{v:Ac}{w w':Ab}(h:NobP v w)(a:Below w.heap.size w w'):NobP v w':=by
 rcases h with h | ⟨g,h1,h2⟩
 ·exact .inl h
 ·exact .inr ⟨g,h1,h2.below a h2.lt⟩
theorem yJ(v:Ac)(w:Ab)(h:NobP v w):Ad cZ 28 #[v] w fun e w'=>e = .returned (.bool false)/\w=w':=by
 rcases h with rfl | ⟨g,rfl,h2⟩
 ·go_in;go_wp2;go_ret;exact⟨rfl,rfl⟩
 ·have h0:w.cell? ⟨g,0,none⟩=some (.pointer none):=h2.cell 0;have y:=h2.lt;clear h2;go_in;go_wp2;go_ret;exact⟨rfl,rfl⟩
theorem aYh(v:Ac)(w:Ab)(h:NobP v w):Ad cZ 8 #[v] w fun e w'=>e = .returned (.bool true)/\w=w':=by
 have H:=cQ h;clear h;go_in;go_wp2_with fail;refine(yJ v _ H.out).mono ?_;rintro e w1 ⟨rfl,rfl⟩;go_wp2;go_ret;exact⟨rfl,rfl⟩
theorem bVe(v:Ac)(w:Ab)(h:NobP v w):Ad cZ 9 #[v] w fun e w'=>e = .returned (.int .i64 0)/\w=w':=by
 have H:=cQ h;clear h;go_in;go_wp2_with fail;refine(yJ v _ H.out).mono ?_;rintro e w1 ⟨rfl,rfl⟩;go_wp2;go_ret;exact⟨rfl,rfl⟩
theorem bVf(v:Ac)(w:Ab)(h:NobP v w):Ad cZ 10 #[v] w fun e w'=>e = .returned (.int .i64 0)/\w=w':=by
 have H:=cQ h;clear h;go_in;go_wp2_with fail;refine(yJ v _ H.out).mono ?_;rintro e w1 ⟨rfl,rfl⟩;go_wp2;go_ret;exact⟨rfl,rfl⟩
theorem bVg(v:Ac)(w:Ab)(h:NobP v w):Ad cZ 14 #[v] w fun e w'=>e = .returned (.int .i64 0)/\w=w':=by
 have H:=cQ h;clear h;go_in;go_wp2_with fail;refine(yJ v _ H.out).mono ?_;rintro e w1 ⟨rfl,rfl⟩;go_wp2;go_ret;exact⟨rfl,rfl⟩
theorem cZb(v:Ac)(w:Ab)(h:NobP v w):Ad cZ 12 #[v] w fun e w'=>e = .returned (.bool false)/\w=w':=by
 have H:=cQ h;clear h;go_in;go_wp2_with fail;refine(aYh v _ H.out).mono ?_;rintro e w1 ⟨rfl,rfl⟩;go_wp2;go_ret;exact⟨rfl,rfl⟩
theorem cQa(v:Ac)(w:Ab)(h:NobP v w):Ad cZ 13 #[v] w fun e w'=>e = .returned (.pointer none)/\w=w':=by
 have H:=cQ h;clear h;go_in;go_wp2_with fail;refine(yJ v _ H.out).mono ?_;rintro e w1 ⟨rfl,rfl⟩;go_wp2;go_ret;exact⟨rfl,rfl⟩
theorem cJj(v:Ac)(w:Ab)(h:NobP v w):Ad cZ 11 #[v] w fun e w'=>e = .returned (.tuple #[.slice none 0 0,.agg #[.slice none 0 0,.int .i64 0,.slice none 0 0,.int .i64 0,.slice none 0 0,.slice none 0 0],.int .i64 2])/\Below w.heap.size w w':=by
 have b:=cQ ((Av w.heap.size w).alloc (Aj _) (.cells #[.slice none 0 0,.int .i64 0,.slice none 0 0,.int .i64 0,.slice none 0 0,.slice none 0 0] 33));have H:=cQ (h.below b.out);have a:=cQ (Blk.new w 33 #[.slice none 0 0,.int .i64 0,.slice none 0 0,.int .i64 0,.slice none 0 0,.slice none 0 0]);clear h;go_in;go_wp2_with fail;refine(yJ v _ H.out).mono ?_;rintro e f ⟨rfl,rfl⟩;go_upto_region 2 with fail;obtain⟨f,c⟩:=cX (w.alloc (.cells #[.slice none 0 0,.int .i64 0,.slice none 0 0,.int .i64 0,.slice none 0 0,.slice none 0 0] 33));obtain⟨g,d⟩:=cX w.heap.size;rw[c]at b a ⊢;rw[d]at b a ⊢;clear c H;obtain⟨g0,g1,g2,g3,g4,g5⟩:=eX a.out;have f0:=frz a.out 0;have f1:=frz a.out 1;have f2:=frz a.out 2;have f3:=frz a.out 3;have f4:=frz a.out 4;have f5:=frz a.out 5;have yz:=a.out.lt;go_wp2_with fail;refine bodyPost_ret (aZj _ _ g _ _ _ _ _ _ _ _ rfl rfl rfl (aJa a.out (.slice none 0 0) (.int .i64 0) (.slice none 0 0) (.int .i64 0) (.slice none 0 0) (.slice none 0 0))) rfl ?_;exact⟨rfl,by rw[d];exact aQd b.out (Aj _) _ _ _ _ _ _⟩
end Go.Proofs.YtabibkpfgmolkaaDoor

/- Lemmas for the claim, part 10. Conditions: none. -/
import Derived.Test.YtabibkpfgmolkaaDoorPd09
import Derived.Deep.DeepCutAuto
set_option maxRecDepth 100000
set_option maxHeartbeats 16000000
set_option linter.unusedVariables false
set_option linter.unusedSimpArgs false
open Go.Lib renaming hid→cQ
open Go.Proofs.Tryd renaming prog→cZ
open Go.Proofs.Tryd
open Go.RowKit
open Nat renaming le_refl→Aj,lt_of_lt_of_le→Ak,le_trans→Aa,le_of_eq→Ab,eq_zero_or_pos→Ae
open List renaming setIfInBounds_toArray→Aq,set_cons_zero→Ax,set_cons_succ→Az,eq_nil_of_length_eq_zero→Av,length_take→Ay,length_append→AZ,getD_eq_getElem?_getD→AK,drop_eq_nil_of_le→AY,length_map→Ac,mem_of_getElem?→Ad,map_take→Af
open Go.RowKit.Below renaming refl→Aw
open Go.Addr renaming add→AJ,add_lit→Ag
open Go.Act renaming put→AQ
open Go.Value renaming slice→AX
open Go renaming World→Ah,Value→Ai
namespace Go.Proofs.YtabibkpfgmolkaaDoor
end Go.Proofs.YtabibkpfgmolkaaDoor
namespace Go.Proofs.YtabibkpfgmolkaaDoor
end Go.Proofs.YtabibkpfgmolkaaDoor
namespace Go.Proofs.YtabibkpfgmolkaaDoor
theorem cVn{l:List Int}{j:Nat}{x y:Int}(h:l[j]? = some x):y∈l.take (j+1)↔y∈l.take j\/y=x:=by
 obtain⟨a,e⟩:=List.getElem?_eq_some_iff.1 h;rw[List.take_succ_eq_append_getElem a,e];simp
end Go.Proofs.YtabibkpfgmolkaaDoor
namespace Go.Proofs.YtabibkpfgmolkaaDoor
end Go.Proofs.YtabibkpfgmolkaaDoor
namespace Go.Proofs.YtabibkpfgmolkaaDoor
end Go.Proofs.YtabibkpfgmolkaaDoor
namespace Go.Proofs.YtabibkpfgmolkaaDoor
end Go.Proofs.YtabibkpfgmolkaaDoor
namespace Go.Proofs.YtabibkpfgmolkaaDoor
end Go.Proofs.YtabibkpfgmolkaaDoor
namespace Go.Proofs.YtabibkpfgmolkaaDoor
def RB(t:TypeId)(w:Ah)(g n:Nat)(f:Nat->Bool):Prop:=Blk w g t (tJ (cKp n f)).toArray
end Go.Proofs.YtabibkpfgmolkaaDoor
namespace Go.Proofs.YtabibkpfgmolkaaDoor
end Go.Proofs.YtabibkpfgmolkaaDoor
namespace Go.Proofs.YtabibkpfgmolkaaDoor
theorem yZ{P:Program}{ops:Array Oper}{o:Oper}{a:Act}{w:Ah}{K:Act->Ah->Prop}{Q:Exit->Act->Ah->Prop}{E:Prop}(D:o.guard=none)(s x:Operand)(t:TypeId)
    (F:o.op = .call { callee:=.builtin .append,args:=#[s,x],argTypes:=#[t,t] })
    (base:Nat) (e:TypeId) (z:Ai) (size bytes:Nat) (k:P.underlying t=some (.slice e)) (hinfo:(P.info? e).map (fun i=>(i.zero,i.size,i.bytes))=some (some z,size,bytes)) (G:z.cells.size=size) (y:0<size)
    (v:Ai) (n:Nat) (f:List Ai) (hs:a.eval s=v) (l:w.ownsRow base e size v n f)
    (A:Option Addr) (m c:Nat) (news:List Ai) (H:a.eval x = .slice A m c) (d:Src w A (m*size) news) (h1:∀ u∈news,u.oneCell'=true)
    (I:n+m<=maxLen) (hbytes:(n+m)*bytes<=140737488355328) (hbase:base<=w.heap.size)
    (h:∀ v' w',w'.ownsRow base e size v' (n+m) (f++news)->w.grownBy w' v.ownBlock->(v'.ownBlock=v.ownBlock\/v'.ownBlock=some w.heap.size)->K (a.put o.dst v') w') :
    if Region.wanted o (yielded ops a.tmps)=true then Oper.wp P o a w K Q else E:=by
  obtain⟨i,hi,J,L,M⟩:=info_parts hinfo
  have key:∃ v' w',(Builtin.append_ #[t,t] o.type #[v,.slice A m c]).run P w = .ok v' w'/\w'.ownsRow base e size v' (n+m) (f++news)/\w.grownBy w' v.ownBlock/\(v'.ownBlock=v.ownBlock\/v'.ownBlock=some w.heap.size):=by
    rcases A with _ | N
    · have O:m=0:=by
        rcases Ae m with p | p
        · exact p
        · obtain⟨b,o,R,_⟩:=d.2 (Nat.mul_pos p y)
          cases R
      subst O;have S:news = []:=Av (by rw[d.1,Nat.zero_mul]);subst S;refine⟨v,w,?_,by simpa using l,World.grownBy.refl w _,.inl rfl⟩;rcases l.2 with⟨rfl,rfl⟩ | ⟨g,cap,cur,rfl,_,_,T,_⟩
      · simp[Builtin.append_,run_underlying k,sizeOf,typeInfo,hi,Builtin.lenOf,Builtin.firstCells]
      · simp[Builtin.append_,run_underlying k,sizeOf,typeInfo,hi,Builtin.lenOf,Builtin.firstCells,T,storeCells]
    · obtain⟨v',w',q,h2,r,B,U⟩:=run_append_own_at (P:=P) w base t o.type e i z size bytes k hi J L M G y v n f l N m c news d.1
        (fun j u C=>by
          have hj:=(List.getElem?_eq_some_iff.1 C).1;obtain⟨b,o,e',_,hc⟩:=d.2 (by have:=d.1;omega);injection e' with e';subst e';rw[Ag]
          exact hc j u C) h1 I hbytes hbase
      exact⟨v',w',q,h2,r,U⟩
  obtain⟨v',w',q,h2,r,B⟩:=key;have V:Region.wanted o (yielded ops a.tmps)=true:=(by simp[Region.wanted,D]);rw[if_pos V];unfold Oper.wp execOp;simp only[F,resolve,invoke,builtin,Sem.run_bind,Sem.run_pure,Result.andThen_ok,List.map_toArray,List.map_cons,List.map_nil,hs,H,q];exact h v' w' h2 r B
structure HoS (C:KaC) (X:KaS) (w:Ah) (SB:Nat) (cs:Array Ai) (v:Ai) (l:List Nat) (lab:Nat->Nat) (wr:Ah):Prop where
 rest:KRest C { X with lab:=lab,lv:=v,x:={ X.x with s:={ X.x.s with log:=l } } } wr
 cb:Blk wr C.cb 68 (kCells C X)
 kk:KK X { X with lab:=lab } w wr
 box:Blk wr SB 42 cs
 bl:lab SB=0
theorem HoS.below{C:KaC}{X:KaS}{w:Ah}{SB:Nat}{cs:Array Ai}{v:Ai}{l:List Nat}{lab:Nat->Nat}{wr w':Ah}(h:HoS C X w SB cs v l lab wr)(a:Below wr.heap.size wr w'):HoS C X w SB cs v l lab w':=
 ⟨h.rest.but (Y:={ X with lab:=lab,lv:=v,x:={ X.x with s:={ X.x.s with log:=l } } }) 0 a.size (h.rest.bel.trans (a.mono h.rest.bel.size)) (fun k b _=>a.block k (h.rest.lb k b).2) (fun k b=>⟨(h.rest.lb k b).1,Ak (h.rest.lb k b).2 a.size⟩) (fun _ _ _=>rfl) h.rest.cl (by decide) (.inr ⟨by decide,rfl⟩) (.inr ⟨by decide,rfl,rfl⟩) (.inr ⟨by decide,rfl,rfl⟩) (.inr ⟨by decide,rfl,rfl⟩) (.inr ⟨by decide,rfl,rfl,rfl⟩) (.inr ⟨by decide,rfl,rfl⟩) ⟨by decide,rfl⟩ (.inr ⟨by decide,rfl,rfl⟩),
  h.cb.below a h.cb.lt,h.kk.below a,h.box.below a h.box.lt,h.bl⟩
theorem HoS.app{C:KaC}{X:KaS}{w:Ah}{SB:Nat}{cs:Array Ai}{v v':Ai}{l b:List Nat}{lab:Nat->Nat}{wr w':Ah}(h:HoS C X w SB cs v l lab wr)(f:w'.ownsRow C.w0.heap.size 62 1 v' b.length (u64V b))(hg:wr.grownBy w' v.ownBlock)(d:v'.ownBlock=v.ownBlock\/v'.ownBlock=some wr.heap.size):HoS C X w SB cs v' b (eZ lab v' 4) w':=by
 have l4:∀ k,v.ownBlock=some k->lab k=4:=h.rest.l4;refine⟨h.rest.cYz f hg d,h.cb.grown hg (fun e=>?_),?_,h.box.grown hg (fun e=>?_),?_⟩
 ·have h1:=l4 _ e;have h2:lab C.cb=1:=h.rest.cl;omega
 ·refine(h.kk.grown hg (fun k a=>.inl (by show lab k≠0;rw[l4 k a];decide))).cWs (v:=v') (c:=4) (fun k a=>?_);rcases d with e | e
  ·exact .inr (by show lab k≠0;rw[l4 k (by rw[<-e];exact a)];decide)
  ·rw[a]at e;injection e with e;exact .inl (by rw[e];exact h.kk.size)
 ·have h1:=l4 _ e;have h2:=h.bl;omega
 ·rw[jY]
  ·exact h.bl
  ·intro e;rcases d with e2 | e2
   ·have h1:=l4 SB (by rw[<-e2];exact e);have h2:=h.bl;omega
   ·rw[e]at e2;injection e2 with e2;have:=h.box.lt;omega
theorem HoS.fin{C:KaC}{X:KaS}{w:Ah}{SB:Nat}{cs:Array Ai}{v:Ai}{l:List Nat}{lab:Nat->Nat}{wr:Ah}(h:HoS C X w SB cs v l lab wr):KRef C { X with lab:=lab,lv:=v,x:={ X.x with s:={ X.x.s with log:=l } } } (wr.setCell ⟨C.cb,11,none⟩ v)/\KK X { X with lab:=lab } w (wr.setCell ⟨C.cb,11,none⟩ v)/\Blk (wr.setCell ⟨C.cb,11,none⟩ v) SB 42 cs:=
 ⟨h.rest.cYa h.cb 11 v (by simp[kCells]),(h.kk.set (y:={ X with lab:=lab }) (g:=C.cb) 11 v (.inl (by show lab C.cb≠0;rw[show lab C.cb=1 from h.rest.cl];decide)) rfl),h.box.setCell v (fun e=>by
  have e:SB=C.cb:=e;have h2:=h.bl;rw[e,show lab C.cb=1 from h.rest.cl]at h2
  cases h2)⟩
theorem HoS.r{C:KaC}{X:KaS}{w:Ah}{SB:Nat}{p q v:Ai}{l:List Nat}{lab:Nat->Nat}{wr:Ah}(h:HoS C X w SB #[p,q] v l lab wr):wr.cell? ⟨C.mm,0,none⟩=some (.pointer (some ⟨C.cb,0,none⟩))/\wr.cell? ⟨SB,0,none⟩=some p/\C.mm<wr.heap.size/\C.cb<wr.heap.size/\SB<wr.heap.size:=
 ⟨h.rest.mm.cell 0,h.box.cell 0,h.rest.mm.lt,h.cb.lt,h.box.lt⟩
def HoC(C:KaC)(X:KaS)(w:Ah)(SB:Nat)(cs:Array Ai)(l:List Nat)(wx:Ah):Prop:=∃ (lab:Nat->Nat) (v:Ai),KRef C { X with lab:=lab,lv:=v,x:={ X.x with s:={ X.x.s with log:=l } } } wx/\KK X { X with lab:=lab } w wx/\Blk wx SB 42 cs/\lab SB=0
theorem cXw{w:Ah}{A:Option Addr}{n c k:Nat}{l:List Int}(h:IR w (.slice A n c) l)(hk:k<=n):IR w (.slice A k c) (l.take k):=by
 obtain⟨A',c',e,hs⟩:=h;injection e with b e2 d;subst b;subst d;have a:(l.take k).length=k:=(by rw[Ay];omega);refine⟨A,c,by rw[a],?_⟩;have:=hs.take (i:=k) (by omega);rw[a];unfold i64s at this ⊢
 rwa[<-Af]at this
theorem cXx{w:Ah}{A:Option Addr}{n c k:Nat}{l:List Nat}(h:UR w (.slice A n c) l)(b:k<=n):UR w (.slice A k c) (l.take k):=by
 obtain⟨e,hs,hc,d,hz,f⟩:=h.len;have a:(l.take k).length=k:=(by rw[Ay];omega);refine⟨A,c,by rw[a],?_,by omega,d,by omega,aQf f k⟩;have:=hs.take (i:=k) b;rw[a];unfold u64V at this ⊢
 rwa[<-Af]at this
theorem cXy{w:Ah}{b o n c k:Nat}{a:Option Nat}{l:List Nat}(h:UR w (.slice (some ⟨b,o,a⟩) n c) l)(f:k<=n):UR w (.slice (some (AJ ⟨b,o,a⟩ k)) (n - k) (c - k)) (l.drop k):=by
 obtain⟨e,hs,hc,h0,hz,g⟩:=h.len;have d:(l.drop k).length=n - k:=(by rw[List.length_drop];omega);refine⟨_,c - k,by rw[d],?_,by omega,(fun e=>by cases e),by omega,aQg g k⟩;rw[d];rcases Ae n with h1 | h1
 ·have:l = []:=Av (by omega);subst this;rw[show n - k=0 by omega,List.drop_nil];exact Src.nil _ _
 ·obtain⟨b',o',e2,_⟩:=hs.2 h1;injection e2 with e2;injection e2 with _ _ j;subst j;rw[Ag];have:=hs.drop (i:=k) f;unfold u64V at this ⊢
  rwa[<-List.map_drop]at this
theorem cXz{w:Ah}{A:Option Addr}{n c:Nat}{l:List Nat}(h:UR w (.slice A n c) l):UR w (.slice A 0 0) (l.drop n):=by
 have e:=h.len.1;have a:l.drop n = []:=AY (by omega);rw[a];exact⟨A,0,rfl,Src.nil _ _,Aj _,(fun _=>rfl),⟨by simp,by omega⟩,jV⟩
theorem HoC.s1{C:KaC}{X:KaS}{w:Ah}{SB:Nat}{p q:Ai}{l:List Nat}{wx:Ah}(h:HoC C X w SB #[p,q] l wx):wx.cell? ⟨C.mm,0,none⟩=some (.pointer (some ⟨C.cb,0,none⟩))/\wx.cell? ⟨SB,0,none⟩=some p/\C.mm<wx.heap.size/\C.cb<wx.heap.size/\SB<wx.heap.size:=by
 obtain⟨lab,v,h1,h2,a,h4⟩:=h;exact⟨h1.cWp,a.cell 0,h1.mm.lt,h1.cb.lt,a.lt⟩
def aJp(C:KaC)(X:KaS)(n:Nat)(outs:List Int)(a:List Nat)(w:Ah)(en:Ending)(w':Ah):Prop:=
 ∃ (b:Ai) (X':KaS),en = .returned (.tuple #[b,.int .i64 (hostV n outs a X.x.s).2.1])/\KRef C X' w'/\KK X X' w w'/\X'.x={ X.x with s:=(hostV n outs a X.x.s).2.2 }/\X'.sv=X.sv/\X'.ps=X.ps /\
  w'.ownsRow w.heap.size 62 1 b (hostV n outs a X.x.s).1.length (u64V (hostV n outs a X.x.s).1)/\∀ k,b.ownBlock=some k->X'.lab k=0
theorem bKx(n:Nat)(l:List Nat):u64V (n :: l) = .int .u64 (n:Int) :: u64V l:=rfl
theorem aVe(C:KaC)(X:KaS)(n:Nat)(g:SigD)(va:Ai)(a:List Nat)(w:Ah)(h:KRef C X w)(hC:KC C)(hg:C.p.env.sigs[n]? = some g)(a8:∀ (Y Y':KaS) (w':Ah),KRest C Y w'->Y.x.first=X.x.first->KK X Y' w w'->UR w' va a)(aG:a.length=g.inn.length)(aN:X.x.s.log.length<=1000000000):
  Calls cZ 25 #[.pointer (some ⟨C.mm,0,none⟩),.int .i64 n,va] w (aJp C X n g.out (lowL g.inn a) w):=by
 obtain⟨sb,so,ns,cs,q,sq,ba,aO,bp,s1,s2,s3,s4,s5⟩:=hC.sig h.bel hg;have ay:=nK hC.ok.env hg;obtain⟨O,c1,rfl⟩:=s4.shape;obtain⟨J,G,rfl⟩:=s5.shape;have m0:=h.cWp;have c0:w.cell? ⟨C.cb,0,none⟩=some (.slice (some ⟨sb,so,none⟩) ns cs):=(by rw[h.cell 0];simp[kCells,ba]);have yb:=h.cb.lt;have ym:=h.mm.lt;have bq:(n:Int)<(ns:Int):=(by omega);have br:IntKind.u64.wrap (n:Int)=(n:Int):=iK (by omega);have bs:n<=64:=(by omega);obtain⟨AL,cL,aP,bt⟩:=cJ h.log;obtain⟨L,hL⟩:=cX X.x.s.log.length;rw[hL]at aP bt aN;obtain⟨z,aQ⟩:=cX g.inn.length;obtain⟨d,aR⟩:=cX g.out.length;rw[aQ]at aG s2 s4 ay;rw[aR]at s3 s5 ay;have bb:(lowL g.inn a).length=z:=(by rw[kX _ _ (by omega),aG]);have aH:=(Aw w.heap.size w).alloc (Aj _) (.cells #[.slice O z c1,.slice J d G] 42)
 have aI:=cQ (show HoS C X w w.heap.size #[.slice O z c1,.slice J d G] X.lv X.x.s.log X.lab (w.alloc (.cells #[.slice O z c1,.slice J d G] 42)).drew from
  HoS.below ⟨(h.below aH).toKRest,(h.below aH).cb,KK.cWq aH,Blk.new _ _ _,KRef.fresh h.toKRest (Aj _)⟩ (Aw _ _).drew)
 have H:=cQ h;have bc:=cQ a8;have aS:=cQ aG;have aT:=cQ bb;have aU:=cQ aQ;have aw:=cQ aR;have Z:=cQ aP;have az:=cQ hL;have bd:=cQ s4.ir;have bu:=cQ s5.ir;have aV:=cQ s5;have bO:=h.bel.size;have bw:=ay.1;have bz:=ay.2;clear a8 aG bb aQ aR aP hL s4 s5 hg ba aO hC aH ay;have bA:=s1;go_in;go_upto_region 2 with fail;go_cut [43] (fun _ wx=>HoC C X w w.heap.size #[.slice O z c1,.slice J d G] (X.x.s.log++n :: lowL g.inn a) wx)
 case first=>
  clear h;go_wp2_with fail;have aW:=cQ (Z.out ▸ aI.out:HoS C X w w.heap.size #[.slice O z c1,.slice J d G] (.slice AL L cL) X.x.s.log X.lab (w.alloc (.cells #[.slice O z c1,.slice J d G] 42)).drew);refine iJ (fun w'=>w'.cell? ⟨C.mm,0,none⟩=some (.pointer (some ⟨C.cb,0,none⟩))/\w'.cell? ⟨w.heap.size,0,none⟩=some (.slice O z c1)/\C.mm<w'.heap.size/\C.cb<w'.heap.size/\w.heap.size<w'.heap.size) (fun w'=>w'.cell? ⟨C.cb,11,none⟩=some (.slice AL L cL)) 24 (by kernel_rfl) (aI.out.r) (Z.out ▸ aI.out.cb.cell 11) (fun c=>?_);refine wtk 0 c (fun c=>?_);refine wtk 1 c (fun c=>?_);refine wtk 2 c (fun c=>?_);refine wtk 3 c (fun c=>?_);refine wtk 4 c (fun c=>?_);refine wtk 5 c (fun c=>?_);refine wtk 6 c (fun c=>?_);refine wtk 7 c (fun c=>?_);refine wtk 8 c (fun c=>?_);refine wtk 9 c (fun c=>?_);refine wtk 10 c (fun c=>?_);refine nZ (i:=11) (v:=?v11) rfl (by kernel_rfl) (by kernel_rfl) (by kernel_rfl) (fun _ _ _ h=>h) rfl (by kernel_rfl) (by kernel_rfl) (Or.inl ⟨by rfl,?hy11⟩) c (fun c=>?_)
  case hy11=>intro w bB;(try dsimp only at bB);go_simp;(try with_reducible rfl)
  try simp only[AQ,Aq,Ax,Az]
  refine wtk 12 c (fun c=>?_);refine wtk 13 c (fun c=>?_);refine wtk 16 c (fun c=>?_);refine wtk 17 c (fun c=>?_);refine wtk 18 c (fun c=>?_);refine dQ (i:=14) (by kernel_rfl) rfl (fun K I=>?_);go_simp;obtain⟨wa,aJ⟩:=cX (((w.alloc (.cells #[.slice O z c1,.slice J d G] 42)).alloc (.cells #[.int .u64 (n:Int)] 62)).drew);have aj:=cQ (show HoS C X w w.heap.size #[.slice O z c1,.slice J d G] _ _ X.lab wa from by rw[<-aJ];exact aW.out.below ((Aw _ _).alloc (Aj _) (.cells #[.int .u64 (n:Int)] 62)));have bC:=cQ (show Blk wa (w.heap.size+1) 62 #[.int .u64 (n:Int)]from by rw[<-aJ];exact(Blk.newAt (w.alloc (.cells #[.slice O z c1,.slice J d G] 42)) 62 #[.int .u64 (n:Int)] (by simp)));have bP:=cQ (show X.lab (w.heap.size+1)=0 from KRef.fresh H.out.toKRest (by omega));rw[aJ];clear aJ;refine I.out _ _ ⟨aj.out.r,fun _=>Z.out ▸ aj.out.cb.cell 11⟩ (fun c=>?_);clear I K
  try simp only[AQ,Aq,Ax,Az]
  refine dQ (i:=15) (by kernel_rfl) rfl (fun K I=>?_);refine yZ rfl (.tmp 34) (.tmp 37) 30 rfl C.w0.heap.size 62 (.int .u64 0) 1 8 underlying30 wV rfl (by omega) (.slice AL L cL) L (u64V X.x.s.log) (by go_simp) (by have:=aj.out.rest.log;rw[az.out]at this;exact this) (some ⟨(w.heap.size+1),0,none⟩) 1 1 [.int .u64 (n:Int)] (by go_simp) (Blk.cWt (cs:=#[.int .u64 (n:Int)]) bC.out rfl) (fun u S=>by rw[List.mem_singleton.1 S];rfl) (by unfold maxLen;omega) (by omega) (aj.out.rest.bel.size) ?_;intro v1 w4 T aA aB;have ae:w4.ownsRow C.w0.heap.size 62 1 v1 (X.x.s.log ++ [n]).length (u64V (X.x.s.log ++ [n])):=(by rw[AZ,az.out,aQi];exact T);obtain⟨AV,cV,rfl,bQ⟩:=cJ T;have U:=cQ (aj.out.app ae aA aB);have bT:=cQ T;clear T ae aA aB;refine I.out _ _ ⟨U.out.r,fun _=>Z.out ▸ U.out.cb.cell 11⟩ (fun c=>?_);clear I K
  try simp only[AQ,Aq,Ax,Az]
  refine dQ (i:=19) (by kernel_rfl) rfl (fun K I=>?_);go_simp;refine(qX _ _ g.inn a _ (bd.out.below (U.out.rest.bel) (Aj _)) (bc.out _ _ _ U.out.rest rfl U.out.kk) (aU.out.trans aS.out.symm)).mono ?_;rintro en M ⟨v3,rfl,aC,be⟩;rw[<-kX g.inn a (aU.out.trans aS.out.symm),aT.out]at aC;obtain⟨A3,c3,rfl,bU⟩:=cJ aC;have ak:=cQ (U.out.below be);have bD:=cQ (eV aC U.out.kk.size);have aX:=cQ (fun(k:Nat) (hk:(AX A3 z c3).ownBlock=some k)=>KRef.fresh U.out.rest (aC.lt k hk).1);clear aC be;refine I.out _ _ ⟨ak.out.r,fun _=>Z.out ▸ ak.out.cb.cell 11⟩ (fun c=>?_);clear I K
  try simp only[AQ,Aq,Ax,Az]
  refine dQ (i:=20) (by kernel_rfl) rfl (fun K I=>?_);refine yZ rfl (.tmp 38) (.tmp 42) 30 rfl C.w0.heap.size 62 (.int .u64 0) 1 8 underlying30 wV rfl (by omega) (.slice AV (L+1) cV) (L+1) (u64V X.x.s.log ++ [.int .u64 (n:Int)]) (by go_simp) (by have:=ak.out.rest.log;simpa[az.out,aQi,u64V]using this) A3 z c3 (u64V (lowL g.inn a)) (by go_simp) (by rw[Nat.mul_one];exact Src.cWx bD.out) (aYs _) (by unfold maxLen;omega) (by omega) (ak.out.rest.bel.size) ?_;intro v2 w6 T aA aB
  have ae:w6.ownsRow C.w0.heap.size 62 1 v2 (X.x.s.log++n :: lowL g.inn a).length (u64V (X.x.s.log++n :: lowL g.inn a)):=by
   rw[AZ,az.out,List.length_cons,aT.out,aQi,bKx,show L+(z+1)=L+1+z by omega]
   simpa using T
  obtain⟨AW,cW,rfl,bV⟩:=cJ T;have ai:=cQ (ak.out.app ae aA aB);clear T ae aA aB;refine I.out _ _ ⟨ai.out.r,fun _=>Z.out ▸ ai.out.cb.cell 11⟩ (fun c=>?_);clear I K
  try simp only[AQ,Aq,Ax,Az]
  refine wtk 21 c (fun c=>?_);refine wtk 22 c (fun c=>?_);refine wtk 23 c (fun c=>?_);have bW:w6.cell? ⟨C.cb,11,none⟩=some X.lv:=ai.out.cb.cell 11;have f11:=frz ai.out.cb 11;have hf:=ai.out.fin;have bf:=cQ (show HoC C X w w.heap.size #[.slice O z c1,.slice J d G] (X.x.s.log++n :: lowL g.inn a) _ from⟨_,_,hf.1,hf.2.1,hf.2.2,ai.out.bl⟩);clear hf;refine dQ (i:=24) (by kernel_rfl) rfl (fun K I=>?_);go_simp;refine I.out _ _ (SD.after (bf.out.s1) (by kernel_rfl)) (fun c=>?_);clear I K
  try simp only[AQ,Aq,Ax,Az]
  refine iZ (by kernel_rfl) ?_ _;clear c;go_wp2_with fail;go_meet;exact bf.out
 case rest=>
  clear h aI bc aS aT Z az bd;obtain⟨lab,v,h1,h2,h3,h4⟩:=hcut;have ah:UR wc X.iv X.x.s.input:=h1.inp;obtain⟨AI,F,aD⟩:=ah.shape;obtain⟨m,aY⟩:=cX X.x.s.input.length;rw[aY]at aD;rw[aD]at ah;have bX:=ah.len.2.2.1;have bE:=ah.len.2.2.2.1;have bY:=ah.len.2.2.2.2.1;obtain⟨bZ,_,b0⟩:=(show Ints C.w0 (.slice J d G) g.out from aV.out).cWr.2;obtain⟨k,hk⟩:=cX (min d m);have bF:min (d:Int) (m:Int)=(k:Int):=(by omega);have mx:=h1.cWp;have bx:=h3.cell 1;simp at bx;have cx:wc.cell? ⟨C.cb,10,none⟩=some (.slice AI m F):=(by rw[h1.cell 10];simp[kCells,aD]);have yx:=h1.cb.lt;have zx:=h1.mm.lt;have sx:=h3.lt;have b1:(k:Int)<=(G:Int):=(by omega);have b2:(k:Int)<=(F:Int):=(by omega);have b3:(k:Int)<=(m:Int):=(by omega);have k0:(0:Int)<=(k:Int):=(by omega);have H1:=cQ h1;have H2:=cQ h2;have H3:=cQ h3;have bg:=cQ ah;have bh:=cQ aD;have aE:=cQ aY;have aK:=cQ hk;have H4:=cQ h4;clear h1 h2 h3 ah aD aY hk h4 aU s1 bA m0 c0 yb ym s2 s3 br;go_wp2_with fail;go_region;go_wp2_with fail;have hq:∀ a,wc.drew.cell? a=wc.cell? a:=fun _=>rfl;obtain⟨P,au⟩:=cX wc.drew;have ax:=cQ (show KRef C { X with lab:=lab,lv:=v,x:={ X.x with s:={ X.x.s with log:=X.x.s.log++n :: lowL g.inn a } } } P from au ▸ H1.out.drew);have aZ:=cQ (show KK X { X with lab:=lab } w P from au ▸ H2.out.drew);have a1:=cQ (show Blk P w.heap.size 42 #[.slice O z c1,.slice J d G]from au ▸ H3.out.drew);have a6:=cQ (show UR P (.slice AI m F) X.x.s.input from au ▸ (show UR wc.drew _ _ from bg.out));rw[au]at hq;rw[<-hq]at mx bx cx;rw[au];have yx:C.cb<P.heap.size:=ax.out.cb.lt;have zx:C.mm<P.heap.size:=ax.out.mm.lt;have sx:w.heap.size<P.heap.size:=a1.out.lt;clear au hq H1 H2 H3 bg;go_still_tail 14,(by kernel_rfl);change wpList _ _ _ _ _ P.drew;go_wp2_with fail;refine(qX _ _ (g.out.take k) (X.x.s.input.take k) _ (cXw (bu.out.below (ax.out.drew.bel) (Aj _)) (by omega)) (cXx (show UR P.drew _ _ from a6.out) (by omega)) (by rw[Ay,Ay,aw.out,aE.out];omega)).mono ?_;rintro e M ⟨vl,rfl,aL,aF⟩;have bj:(lowL (g.out.take k) (X.x.s.input.take k)).length=(X.x.s.input.take k).length:=kX _ _ (by rw[Ay,Ay,aw.out,aE.out];omega);rw[<-bj]at aL;have V:=cQ (ax.out.drew.below aF);have bG:=cQ (aZ.out.drew.below aF);have aX:=cQ (a1.out.drew.below aF (show w.heap.size<P.drew.heap.size from sx));have a7:=cQ (UR.below (show UR P.drew _ _ from a6.out) aF (Aj _));have bH:=cQ (eV aL aZ.out.size);have bk:=cQ (fun(j:Nat) (N:vl.ownBlock=some j)=>KRef.fresh ax.out.toKRest (aL.lt j N).1);have ml:=V.out.cWp;have cl:M.cell? ⟨C.cb,10,none⟩=some (.slice AI m F):=(by rw[V.out.cell 10];simp[kCells,bh.out]);have fl:=frz V.out.cb 10;have yl:=V.out.cb.lt;have zl:=V.out.mm.lt;have sl:=aX.out.lt;have bl:=aX.out.cell 1;simp at bl;clear aL aF bj ax aZ a1 a6 mx bx cx yx zx sx;have bm:∀ j,(AX AI m F).ownBlock=some j->lab j=5:=fun j N=>V.out.l5 j (by show X.iv.ownBlock=_;rw[bh.out];exact N);have bn:=cQ bm;clear bm
  have ends:∀ (wr:Ah) (iv':Ai),UR M iv' (X.x.s.input.drop k)->(∀ j,iv'.ownBlock=some j->lab j=5)->wr=(M.setCell ⟨C.cb,10,none⟩ iv').drew ->
    (Hid (KRef C { X with lab:=lab,lv:=v,iv:=iv',x:={ X.x with s:={ X.x.s with log:=X.x.s.log++n :: lowL g.inn a,input:=X.x.s.input.drop k } } } wr)/\Hid (KK X { X with lab:=lab } w wr)/\Hid (wr.ownsRow w.heap.size 62 1 vl (lowL (g.out.take k) (X.x.s.input.take k)).length (u64V (lowL (g.out.take k) (X.x.s.input.take k)))))/\wr.cell? ⟨w.heap.size,1,none⟩=some (.slice J d G)/\w.heap.size<wr.heap.size:=by
   intro wr iv' S hl he;have bo:lab C.cb=1:=V.out.cl
   have aO:w.heap.size≠C.cb:=fun e=>by have:=H4.out;rw[e,bo]at this;cases this
   have bI:vl.ownBlock≠some C.cb:=fun e=>by have h0:lab C.cb=0:=bk.out _ e;omega
   subst he;refine⟨⟨cQ (V.out.cYv iv' _ S hl).drew,cQ (bG.out.set (y:={ X with lab:=lab }) (g:=C.cb) 10 iv' (.inl (by show lab C.cb≠0;rw[bo];decide)) rfl).drew,cQ (jJ bH.out bI)⟩,(tW aO).trans bl,?_⟩;exact Ak sl (by simp[World.setCell,World.drew])
  have fin:∀ (wr:Ah) (iv':Ai),Hid (KRef C { X with lab:=lab,lv:=v,iv:=iv',x:={ X.x with s:={ X.x.s with log:=X.x.s.log++n :: lowL g.inn a,input:=X.x.s.input.drop k } } } wr)->Hid (KK X { X with lab:=lab } w wr)->Hid (wr.ownsRow w.heap.size 62 1 vl (lowL (g.out.take k) (X.x.s.input.take k)).length (u64V (lowL (g.out.take k) (X.x.s.input.take k)))) ->
    (k<d->aJp C X n g.out (lowL g.inn a) w (.returned (.tuple #[.slice none 0 0,.int .i64 39])) wr)/\(¬k<d->aJp C X n g.out (lowL g.inn a) w (.returned (.tuple #[vl,.int .i64 0])) wr):=by
   intro wr iv' q1 q2 q3;refine⟨fun E=>?_,fun E=>?_⟩
   ·have e:hostV n g.out (lowL g.inn a) X.x.s=([],39,{ X.x.s with log:=X.x.s.log++n :: lowL g.inn a,input:=[] }):=by
     unfold hostV;rw[if_neg (by rw[aw.out,aE.out];have:=aK.out;omega)]
    have hd:X.x.s.input.drop k = []:=AY (by rw[aE.out];have:=aK.out;omega);rw[hd]at q1;refine⟨.slice none 0 0,_,by rw[e],q1.out,q2.out.to rfl,by rw[e],rfl,rfl,?_,fun j N=>by cases N⟩;rw[e];exact World.ownsRow_nil _ _ _ _
   ·have bJ:k=d:=by have:=aK.out;omega
    have e:hostV n g.out (lowL g.inn a) X.x.s=(lowL (g.out.take k) (X.x.s.input.take k),0,{ X.x.s with log:=X.x.s.log++n :: lowL g.inn a,input:=X.x.s.input.drop k }):=by
     unfold hostV;rw[if_pos (by rw[aw.out,aE.out];have:=aK.out;omega),aw.out,<-bJ,List.take_of_length_le (l:=g.out) (by rw[aw.out];omega)]
    refine⟨vl,_,by rw[e],q1.out,q2.out.to rfl,by rw[e],rfl,rfl,?_,bk.out⟩;rw[e];exact q3.out
  rcases AI with _ | ⟨b,o,q⟩
  ·have bL:F=0:=bE rfl;subst bL;have aM:m=0:=(by omega);subst aM;have bM:k=0:=(by omega);subst bM;have S:UR M (.slice none 0 0) (X.x.s.input.drop 0):=a7.out;have W:=cQ S;clear S;by_cases E:0<d
   ·have t1:decide ((0:Int)<(d:Int))=true:=(by simp;omega);have Q:=cQ E;clear E;go_wp2_with fail;go_region;obtain⟨wr,f⟩:=cX ((M.setCell ⟨C.cb,10,none⟩ (.slice none 0 0)).drew);obtain⟨⟨A,B,D⟩,E4,E5⟩:=ends wr (.slice none 0 0) W.out (fun j N=>by cases N) f.symm;rw[f];have R:=cQ (fin wr (.slice none 0 0) A B D);clear f ends fin A B D cl ml fl bl;go_wp2_with fail;refine bodyPost_ret (results_tmp2 (t:=6) (u:=7) rfl _ _ _) rfl ?_;exact R.out.1 Q.out
   ·have t1:decide ((0:Int)<(d:Int))=false:=(by simp;omega);have Q:=cQ E;clear E;go_wp2_with fail;go_region;obtain⟨wr,f⟩:=cX ((M.setCell ⟨C.cb,10,none⟩ (.slice none 0 0)).drew);obtain⟨⟨A,B,D⟩,E4,E5⟩:=ends wr (.slice none 0 0) W.out (fun j N=>by cases N) f.symm;rw[f];have R:=cQ (fin wr (.slice none 0 0) A B D);clear f ends fin A B D cl ml fl bl;go_wp2_with fail;refine bodyPost_ret (results_tmp2 (t:=6) (u:=7) rfl _ _ _) rfl ?_;exact R.out.2 Q.out
  ·by_cases bN:F=k
   ·have aM:m=k:=(by omega);have S:UR M (.slice (some ⟨b,o,q⟩) 0 0) (X.x.s.input.drop k):=(by have:=cXz a7.out;rwa[aM]at this);have W:=cQ S;have ao:=cQ (fun(j:Nat) (N:(AX (some ⟨b,o,q⟩) 0 0).ownBlock=some j)=>bn.out j N);subst bN;subst aM;clear S;by_cases E:m<d
    ·have t1:decide ((m:Int)<(d:Int))=true:=(by simp;omega);have Q:=cQ E;clear E;go_wp2_with fail;go_region;obtain⟨wr,f⟩:=cX ((M.setCell ⟨C.cb,10,none⟩ (.slice (some ⟨b,o,q⟩) 0 0)).drew);obtain⟨⟨A,B,D⟩,E4,E5⟩:=ends wr (.slice (some ⟨b,o,q⟩) 0 0) W.out ao.out f.symm;rw[f];have R:=cQ (fin wr (.slice (some ⟨b,o,q⟩) 0 0) A B D);clear f ends fin A B D cl ml fl bl;go_wp2_with fail;refine bodyPost_ret (results_tmp2 (t:=6) (u:=7) rfl _ _ _) rfl ?_;exact R.out.1 Q.out
    ·have t1:decide ((m:Int)<(d:Int))=false:=(by simp;omega);have Q:=cQ E;clear E;go_wp2_with fail;go_region;obtain⟨wr,f⟩:=cX ((M.setCell ⟨C.cb,10,none⟩ (.slice (some ⟨b,o,q⟩) 0 0)).drew);obtain⟨⟨A,B,D⟩,E4,E5⟩:=ends wr (.slice (some ⟨b,o,q⟩) 0 0) W.out ao.out f.symm;rw[f];have R:=cQ (fin wr (.slice (some ⟨b,o,q⟩) 0 0) A B D);clear f ends fin A B D cl ml fl bl;go_wp2_with fail;refine bodyPost_ret (results_tmp2 (t:=6) (u:=7) rfl _ _ _) rfl ?_;exact R.out.2 Q.out
   ·have W:=cQ (show UR M (.slice (some (AJ ⟨b,o,q⟩ k)) (m - k) (F - k)) (X.x.s.input.drop k)from cXy a7.out (show k<=m by omega));have ao:=cQ (fun(j:Nat) (N:(AX (some (AJ ⟨b,o,q⟩ k)) (m - k) (F - k)).ownBlock=some j)=>bn.out j (by rw[<-N];show some b=some (AJ ⟨b,o,q⟩ k).block;unfold AJ;split <;> rfl));by_cases E:k<d
    ·have t1:decide ((k:Int)<(d:Int))=true:=(by simp;omega);have Q:=cQ E;clear E;go_wp2_with fail;go_region;obtain⟨wr,f⟩:=cX ((M.setCell ⟨C.cb,10,none⟩ (.slice (some (AJ ⟨b,o,q⟩ k)) (m - k) (F - k))).drew);obtain⟨⟨A,B,D⟩,E4,E5⟩:=ends wr (.slice (some (AJ ⟨b,o,q⟩ k)) (m - k) (F - k)) W.out ao.out f.symm;rw[f];have R:=cQ (fin wr (.slice (some (AJ ⟨b,o,q⟩ k)) (m - k) (F - k)) A B D);clear f ends fin A B D cl ml fl bl;go_wp2_with fail;refine bodyPost_ret (results_tmp2 (t:=6) (u:=7) rfl _ _ _) rfl ?_;exact R.out.1 Q.out
    ·have t1:decide ((k:Int)<(d:Int))=false:=(by simp;omega);have Q:=cQ E;clear E;go_wp2_with fail;go_region;obtain⟨wr,f⟩:=cX ((M.setCell ⟨C.cb,10,none⟩ (.slice (some (AJ ⟨b,o,q⟩ k)) (m - k) (F - k))).drew);obtain⟨⟨A,B,D⟩,E4,E5⟩:=ends wr (.slice (some (AJ ⟨b,o,q⟩ k)) (m - k) (F - k)) W.out ao.out f.symm;rw[f];have R:=cQ (fin wr (.slice (some (AJ ⟨b,o,q⟩ k)) (m - k) (F - k)) A B D);clear f ends fin A B D cl ml fl bl;go_wp2_with fail;refine bodyPost_ret (results_tmp2 (t:=6) (u:=7) rfl _ _ _) rfl ?_;exact R.out.2 Q.out
theorem bKy(C:KaC)(X:KaS)(n:Nat)(g:SigD)(va:Ai)(a:List Nat)(w:Ah)(h:KRef C X w)(b:KC C)(hg:C.p.env.sigs[n]? = some g)(ha:UR w va a)(c:∀ k,va.ownBlock=some k->X.lab k=0)(d:a.length=g.inn.length)(e:X.x.s.log.length<=1000000000):
  Calls cZ 25 #[.pointer (some ⟨C.mm,0,none⟩),.int .i64 n,va] w (aJp C X n g.out (lowL g.inn a) w):=
 aVe C X n g va a w h b hg (fun _ _ _ _ _ kk=>kk.ur ha c) d e
theorem bKm(t:Int)(n:Nat):jX t (jX t n)=jX t n:=by
 unfold jX
 split <;> omega
theorem aJm:∀ (ks:List Int) (l:List Nat),lowL ks (lowL ks l)=lowL ks l
 | [],l=>by cases l <;> rfl
 | t :: ks,[]=>rfl
 | t :: ks,n :: l=>by simp only[lowL,bKm,aJm ks l]
def DoPost(C:KaC)(X:KaS)(f0:FrD)(rest:List FrD)(c:CodeD)(w:Ah)(en:Ending)(w':Ah):Prop:=
 ∃ (e:Int) (X':KaS),en = .returned (.int .i64 e)/\KRef C X' w'/\KK X X' w w' /\
  (e=0->X'.x=doM C.p X.x f0 rest c (actV C.p.env c f0.k (argV C.p.env f0.r c f0.V) X.x.s)) /\
  (e≠0->jK X'.x X'.x.s [] e=doM C.p X.x f0 rest c (actV C.p.env c f0.k (argV C.p.env f0.r c f0.V) X.x.s))
structure DoI (C:KaC) (X:KaS) (f0:FrD) (rest:List FrD) (g cS:Nat) (vc:Ai) (c:CodeD) (va:Ai) (a:List Nat) (w:Ah):Prop where
 ref:KRef C X w
 kc:KC C
 st:X.x.st={ f0 with k:=f0.k+1 } :: rest
 sv:X.sv = .slice (some ⟨g,0,none⟩) (rest.length+1) cS
 code:CodeV C.w0 vc c
 at_:f0.r.code[f0.k]? = some c
 ck:CheckP C.p.env f0.r
 len:f0.V.length=f0.r.places.toNat
 row:C.p.fns[f0.fi]? = some f0.r
 ur:UR w va a
 free:∀ k,va.ownBlock=some k->X.lab k=0
 args:a=getV f0.V c.args
 log:X.x.s.log.length<=1000000000
 dep:rest.length<=15
theorem DoI.ok{C:KaC}{X:KaS}{f0:FrD}{rest:List FrD}{g cS:Nat}{vc:Ai}{c:CodeD}{va:Ai}{a:List Nat}{w:Ah}(h:DoI C X f0 rest g cS vc c va a w):codeOk C.p.env f0.r c=true:=h.ck.code c (Ad h.at_)
theorem DoI.outs{C:KaC}{X:KaS}{f0:FrD}{rest:List FrD}{g cS:Nat}{vc:Ai}{c:CodeD}{va:Ai}{a:List Nat}{w:Ah}(h:DoI C X f0 rest g cS vc c va a w):∀ o∈c.outs,0<=o/\o<(f0.V.length:Int):=fun o b=>by
 obtain⟨_,_,_,_,_,_,_,_,_,d,_⟩:=cK h.ok;have:=d o b;have:=h.len;omega
theorem zW(n:Nat)(outs:List Int)(a:List Nat)(s:StD):(hostV n outs a s).1.length<=outs.length:=by
 unfold hostV
 split
 ·exact yY _ _
 ·exact Nat.zero_le _
theorem aZi{n:Nat}{outs:List Int}{a:List Nat}{s:StD}(h:All64 s.input):All64 (hostV n outs a s).1:=by
 unfold hostV
 split
 ·exact kK _ _ (aQf h _)
 ·exact jV
theorem mY{w:Ah}{base:Nat}{v:Ai}{l:List Nat}(h:w.ownsRow base 62 1 v l.length (u64V l))(a:All64 l)(hl:l.length<=1000000000):UR w v l:=by
 rcases h.2 with⟨h1,h2⟩ | ⟨g,cap,cur,h1,_,_,b,c,_⟩
 ·have hn:l = []:=Av h2;subst hn;subst h1;exact⟨none,0,rfl,Src.nil _ _,Aj _,fun _=>rfl,⟨by simp,by omega⟩,a⟩
 ·subst h1;exact⟨_,cap,rfl,Src.cWx h,b,(fun e=>by cases e),⟨by omega,by unfold maxLen at c;omega⟩,a⟩
theorem UR.all{w:Ah}{v:Ai}{l:List Nat}(h:UR w v l):All64 l:=by
 obtain⟨_,_,_,_,_,_,_,h⟩:=h;exact h
theorem bZr(C:KaC)(X:KaS)(f0:FrD)(rest:List FrD)(g cS:Nat)(vc:Ai)(c:CodeD)(va:Ai)(a:List Nat)(w:Ah)(h:DoI C X f0 rest g cS vc c va a w)(B:c.op=16):
  Calls cZ 40 #[.pointer (some ⟨C.mm,0,none⟩),.pointer (some ⟨g,rest.length*3,none⟩),vc,va] w (DoPost C X f0 rest c w):=by
 have O:=h.ok;have P:=cK O;rw[B]at P;obtain⟨i,o,hf,Q,R,_⟩:=P;have hf:(C.p.env.sigs[c.n]?).map (fun g=>(g.inn,g.out))=some (i,o):=hf;obtain⟨b,D,he⟩:=Option.map_eq_some_iff.1 hf;injection he with aA aB;subst aA;subst aB
 have S:argV C.p.env f0.r c f0.V=lowL b.inn a:=by
  unfold argV inK;rw[B,show dZ C.p.env f0.r.sig 16 c.n=_ from hf,h.args];rfl
 have T:a.length=b.inn.length:=(by rw[h.args];unfold getV;rw[Ac];exact Q);have U:C.p.env.sigs.getD c.n ⟨[],[]⟩=b:=(by rw[AK,D];rfl);have aC:c.n<64:=(by have:=(List.getElem?_eq_some_iff.1 D).1;have:=(iX h.kc.ok.env).1;omega);have aQ:IntKind.i64.wrap (c.n:Int)=(c.n:Int):=IntWalk.i64_in _ (by omega);obtain⟨W,cb,Y,rfl,ak,aD,aE,aF⟩:=h.code;have E:=(Aw w.heap.size w).alloc (Aj _) (.cells #[.int .i64 c.op,.int .u64 (c.n:Int),W,cb,Y] 80);have I:=cQ (h.ref.below E);have J:=cQ (KK.cWq (x:=X) E);have aG:=cQ (Blk.new w 80 #[.int .i64 c.op,.int .u64 (c.n:Int),W,cb,Y]);have aH:=cQ (KRef.fresh h.ref.toKRest (Aj w.heap.size));have Z:=cQ (h.ur.below E (Aj _));have m0:=h.ref.cWp;have c1:w.cell? ⟨C.cb,1,none⟩=some (.int .i64 C.p.env.imports):=h.ref.cell 1;have aR:w.cell? ⟨C.cb,12,none⟩=some (.slice (some ⟨g,0,none⟩) (rest.length+1) cS):=(by rw[h.ref.cell 12];simp[kCells,h.sv]);have yb:=h.ref.cb.lt;have ym:=h.ref.mm.lt;have d:=cQ h;have aw:=cQ S;have ax:=cQ T;have aI:=cQ U;have F:=cQ D;have f:=cQ B;have aJ:=cQ R;obtain⟨j,G⟩:=Int.eq_ofNat_of_zero_le (iX h.kc.ok.env).2.1;rw[G]at c1;have m:=cQ G;clear h S T U D B O Q R hf ak aD aE aF E;by_cases hi:c.n<j
 ·have t1:decide ((c.n:Int)<(j:Int))=true:=(by simp;omega);have aK:=cQ hi;clear hi G;go_in;go_wp2_with fail;refine(bKy C X c.n b va a _ I.out d.out.kc F.out Z.out d.out.free ax.out d.out.log).mono ?_;rintro e w1 ⟨vo,t,rfl,v,u,y,k4,k5,K,k7⟩;obtain⟨Ao,co,rfl,aS⟩:=cJ K;have L:=cQ v;have M:=cQ u;have z:=cQ y;have K4:=cQ k4;have K6:=cQ K;have K7:=cQ k7;have N:=u.blk aG.out aH.out;obtain⟨b0,b1,b2,b3,b4⟩:=dX N;have yB:=N.lt;clear v u y k4 k5 K k7 N;have ay:=mY K6.out (aZi d.out.ref.inp.all) (Aa (zW _ _ _ _) (by have:=(nK d.out.kc.ok.env F.out).2;omega));have aL:=cQ ay;clear ay;go_wp2_with fail;refine(iW C t { f0 with k:=f0.k+1 } rest g cS _ c _ (hostV c.n b.out (lowL b.inn a) X.x.s).1 _ L.out (by rw[z.out];exact d.out.st) (K4.out.trans d.out.sv) d.out.code aL.out (fun k hk=>by rw[K7.out k hk];omega) d.out.outs (Aa (zW _ _ _ _) (Ab aJ.out.symm))).mono ?_;rintro e w2 ⟨rfl,l1,l2⟩;have L1:=cQ l1;have L2:=cQ l2;clear l1 l2;go_wp2;go_ret
  have A:actV C.p.env c f0.k (argV C.p.env f0.r c f0.V) X.x.s=if(hostV c.n b.out (lowL b.inn a) X.x.s).2.1=0 then .vals (hostV c.n b.out (lowL b.inn a) X.x.s).1 (hostV c.n b.out (lowL b.inn a) X.x.s).2.2 else .trap (hostV c.n b.out (lowL b.inn a) X.x.s).2.1 (hostV c.n b.out (lowL b.inn a) X.x.s).2.2:=by
   unfold actV;rw[if_neg (by rw[f.out];decide),if_neg (by rw[f.out];decide),if_neg (by rw[f.out];decide),if_neg (by rw[f.out];decide),if_neg (by rw[f.out];decide),if_pos f.out,if_pos (by rw[m.out];have:=aK.out;omega),aw.out,aI.out]
  refine⟨_,_,rfl,L1.out,J.out.trans (M.out.trans L2.out),fun l=>?_,fun l=>?_⟩
  ·rw[A,if_pos l];show({ t.x with st:=_ }:MaD)=_;rw[z.out];rfl
  ·rw[A,if_neg l];show jK { t.x with st:=_ } t.x.s [] _=_;rw[z.out];rfl
 ·have t1:decide ((c.n:Int)<(j:Int))=false:=by simp;omega
  have A:actV C.p.env c f0.k (argV C.p.env f0.r c f0.V) X.x.s = .call c.n:=by
   unfold actV;rw[if_neg (by rw[f.out];decide),if_neg (by rw[f.out];decide),if_neg (by rw[f.out];decide),if_neg (by rw[f.out];decide),if_neg (by rw[f.out];decide),if_pos f.out,if_neg (by rw[m.out];omega)]
  have az:=cQ A;obtain⟨q,g2,hq,aM,aN⟩:=aZe d.out.kc.ok f.out d.out.ok (by rw[m.out];omega);rw[m.out,Int.toNat_natCast]at hq;have HQ:=cQ hq;have aO:=cQ (show c.n=j+(c.n - j) by omega);have aP:=cQ (show X.x.st.length=rest.length+1 by rw[d.out.st];rfl);clear A hq aM aN G;by_cases hd:rest.length+1=16
  ·have t2:(((rest.length+1:Nat):Int) == 16)=true:=(by simp;omega);have H:=cQ hd;clear hd;go_in;go_wp2;go_ret;refine⟨37,X,rfl,I.out,J.out,(fun l=>by cases l),fun _=>?_⟩;rw[az.out];show _=(if 16<=rest.length+1 then _ else _:MaD);rw[if_pos (by have:=H.out;omega)]
  ·have t2:(((rest.length+1:Nat):Int) == 16)=false:=(by simp;omega);have H:=cQ hd;clear hd;go_in;go_wp2_with fail;refine(aVc C X c.n j (c.n - j) b q va a _ I.out d.out.kc F.out m.out aO.out HQ.out Z.out ax.out (by have:=d.out.dep;have:=aP.out;have:=H.out;omega)).mono ?_;rintro e w1 ⟨rfl,t,v,u,y⟩;have L:=cQ v;have M:=cQ u;have z:=cQ y;clear v u y;go_wp2;go_ret;refine⟨0,t,rfl,L.out,J.out.trans M.out,fun _=>?_,fun l=>absurd rfl l⟩;rw[az.out,z.out];show _=(if 16<=rest.length+1 then _ else _:MaD);rw[if_neg (by have:=d.out.dep;have:=H.out;omega),m.out,Int.toNat_natCast,HQ.out,F.out];dsimp only;rw[aw.out,aJm,d.out.st]
theorem rK(w:Ah){n:Nat}(h:n<18446744073709551616):UR (w.alloc (.cells #[.int .u64 (n:Int)] 62)) (.slice (some ⟨w.heap.size,0,none⟩) 1 1) [n]:=
 ⟨_,1,rfl,Blk.cWt (cs:=#[.int .u64 (n:Int)]) (Blk.new w _ _) rfl,Aj _,(fun e=>by cases e),⟨by simp,by omega⟩,aVo h⟩
theorem aZu{e:EnvD}{c:CodeD}{k:Nat}{a:List Nat}{s:StD}(h:c.op≠276/\c.op≠277/\c.op≠273/\c.op≠274/\c.op≠275/\c.op≠16):actV e c k a s=if(eK c a s).2.1=0 then .vals [(eK c a s).1] (eK c a s).2.2 else .trap (eK c a s).2.1 (eK c a s).2.2:=by
 obtain⟨h1,h2,b,d,f,g⟩:=h;unfold actV;rw[if_neg h1,if_neg h2,if_neg b,if_neg d,if_neg f,if_neg g]
theorem pZ{C:KaC}{X a:KaS}{f0:FrD}{rest:List FrD}{c:CodeD}{w w':Ah}{n:Nat}{s':StD}(ad:X.x.st={ f0 with k:=f0.k+1 } :: rest)(h1:KRef C (mQ a { f0 with k:=f0.k+1 } rest (putV c.outs [n] f0.V)) w')(h2:KK X (mQ a { f0 with k:=f0.k+1 } rest (putV c.outs [n] f0.V)) w w')(b:a.x={ X.x with s:=s' })
  (d:eK c (argV C.p.env f0.r c f0.V) X.x.s=(n,0,s')) (e:c.op≠276/\c.op≠277/\c.op≠273/\c.op≠274/\c.op≠275/\c.op≠16):DoPost C X f0 rest c w (.returned (.int .i64 0)) w':=by
 refine⟨0,_,rfl,h1,h2,fun _=>?_,fun f=>absurd rfl f⟩;rw[aZu e,d,if_pos rfl];show({ a.x with st:=_ }:MaD)=_;rw[b];rfl
theorem yX{C:KaC}{X a:KaS}{f0:FrD}{rest:List FrD}{c:CodeD}{w w':Ah}{n:Nat}{e:Int}{s':StD}(h1:KRef C a w')(h2:KK X a w w')(b:a.x={ X.x with s:=s' })
  (d:eK c (argV C.p.env f0.r c f0.V) X.x.s=(n,e,s')) (he:e≠0) (f:c.op≠276/\c.op≠277/\c.op≠273/\c.op≠274/\c.op≠275/\c.op≠16):DoPost C X f0 rest c w (.returned (.int .i64 e)) w':=by
 refine⟨e,_,rfl,h1,h2,fun g=>absurd g he,fun _=>?_⟩;rw[aZu f,d,if_neg he,b];rfl
theorem aXx{C:KaC}{X a:KaS}{f0:FrD}{rest:List FrD}{c:CodeD}{w w':Ah}{n:Nat}{s':StD}(b:X.x.st={ f0 with k:=f0.k+1 } :: rest)(h1:KRef C a w')(h2:KK X a w w')(d:a.x={ X.x with s:=s' })(e:c.outs = [])
  (f:eK c (argV C.p.env f0.r c f0.V) X.x.s=(n,0,s')) (g:c.op≠276/\c.op≠277/\c.op≠273/\c.op≠274/\c.op≠275/\c.op≠16):DoPost C X f0 rest c w (.returned (.int .i64 0)) w':=by
 refine⟨0,_,rfl,h1,h2,fun _=>?_,fun h=>absurd rfl h⟩;rw[aZu g,f,if_pos rfl,d];show _=({ X.x with st:={ f0 with k:=f0.k+1,V:=putV c.outs [n] f0.V } :: rest,s:=s' }:MaD);rw[e,show putV [] [n] f0.V=f0.V from rfl,<-b]
theorem bYn(C:KaC)(X:KaS)(f0:FrD)(rest:List FrD)(g cS:Nat)(vc:Ai)(c:CodeD)(va:Ai)(a:List Nat)(w:Ah)(h:DoI C X f0 rest g cS vc c va a w)(j:c.op=35)(I:StOk C.p.env X.x.s)(J:X.x.s.globals.length=C.p.env.globals.length):
  Calls cZ 41 #[.pointer (some ⟨C.mm,0,none⟩),.pointer (some ⟨g,rest.length*3,none⟩),vc,va] w (DoPost C X f0 rest c w):=by
 have K:=cK h.ok;rw[j]at K;obtain⟨i,o,hf,aB,L,_⟩:=K;have hf:(C.p.env.globals[c.n]?).map (fun g=>(([]:List Int),[g]))=some (i,o):=hf;obtain⟨t,M,he⟩:=Option.map_eq_some_iff.1 hf;injection he with z e2;subst z;subst e2;have N:X.x.s.globals.length=C.p.env.globals.length:=J;have O:c.n<X.x.s.globals.length:=(by rw[N];exact(List.getElem?_eq_some_iff.1 M).1);obtain⟨y,q⟩:∃ y,X.x.s.globals[c.n]? = some y:=⟨_,List.getElem?_eq_getElem O⟩
 have P:eK c (argV C.p.env f0.r c f0.V) X.x.s=(y,0,X.x.s):=by
  unfold eK;rw[j,if_neg (by decide),if_neg (by decide),if_neg (by decide),if_neg (by decide),if_pos rfl,AK,q];rfl
 have ak:=cQ P;have aC:=cQ (show c.outs.length = [y].length from L);have aD:=cQ (show c.op≠276/\c.op≠277/\c.op≠273/\c.op≠274/\c.op≠275/\c.op≠16 by rw[j];decide);have al:=I.g64 y (Ad q);obtain⟨u,gc,v,Q⟩:∃ G c,C.gv = .slice (some ⟨G,0,none⟩) X.x.s.globals.length c/\G<w.heap.size:=(by obtain⟨G,c,z,e2,_⟩:=kY h.ref.glo (by omega);exact⟨G,c,z,e2⟩);have A:=h.ref.glo;rw[v]at A;have R:w.cell? ⟨u,c.n,none⟩=some (.int .u64 (y:Int)):=(by rw[A.cellAt c.n (by omega)];simp[u64V,q]);have aE:=cQ (show eQ c.op = .tuple #[.int .i64 0,.int .i64 0,.bool false,.bool false] by rw[j];rfl);have aP:(c.op == 35)=true:=(by rw[j];rfl);obtain⟨NG,S⟩:=cX X.x.s.globals.length;rw[S]at O v;have aF:(c.n:Int)<(NG:Int):=(by omega);obtain⟨T,cb,U,rfl,B,aG,aH,aI⟩:=h.code;have W:=(Aw w.heap.size w).alloc (Aj _) (.cells #[.int .i64 c.op,.int .u64 (c.n:Int),T,cb,U] 80);have f:=cQ h;have D:=cQ (Blk.new w 80 #[.int .i64 c.op,.int .u64 (c.n:Int),T,cb,U]);have E:=cQ W;have aJ : -9223372036854775808<=c.op/\c.op<=9223372036854775807:=B.2;have aK:c.n<18446744073709551616:=B.1;have aL:=h.ref.bel.size;have aM:=cQ v;have aN:=cQ R;clear h W B aG aH aI P L aB hf j q M J N S v R A I;go_in;go_wp2_with fail;refine(gW c.op _).mono ?_;rintro e l ⟨rfl,F⟩;have m:=cQ (E.out.trans (F.mono E.out.size));have d:=cQ (f.out.ref.below m.out);have aO:=cQ (KK.cWq (x:=X) m.out);have Y:=cQ (D.out.below F D.out.lt);have aQ:=cQ (f.out.ur.below m.out (Aj _));have aR:=cQ (KRef.fresh f.out.ref.toKRest (Aj w.heap.size));obtain⟨b0,b1,b2,b3,b4⟩:=dX Y.out;have yB:=Y.out.lt;have m1:=d.out.cWp;have yb:=d.out.cb.lt;have ym:=d.out.mm.lt;have d2:l.cell? ⟨C.cb,2,none⟩=some C.b:=d.out.cell 2;have d6:l.cell? ⟨C.cb,6,none⟩=some X.mv:=d.out.cell 6;have d7:l.cell? ⟨C.cb,7,none⟩=some (.int .i64 X.x.s.most):=d.out.cell 7;have d8:l.cell? ⟨C.cb,8,none⟩=some C.gv:=d.out.cell 8;clear F E D;have cy:l.cell? ⟨u,c.n,none⟩=some (.int .u64 (y:Int)):=(m.out.cell (p:=⟨u,c.n,none⟩) Q).trans aN.out;have yg:u<l.heap.size:=Ak Q m.out.size;rw[aM.out]at d8;rw[aE.out];go_wp2_with fail;go_quiet (fail);go_wp2_with fail;refine(iW C X { f0 with k:=f0.k+1 } rest g cS _ c _ [y] _ ((d.out.drewN _).below ((Aw _ _).alloc (Aj _) _)) f.out.st f.out.sv f.out.code (rK _ al) (fun k H=>by injection H with H;rw[<-H,KRef.fresh (d.out.drewN _).toKRest (Aj _)];omega) f.out.outs (Ab aC.out.symm)).mono ?_;rintro e w9 ⟨rfl,Z,l2⟩;have L1:=cQ Z;have L2:=cQ l2;clear Z l2;go_wp2;go_ret;exact pZ f.out.st L1.out (((aO.out.below (dW (Aw _ _) _)).below ((Aw _ _).alloc (Aj _) _)).trans L2.out) rfl ak.out aD.out
theorem bYo(C:KaC)(X:KaS)(f0:FrD)(rest:List FrD)(g cS:Nat)(vc:Ai)(c:CodeD)(va:Ai)(a:List Nat)(w:Ah)(h:DoI C X f0 rest g cS vc c va a w)(j:c.op=63)(E:StOk C.p.env X.x.s):
  Calls cZ 41 #[.pointer (some ⟨C.mm,0,none⟩),.pointer (some ⟨g,rest.length*3,none⟩),vc,va] w (DoPost C X f0 rest c w):=by
 have O:=cK h.ok;obtain⟨i,o,hf,P,F,_⟩:=O
 have G:eK c (argV C.p.env f0.r c f0.V) X.x.s=(X.x.s.mem.length / 256,0,X.x.s):=by
  unfold eK;rw[j,if_neg (by decide),if_neg (by decide),if_neg (by decide),if_neg (by decide),if_neg (by decide),if_neg (by decide),if_neg (by decide)];rfl
 have H:c.outs.length=1:=by
  have d:=hf;rw[j]at d;have d:hZ C.p.env.mem 63 c.n=some (i,o):=d;unfold hZ at d
  split at d
  ·cases d
  ·rw[if_neg (by decide),show acc 63=none from rfl]at d;dsimp only at d;rw[if_pos rfl]at d
   split at d
   ·injection d with d;injection d with _ e2;rw[F,<-e2];rfl
   ·cases d
 have Q:=cQ G;obtain⟨m,t⟩:=cX X.x.s.mem.length;have R:=cQ (show c.outs.length = [m / 256].length from H);have S:=cQ (show c.op≠276/\c.op≠277/\c.op≠273/\c.op≠274/\c.op≠275/\c.op≠16 by rw[j];decide);have aA:m<=4096:=(by have:=E.cWy;omega);have T:=cQ (show eQ c.op = .tuple #[.int .i64 0,.int .i64 0,.bool false,.bool false] by rw[j];rfl);have aL:(c.op == 35)=false:=(by rw[j];rfl);have aM:(c.op == 36)=false:=(by rw[j];rfl);have aN:(c.op == 63)=true:=(by rw[j];rfl);have hdiv:((m:Int).tdiv 256)=((m / 256:Nat):Int):=(by rw[Int.tdiv_eq_ediv_of_nonneg (by omega)];rfl);have aO:IntKind.u64.wrap ((m / 256:Nat):Int)=((m / 256:Nat):Int):=iK (by omega);obtain⟨AM,cM,u⟩:=h.ref.mem.shape;rw[t]at u;obtain⟨I,cb,J,rfl,v,U,W,Y⟩:=h.code;have K:=(Aw w.heap.size w).alloc (Aj _) (.cells #[.int .i64 c.op,.int .u64 (c.n:Int),I,cb,J] 80);have l:=cQ h;have y:=cQ (Blk.new w 80 #[.int .i64 c.op,.int .u64 (c.n:Int),I,cb,J]);have z:=cQ K;have aF : -9223372036854775808<=c.op/\c.op<=9223372036854775807:=v.2;have aG:c.n<18446744073709551616:=v.1;have aH:=h.ref.bel.size;have Z:=cQ u;have aJ:=cQ t;clear h K v U W Y G F P hf j H u t E;go_in;go_wp2_with fail;refine(gW c.op _).mono ?_;rintro e q ⟨rfl,A⟩;have B:=cQ (z.out.trans (A.mono z.out.size));have f:=cQ (l.out.ref.below B.out);have aK:=cQ (KK.cWq (x:=X) B.out);have L:=cQ (y.out.below A y.out.lt);have aP:=cQ (l.out.ur.below B.out (Aj _));have aQ:=cQ (KRef.fresh l.out.ref.toKRest (Aj w.heap.size));obtain⟨b0,b1,b2,b3,b4⟩:=dX L.out;have yB:=L.out.lt;have m1:=f.out.cWp;have yb:=f.out.cb.lt;have ym:=f.out.mm.lt;have d2:q.cell? ⟨C.cb,2,none⟩=some C.b:=f.out.cell 2;have d6:q.cell? ⟨C.cb,6,none⟩=some X.mv:=f.out.cell 6;have d7:q.cell? ⟨C.cb,7,none⟩=some (.int .i64 X.x.s.most):=f.out.cell 7;have d8:q.cell? ⟨C.cb,8,none⟩=some C.gv:=f.out.cell 8;clear A z y;rw[Z.out]at d6;rw[T.out];go_wp2_with fail;refine(iW C X { f0 with k:=f0.k+1 } rest g cS _ c _ [(m / 256)] _ (f.out.below ((Aw _ _).alloc (Aj _) _)) l.out.st l.out.sv l.out.code (rK _ (by omega)) (fun k D=>by injection D with D;rw[<-D,KRef.fresh f.out.toKRest (Aj _)];omega) l.out.outs (Ab R.out.symm)).mono ?_;rintro e w9 ⟨rfl,M,N⟩;have L1:=cQ M;have L2:=cQ N;clear M N;go_wp2;go_ret;exact pZ l.out.st L1.out ((aK.out.below ((Aw _ _).alloc (Aj _) _)).trans L2.out) rfl (aJ.out ▸ Q.out) S.out
theorem bYp(m:List Nat)(most:Int)(y:Nat)(h:m.length<=4096):(gX m most y).length<=4096:=by
 unfold gX
 split
 ·rename_i a;unfold tV at a;simp only[decide_eq_true_eq]at a;rw[AZ,List.length_replicate];omega
 ·exact h
theorem aXy{w:Ah}{base:Nat}{e:TypeId}{v:Ai}{l:List Nat}(h:w.ownsRow base e 1 v l.length (bys l))(a:AllB l)(hl:l.length<=1000000000):BR w v l:=by
 rcases h.2 with⟨h1,h2⟩ | ⟨g,cap,cur,h1,_,_,b,c,_⟩
 ·have hn:l = []:=Av h2;subst hn;subst h1;exact⟨none,0,rfl,Src.nil _ _,Aj _,fun _=>rfl,⟨by simp,by omega⟩,a⟩
 ·subst h1;exact⟨_,cap,rfl,Src.cWx h,b,(fun e=>by cases e),⟨by omega,by unfold maxLen at c;omega⟩,a⟩
theorem cJi{w:Ah}{b o n c:Nat}{t:Int}(d:b<w.heap.size)(hc:w.cell? ⟨b,o+n,none⟩=some (.int .i64 t)):IR w (.slice (some ⟨b,o+n,none⟩) 1 c) [t]:=
 ⟨_,c,rfl,rfl,fun _=>⟨b,o+n,rfl,d,fun j u a=>by
  match j,a with
  | 0,a=>
   simp[i64s]at a;subst a
   exact hc⟩⟩
theorem KC.cWo{C:KaC}(c:KC C):Ints C.w0 C.b C.p.env.globals:=by
 obtain⟨a,b,d,f,e,_,h2,_,_⟩:=c.rows;injection e with e;injection e with e;simp only[List.cons.injEq,and_true]at e;obtain⟨_,_,g,_⟩:=e;rw[g];exact h2
theorem bYq(C:KaC)(X:KaS)(f0:FrD)(rest:List FrD)(g cS:Nat)(vc:Ai)(c:CodeD)(va:Ai)(a:List Nat)(w:Ah)(h:DoI C X f0 rest g cS vc c va a w)(m:c.op=36)(hG:X.x.s.globals.length=C.p.env.globals.length):
  Calls cZ 41 #[.pointer (some ⟨C.mm,0,none⟩),.pointer (some ⟨g,rest.length*3,none⟩),vc,va] w (DoPost C X f0 rest c w):=by
 have ae:=cK h.ok;rw[m]at ae;obtain⟨i,o,hf,aJ,aK,_⟩:=ae;have hf:(match C.p.env.globals[c.n]?,C.p.env.muts[c.n]? with | some g,some true=>some ([g],[]) | _,_=>none)=some (i,o):=hf
 obtain⟨t,N,B,e2⟩:∃ t,C.p.env.globals[c.n]? = some t/\i = [t]/\o = []:=by
  revert hf
  split
  ·rename_i t h1 h2;intro e;injection e with e;injection e with B e2;exact⟨t,h1,B.symm,e2.symm⟩
  ·intro e;cases e
 subst B;subst e2
 have aL:inK C.p.env f0.r.sig c = [t]:=by
  unfold inK;rw[m,show dZ C.p.env f0.r.sig 36 c.n=_ from hf];rfl
 obtain⟨x,F⟩:∃ x,a = [x]:=by
  have hl:a.length=1:=by rw[h.args];unfold getV;rw[Ac];exact aJ
  match a,hl with
  | [x],_=>exact⟨x,rfl⟩
 have aQ:=h.ur.all x (by rw[F];exact List.mem_singleton.2 rfl);have aM:argV C.p.env f0.r c f0.V = [jX t x]:=(by unfold argV;rw[aL,<-h.args,F];rfl)
 have al:eK c (argV C.p.env f0.r c f0.V) X.x.s=(0,0,{ X.x.s with globals:=X.x.s.globals.set c.n (jX t x) }):=by
  rw[aM];unfold eK;rw[m,if_neg (by decide),if_neg (by decide),if_neg (by decide),if_neg (by decide),if_neg (by decide),if_pos rfl];rfl
 have az:=cQ al;have aR:=cQ (show c.op≠276/\c.op≠277/\c.op≠273/\c.op≠274/\c.op≠275/\c.op≠16 by rw[m];decide);have aS:=cQ (Av (show c.outs.length=0 from aK));have aA:c.n<X.x.s.globals.length:=(by rw[hG];exact(List.getElem?_eq_some_iff.1 N).1);obtain⟨u,O⟩:=cX X.x.s.globals.length;obtain⟨l,gc,P,aT⟩:∃ G c,C.gv = .slice (some ⟨G,0,none⟩) X.x.s.globals.length c/\G<w.heap.size:=(by obtain⟨G,c,B,e2,_⟩:=kY h.ref.glo (by omega);exact⟨G,c,B,e2⟩);have an:u=C.p.env.globals.length:=(by omega);obtain⟨BA,H,I⟩:=(KC.cWo h.kc).shape;have v:=KC.cWo h.kc;rw[I]at v;obtain⟨Q,R,aU,aN,aO⟩:=v.ir.cell N;subst aU;have ao:=v.cWr.2.1;have aD:=v.cWr.2.2.2;rw[<-an]at I ao v;rw[O]at P aA;have aV:(c.n:Int)<(u:Int):=(by omega);have bm:(0:Int)<=(c.n:Int)+1:=(by omega);have bn:(c.n:Int)+1<=(H:Int):=(by omega);have bp:¬H=c.n:=(by omega);have bq:IntKind.u64.wrap ((c.n:Int)+1)=((c.n+1:Nat):Int):=(by rw[show(c.n:Int)+1=((c.n+1:Nat):Int) by omega];exact iK (by omega));have aW:=cQ (show eQ c.op = .tuple #[.int .i64 0,.int .i64 0,.bool false,.bool false] by rw[m];rfl);have br:(c.op == 35)=false:=(by rw[m];rfl);have bs:(c.op == 36)=true:=(by rw[m];rfl);have HX:=cQ F;obtain⟨ca,cb,cd,rfl,S,aX,aY,aZ⟩:=h.code;have hB:=(Aw w.heap.size w).alloc (Aj _) (.cells #[.int .i64 c.op,.int .u64 (c.n:Int),ca,cb,cd] 80);have J:=cQ h;have T:=cQ (Blk.new w 80 #[.int .i64 c.op,.int .u64 (c.n:Int),ca,cb,cd]);have U:=cQ hB;have a1 : -9223372036854775808<=c.op/\c.op<=9223372036854775807:=S.2;have a6:c.n<18446744073709551616:=S.1;have a7:=h.ref.bel.size;have z:=cQ P;have W:=cQ I;have a8:=cQ aO;have aP:=cQ aN;have ba:=cQ O;clear h hB S aX aY aZ al aK aJ hf m N hG O P aL F aM v I an aN aO;go_in;go_wp2_with fail;refine(gW c.op _).mono ?_;rintro e j ⟨rfl,Y⟩;have L:=cQ (U.out.trans (Y.mono U.out.size));have k:=cQ (J.out.ref.below L.out);have bd:=cQ (KK.cWq (x:=X) L.out);have Z:=cQ (T.out.below Y T.out.lt);have be:=cQ (J.out.ur.below L.out (Aj _));have bt:=cQ (KRef.fresh J.out.ref.toKRest (Aj w.heap.size));obtain⟨b0,b1,b2,b3,b4⟩:=dX Z.out;have yB:=Z.out.lt;have m1:=k.out.cWp;have yb:=k.out.cb.lt;have ym:=k.out.mm.lt;have d2:j.cell? ⟨C.cb,2,none⟩=some C.b:=k.out.cell 2;have d6:j.cell? ⟨C.cb,6,none⟩=some X.mv:=k.out.cell 6;have d7:j.cell? ⟨C.cb,7,none⟩=some (.int .i64 X.x.s.most):=k.out.cell 7;have d8:j.cell? ⟨C.cb,8,none⟩=some C.gv:=k.out.cell 8;clear Y U T;have yg:l<j.heap.size:=Ak aT L.out.size;rw[z.out]at d8;rw[W.out]at d2;rw[aW.out];go_wp2_with fail;refine iJ (fun w'=>w'.cell? ⟨C.mm,0,none⟩=some (.pointer (some ⟨C.cb,0,none⟩))/\w'.cell? ⟨C.cb,8,none⟩=some (.slice (some ⟨l,0,none⟩) u gc)/\w'.cell? ⟨C.cb,2,none⟩=some (.slice (some ⟨Q,R,none⟩) u H)/\w'.cell? ⟨w.heap.size,1,none⟩=some (.int .u64 (c.n:Int))/\C.mm<w'.heap.size/\C.cb<w'.heap.size/\w.heap.size<w'.heap.size) (fun _=>True) 1000 (by kernel_rfl) ⟨m1,d8,d2,b1,ym,yb,yB⟩ trivial (fun d=>?_);refine wtk 0 d (fun d=>?_);refine wtk 1 d (fun d=>?_);refine wtk 2 d (fun d=>?_);refine wtk 3 d (fun d=>?_);refine wtk 4 d (fun d=>?_)
 refine wtk 5 d (fun d=>?_);refine wtk 6 d (fun d=>?_);refine wtk 7 d (fun d=>?_);refine wtk 8 d (fun d=>?_);refine wtk 9 d (fun d=>?_);refine wtk 10 d (fun d=>?_);refine wtk 11 d (fun d=>?_);refine wtk 12 d (fun d=>?_);refine wtk 13 d (fun d=>?_);refine wtk 14 d (fun d=>?_);refine wtk 15 d (fun d=>?_);refine wtk 16 d (fun d=>?_);refine wtk 17 d (fun d=>?_);refine wtk 18 d (fun d=>?_);refine wtk 19 d (fun d=>?_);refine wtk 20 d (fun d=>?_);refine wtk 21 d (fun d=>?_);refine wtk 22 d (fun d=>?_);refine wtk 23 d (fun d=>?_);refine wtk 24 d (fun d=>?_);refine wtk 25 d (fun d=>?_);refine dQ (i:=26) (by kernel_rfl) rfl (fun K f=>?_);go_simp;refine(qX _ _ [t] a _ (cJi (Ak aP.out (show C.w0.heap.size<=j.drew.heap.size from k.out.bel.size)) (((show Below C.w0.heap.size C.w0 j.drew from k.out.bel.drew).cell (p:=⟨Q,R+c.n,none⟩) aP.out).trans a8.out)) (show UR j.drew va a from be.out) (by rw[HX.out];rfl)).mono ?_;rintro e w2 ⟨v3,rfl,D,E⟩;rw[HX.out]at D;obtain⟨A3,c3,rfl,bu⟩:=cJ D;obtain⟨g3,bw,e3,bx,bz,_⟩:=kY D (by simp);injection e3 with e3 _ bA;subst e3;have bf:w2.cell? ⟨g3,0,none⟩=some (.int .u64 (jX t x:Int)):=D.cellAt 0 (by simp);have q:=cQ (k.out.drew.below E);have bg:=cQ (bd.out.drew.below E);have ai:=cQ (Z.out.drew.below E (show w.heap.size<j.drew.heap.size from yB));have SS:w2.cell? ⟨C.mm,0,none⟩=some (.pointer (some ⟨C.cb,0,none⟩))/\w2.cell? ⟨C.cb,8,none⟩=some (.slice (some ⟨l,0,none⟩) u gc)/\w2.cell? ⟨C.cb,2,none⟩=some (.slice (some ⟨Q,R,none⟩) u H)/\w2.cell? ⟨w.heap.size,1,none⟩=some (.int .u64 (c.n:Int))/\C.mm<w2.heap.size/\C.cb<w2.heap.size/\w.heap.size<w2.heap.size:=⟨q.out.cWp,z.out ▸ q.out.cell 8,W.out ▸ q.out.cell 2,ai.out.cell 1,q.out.mm.lt,q.out.cb.lt,ai.out.lt⟩;have aI:=cQ SS;have bB:l<w2.heap.size:=Ak yg (show j.heap.size<=w2.heap.size from E.size);have M:=q.out.glo;rw[z.out,ba.out]at M;obtain⟨pv,bh⟩:=zX M (show c.n<u by omega);have bj:w2.frozen? ⟨l,c.n,none⟩=false:=M.frozenAt _;clear D E SS M;refine f.out _ _ ⟨aI.out,fun _=>trivial⟩ (fun d=>?_);clear f K
 try simp only[AQ,Aq,Ax,Az]
 refine dQ (i:=27) (by kernel_rfl) rfl (fun K f=>?_);go_simp;refine f.out _ _ ⟨aI.out,fun _=>trivial⟩ (fun d=>?_);clear f K
 try simp only[AQ,Aq,Ax,Az]
 refine dQ (i:=28) (by kernel_rfl) rfl (fun K f=>?_);go_simp;refine f.out _ _ ⟨aI.out,fun _=>trivial⟩ (fun d=>?_);clear f K
 try simp only[AQ,Aq,Ax,Az]
 refine wtk 29 d (fun d=>?_);refine dQ (i:=30) (by kernel_rfl) rfl (fun K f=>?_);go_simp;have A:=cQ (q.out.cYy z.out c.n (jX t x));have bk:=cQ (bg.out.set (y:=X) (g:=l) c.n (.int .u64 (jX t x:Int)) (.inl (by rw[q.out.l3 l (by rw[z.out];rfl)];decide)) rfl);have au:=cQ (ai.out.setCell (p:=⟨l,c.n,none⟩) (.int .u64 (jX t x:Int)) (fun e=>by have e:w.heap.size=l:=e;omega));refine f.out _ _ ⟨⟨A.out.cWp,z.out ▸ A.out.cell 8,W.out ▸ A.out.cell 2,au.out.cell 1,A.out.mm.lt,A.out.cb.lt,au.out.lt⟩,fun _=>trivial⟩ (fun d=>?_);clear f K
 try simp only[AQ,Aq,Ax,Az]
 refine iZ (by kernel_rfl) ?_ _;clear d;clear bf bh bj m1 d2 d6 d7 d8 b0 b1 b2 b3 b4;go_wp2;go_ret;exact aXx J.out.st A.out (bk.out.to rfl) rfl aS.out az.out aR.out
theorem bYr(C:KaC)(X:KaS)(f0:FrD)(rest:List FrD)(g cS:Nat)(vc:Ai)(c:CodeD)(va:Ai)(a:List Nat)(w:Ah)(h:DoI C X f0 rest g cS vc c va a w)(u:c.op=64)(T:StOk C.p.env X.x.s):
  Calls cZ 41 #[.pointer (some ⟨C.mm,0,none⟩),.pointer (some ⟨g,rest.length*3,none⟩),vc,va] w (DoPost C X f0 rest c w):=by
 have ag:=cK h.ok;rw[u]at ag;obtain⟨i,o,hf,aL,aM,_⟩:=ag
 obtain⟨U,e2⟩:i = [127]/\o = [127]:=by
  have q:hZ C.p.env.mem 64 c.n=some (i,o):=hf;unfold hZ at q
  split at q
  ·cases q
  ·rw[if_neg (by decide),show acc 64=none from rfl]at q;dsimp only at q;rw[if_neg (by decide),if_pos rfl]at q
   split at q
   ·injection q with q;injection q with U e2;exact⟨U.symm,e2.symm⟩
   ·cases q
 subst U;subst e2
 have aN:inK C.p.env f0.r.sig c = [127]:=by
  unfold inK;rw[u,hf];rfl
 obtain⟨x,P⟩:∃ x,a = [x]:=by
  have hl:a.length=1:=by rw[h.args];unfold getV;rw[Ac];exact aL
  match a,hl with
  | [x],_=>exact⟨x,rfl⟩
 have aX:=h.ur.all x (by rw[P];exact List.mem_singleton.2 rfl);obtain⟨y,hy⟩:=cX (x % 4294967296);have aY:y<4294967296:=(by omega);have aO:argV C.p.env f0.r c f0.V = [y]:=(by unfold argV;rw[aN,<-h.args,P,<-hy];rfl);obtain⟨D,Q⟩:=cX X.x.s.mem.length
 have an:eK c (argV C.p.env f0.r c f0.V) X.x.s=(oQ D X.x.s.most y,0,{ X.x.s with mem:=gX X.x.s.mem X.x.s.most y }):=by
  rw[aO,<-Q];unfold eK;rw[u,if_neg (by decide),if_neg (by decide),if_neg (by decide),if_neg (by decide),if_neg (by decide),if_neg (by decide),if_neg (by decide)];rfl
 have az:=cQ an;have aZ:=cQ (show c.outs.length = [oQ D X.x.s.most y].length from aM);have a1:=cQ (show c.op≠276/\c.op≠277/\c.op≠273/\c.op≠274/\c.op≠275/\c.op≠16 by rw[u];decide);have a6:IntKind.u32.wrap (x:Int)=(y:Int):=(by rw[IntKind.wrap_u32];omega);have a7:IntKind.u64.wrap (y:Int)=(y:Int):=iK (by omega);obtain⟨W,Y,R⟩:=h.ref.mem.shape;have Z:=h.ref.mem;rw[Q]at R;rw[R]at Z;have S:=h.ur;obtain⟨A1,c1,aP⟩:=S.shape;rw[P]at aP S;subst aP;obtain⟨ab,H,a8,aQ,aB,_⟩:=S.cell (k:=0) (x:=x) rfl;subst a8;rw[Nat.add_zero]at aB;have ba:=cQ (show eQ c.op = .tuple #[.int .i64 0,.int .i64 0,.bool false,.bool false] by rw[u];rfl);have bp:(c.op == 35)=false:=(by rw[u];rfl);have bq:(c.op == 36)=false:=(by rw[u];rfl);have br:(c.op == 63)=false:=(by rw[u];rfl);have bs:(c.op == 64)=true:=(by rw[u];rfl);have aC:oQ D X.x.s.most y<18446744073709551616:=(by unfold oQ;have:=T.cWy;split <;> omega);obtain⟨ca,cb,cd,rfl,ah,bb,bc,bd⟩:=h.code;have hB:=(Aw w.heap.size w).alloc (Aj _) (.cells #[.int .i64 c.op,.int .u64 (c.n:Int),ca,cb,cd] 80);have t:=cQ h;have aD:=cQ (Blk.new w 80 #[.int .i64 c.op,.int .u64 (c.n:Int),ca,cb,cd]);have aE:=cQ hB;have be : -9223372036854775808<=c.op/\c.op<=9223372036854775807:=ah.2;have bf:c.n<18446744073709551616:=ah.1;have bg:=h.ref.bel.size;have aF:=cQ R;have L:=cQ Z;have bh:=cQ aB;have aR:=cQ aQ;have HS:=cQ T;have bt:=cQ Q;clear h hB ah bb bc bd an aM aL hf u aN P aO R Z S aB aQ T hy Q;go_in;go_wp2_with fail;refine(gW c.op _).mono ?_;rintro e z ⟨rfl,aG⟩;have I:=cQ (aE.out.trans (aG.mono aE.out.size));have A:=cQ (t.out.ref.below I.out);have aS:=cQ (KK.cWq (x:=X) I.out);have ai:=cQ (aD.out.below aG aD.out.lt);have bu:=cQ (t.out.ur.below I.out (Aj _));have bj:=cQ (KRef.fresh t.out.ref.toKRest (Aj w.heap.size));obtain⟨b0,b1,b2,b3,b4⟩:=dX ai.out;have yB:=ai.out.lt;have m1:=A.out.cWp;have yb:=A.out.cb.lt;have ym:=A.out.mm.lt;have d2:z.cell? ⟨C.cb,2,none⟩=some C.b:=A.out.cell 2;have d6:z.cell? ⟨C.cb,6,none⟩=some X.mv:=A.out.cell 6;have d7:z.cell? ⟨C.cb,7,none⟩=some (.int .i64 X.x.s.most):=A.out.cell 7;have d8:z.cell? ⟨C.cb,8,none⟩=some C.gv:=A.out.cell 8;clear aG aE aD;have aH:z.cell? ⟨ab,H,none⟩=some (.int .u64 (x:Int)):=(I.out.cell (p:=⟨ab,H,none⟩) aR.out).trans bh.out;have ya:ab<z.heap.size:=Ak aR.out I.out.size;rw[aF.out]at d6;rw[ba.out];go_wp2_with fail;refine iJ (fun w'=>w'.cell? ⟨C.mm,0,none⟩=some (.pointer (some ⟨C.cb,0,none⟩))/\w'.cell? ⟨C.cb,7,none⟩=some (.int .i64 X.x.s.most)/\w'.cell? ⟨ab,H,none⟩=some (.int .u64 (x:Int))/\C.mm<w'.heap.size/\C.cb<w'.heap.size/\ab<w'.heap.size) (fun w'=>w'.cell? ⟨C.cb,6,none⟩=some (.slice W D Y)) 32 (by kernel_rfl) ⟨m1,d7,aH,ym,yb,ya⟩ d6 (fun d=>?_);refine wtk 0 d (fun d=>?_);refine wtk 1 d (fun d=>?_);refine wtk 2 d (fun d=>?_);refine wtk 3 d (fun d=>?_);refine wtk 4 d (fun d=>?_);refine wtk 5 d (fun d=>?_);refine wtk 6 d (fun d=>?_);refine wtk 7 d (fun d=>?_);refine wtk 8 d (fun d=>?_);refine wtk 9 d (fun d=>?_);refine wtk 10 d (fun d=>?_);refine nZ (i:=11) (v:=?vg11) rfl (by kernel_rfl) (by kernel_rfl) (by kernel_rfl) (fun _ _ _ h=>h) rfl (by kernel_rfl) (by kernel_rfl) (Or.inl ⟨by rfl,?hyg11⟩) d (fun d=>?_)
 case hyg11=>intro w bk;(try dsimp only at bk);go_simp;(try with_reducible rfl)
 try simp only[AQ,Aq,Ax,Az]
 refine wtk 12 d (fun d=>?_);refine wtk 13 d (fun d=>?_);refine wtk 14 d (fun d=>?_);refine wtk 15 d (fun d=>?_);refine wtk 16 d (fun d=>?_);refine wtk 17 d (fun d=>?_);refine wtk 18 d (fun d=>?_);refine wtk 19 d (fun d=>?_);refine wtk 20 d (fun d=>?_);refine wtk 21 d (fun d=>?_);refine wtk 22 d (fun d=>?_);refine wtk 23 d (fun d=>?_);refine wtk 24 d (fun d=>?_);refine dQ (i:=25) (by kernel_rfl) rfl (fun K M=>?_);go_simp;refine(cQr W D Y X.x.s.mem X.x.s.most y z.drew ((L.out.below I.out.drew (Aj _)).len.2.1) (fun e=>⟨(by have:=L.out.len;have h0:=this.2.2.2.1 e;omega),L.out.len.2.2.2.1 e⟩) (L.out.len.2.2.2.2.1.1) (by have:=HS.out.memL;omega) (by have:=HS.out.most;omega) (by omega)).mono ?_;rintro e w2 ⟨f,l,rfl,E,J⟩;obtain⟨m,aT⟩:=cX ((gX X.x.s.mem X.x.s.most y).length);have aI:=aXy E (aVm L.out.len.2.2.2.2.2 _ _) (by have h1:=HS.out.cWy;have:=bYp X.x.s.mem X.x.s.most y h1;omega);rw[aT]at E aI ⊢;have B:=cQ (A.out.drew.below J);have bm:=cQ (aS.out.drew.below J);have bn:=cQ aI;have aU:=cQ (fun(j:Nat) (F:(AX f m l).ownBlock=some j)=>(⟨KRef.fresh A.out.drew.toKRest (E.lt j F).1,Aa A.out.drew.bel.size (E.lt j F).1,(E.lt j F).2⟩:X.lab j=0/\C.w0.heap.size<=j/\j<w2.heap.size));have bo:=cQ (fun(j:Nat) (F:(AX f m l).ownBlock=some j)=>Aa aS.out.size (E.lt j F).1);have N:=cQ (show w2.cell? ⟨ab,H,none⟩=some (.int .u64 (x:Int))/\ab<w2.heap.size from⟨(J.cell (p:=⟨ab,H,none⟩) (show ab<z.drew.heap.size from ya)).trans aH,Ak (show ab<z.drew.heap.size from ya) J.size⟩);have aJ:=cQ (ai.out.drew.below J (show w.heap.size<z.drew.heap.size from yB));clear E J aI aT;refine M.out _ _ ⟨⟨B.out.cWp,B.out.cell 7,N.out.1,B.out.mm.lt,B.out.cb.lt,N.out.2⟩,fun _=>aF.out ▸ B.out.cell 6⟩ (fun d=>?_);clear M K
 try simp only[AQ,Aq,Ax,Az]
 refine wtk 26 d (fun d=>?_);refine wtk 27 d (fun d=>?_);refine wtk 28 d (fun d=>?_);refine wtk 29 d (fun d=>?_);refine wtk 30 d (fun d=>?_);refine wtk 31 d (fun d=>?_);have e6:w2.cell? ⟨C.cb,6,none⟩=some (.slice W D Y):=aF.out ▸ B.out.cell 6;have f6:=frz B.out.cb 6;refine dQ (i:=32) (by kernel_rfl) rfl (fun K M=>?_);go_simp;have G:=cQ ((B.out.cWs (.slice f m l) 6 aU.out).cYk (.slice f m l) (gX X.x.s.mem X.x.s.most y) bn.out (fun k O=>nQ O));have aV:=cQ ((bm.out.cWs (v:=.slice f m l) (c:=6) (fun j F=>.inl (bo.out j F))).set (y:={ X with lab:=eZ X.lab (.slice f m l) 6 }) (g:=C.cb) 6 (.slice f m l) (.inl (by show eZ X.lab _ 6 C.cb≠0;rw[jY (fun e=>by have h1:=(aU.out _ e).1;rw[B.out.cl]at h1;cases h1),B.out.cl];decide)) rfl);have aW:=cQ (show(w2.setCell ⟨C.cb,6,none⟩ (.slice f m l)).cell? ⟨ab,H,none⟩=some (.int .u64 (x:Int))from(tW (fun e=>by have h1:=t.out.free ab rfl;rw[e,t.out.ref.cl]at h1;cases h1)).trans N.out.1);refine M.out _ _ (SD.after ⟨G.out.cWp,G.out.cell 7,aW.out,G.out.mm.lt,G.out.cb.lt,Ak N.out.2 (by simp[World.setCell])⟩ (by kernel_rfl)) (fun d=>?_);clear M K
 try simp only[AQ,Aq,Ax,Az]
 refine wtk 33 d (fun d=>?_);refine iZ (by kernel_rfl) ?_ _;clear d;clear e6 f6 m1 d2 d6 d7 d8 b0 b1 b2 b3 b4 aH;obtain⟨w3,aK⟩:=cX (w2.setCell ⟨C.cb,6,none⟩ (.slice f m l));have au:=cQ (aK ▸ (aJ.out.setCell (p:=⟨C.cb,6,none⟩) (.slice f m l) (fun e=>by have e:w.heap.size=C.cb:=e;have h1:=bj.out;rw[e,t.out.ref.cl]at h1;cases h1)):Blk w3 w.heap.size 80 #[.int .i64 c.op,.int .u64 (c.n:Int),ca,cb,cd]);rw[aK]at G aV ⊢;clear aK aW N;obtain⟨b0,b1,b2,b3,b4⟩:=dX au.out;have bw:=au.out.lt;go_wp2_with fail;refine(iW C { X with lab:=eZ X.lab (.slice f m l) 6,mv:=.slice f m l,x:={ X.x with s:={ X.x.s with mem:=gX X.x.s.mem X.x.s.most y } } } { f0 with k:=f0.k+1 } rest g cS _ c _ [(oQ D X.x.s.most y)] _ (G.out.below ((Aw _ _).alloc (Aj _) _)) t.out.st t.out.sv t.out.code (rK _ aC) (fun k O=>by injection O with O;rw[<-O,KRef.fresh G.out.toKRest (Aj _)];omega) t.out.outs (Ab aZ.out.symm)).mono ?_;rintro e w9 ⟨rfl,l1,l2⟩;have L1:=cQ l1;have L2:=cQ l2;clear l1 l2;go_wp2;go_ret;exact pZ t.out.st L1.out (((aV.out.to (y:={ X with lab:=eZ X.lab (.slice f m l) 6,mv:=.slice f m l,x:={ X.x with s:={ X.x.s with mem:=gX X.x.s.mem X.x.s.most y } } }) rfl).below ((Aw _ _).alloc (Aj _) _)).trans L2.out) rfl az.out a1.out
end Go.Proofs.YtabibkpfgmolkaaDoor

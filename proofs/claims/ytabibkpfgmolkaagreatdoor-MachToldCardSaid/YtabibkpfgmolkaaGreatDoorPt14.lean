/- Lemmas for the claim, part 14. Conditions: none. -/
import Derived.Test.YtabibkpfgmolkaaGreatDoorPt07
import Derived.Test.YtabibkpfgmolkaaGreatDoorPt13
set_option maxRecDepth 100000
set_option maxHeartbeats 16000000
set_option linter.unusedVariables false
set_option linter.unusedSimpArgs false
open Go.Lib renaming hid→fQ
open Go.Proofs.Tryz renaming prog→fZ
open Go.Proofs.Tryz
open Go.RowKit
open Nat renaming le_refl→Aj,lt_of_lt_of_le→Ak,le_trans→AK,le_of_eq→AY,eq_zero_or_pos→Ae,add_zero→Ai,zero_le→Bj
open List renaming setIfInBounds_toArray→Aq,set_cons_zero→Ax,set_cons_succ→Az,eq_nil_of_length_eq_zero→Aw,length_take→AJ,length_map→AQ,length_append→Aa,getD_eq_getElem?_getD→Ab,drop_eq_nil_of_le→Ac,mem_of_getElem?→Ad,length_cons→Af,map_take→Ag
open Go.RowKit.Below renaming refl→Av
open Go.Act renaming put→Ay
open Go.Value renaming slice→AX
open Go.Addr renaming add→AZ,add_lit→Ah
open Go renaming World→Bq,Value→Bx
open Go.Value renaming int->fF,slice->fG,bool->fH,tuple->fI,pointer->fM
open Go.IntKind renaming i64->fN,u64->fO
open Go.Obj renaming cells->fP
open Go.Ending renaming returned->fR
open Option renaming none->fS,some->fT
open Bool renaming true->fU,false->gh
namespace Go.Proofs.YtabibkpfgmolkaaGreatDoor
variable {w w' wr:Bq}{n o SB k x:Nat}{l a:List Nat}{v:Bx}{A:Option Addr}{op:Int}
end Go.Proofs.YtabibkpfgmolkaaGreatDoor
namespace Go.Proofs.YtabibkpfgmolkaaGreatDoor
variable {w w' wr:Bq}{n o SB k x:Nat}{l a:List Nat}{v:Bx}{A:Option Addr}{op:Int}
open List renaming setIfInBounds_toArray->jA,set_cons_zero->jB,set_cons_succ->jC
theorem aVk{P:Program}{ops:Array Oper}{o:Oper}{a:Act}{w:Bq}{K:Act->Bq->Prop}{Q:Exit->Act->Bq->Prop}{E:Prop}(D:o.guard=fS)(s x:Operand)(t:TypeId)
    (F:o.op = .call { callee:=.builtin .append,args:=#[s,x],argTypes:=#[t,t] })
    (base:Nat) (e:TypeId) (z:Bx) (size bytes:Nat) (k:P.underlying t=fT (.slice e)) (hinfo:(P.info? e).map (fun i=>(i.zero,i.size,i.bytes))=fT (fT z,size,bytes)) (G:z.cells.size=size) (y:0<size)
    (v:Bx) (n:Nat) (f:List Bx) (hs:a.eval s=v) (l:w.ownsRow base e size v n f)
    (A:Option Addr) (m c:Nat) (news:List Bx) (H:a.eval x = fG A m c) (d:Src w A (m*size) news) (h1:∀ u∈news,u.oneCell'=fU)
    (I:n+m<=maxLen) (hbytes:(n+m)*bytes<=140737488355328) (hbase:base<=w.heap.size)
    (h:∀ v' w',w'.ownsRow base e size v' (n+m) (f++news)->w.grownBy w' v.ownBlock->(v'.ownBlock=v.ownBlock\/v'.ownBlock=fT w.heap.size)->K (a.put o.dst v') w') :
    if Region.wanted o (yielded ops a.tmps)=fU then Oper.wp P o a w K Q else E:=by
  obtain⟨i,hi,J,L,M⟩:=info_parts hinfo
  have key:∃ v' w',(Builtin.append_ #[t,t] o.type #[v,fG A m c]).run P w = .ok v' w'/\w'.ownsRow base e size v' (n+m) (f++news)/\w.grownBy w' v.ownBlock/\(v'.ownBlock=v.ownBlock\/v'.ownBlock=fT w.heap.size):=by
    rcases A with _|N
    · have O:m=0:=by
        rcases Ae m with p|p
        · exact p
        · obtain⟨b,o,R,_⟩:=d.2 (Nat.mul_pos p y)
          cases R
      subst O;have S:news = []:=Aw (by rw[d.1,Nat.zero_mul]);subst S;refine⟨v,w,?_,by simpa using l,World.grownBy.refl w _,.inl rfl⟩;rcases l.2 with⟨rfl,rfl⟩|⟨g,cap,cur,rfl,_,_,T,_⟩
      · simp[Builtin.append_,run_underlying k,sizeOf,typeInfo,hi,Builtin.lenOf,Builtin.firstCells]
      · simp[Builtin.append_,run_underlying k,sizeOf,typeInfo,hi,Builtin.lenOf,Builtin.firstCells,T,storeCells]
    · obtain⟨v',w',q,h2,r,B,U⟩:=run_append_own_at (P:=P) w base t o.type e i z size bytes k hi J L M G y v n f l N m c news d.1
        (fun j u C=>by
          have hj:=(gw C).1;obtain⟨b,o,e',_,hc⟩:=d.2 (by have:=d.1;omega);injection e' with e';subst e';rw[Ah]
          exact hc j u C) h1 I hbytes hbase
      exact⟨v',w',q,h2,r,U⟩
  obtain⟨v',w',q,h2,r,B⟩:=key;have V:Region.wanted o (yielded ops a.tmps)=fU:=(by simp[Region.wanted,D]);rw[gz V];unfold Oper.wp execOp;simp only[F,resolve,invoke,builtin,Sem.run_bind,Sem.run_pure,Result.andThen_ok,List.map_toArray,List.map_cons,List.map_nil,hs,H,q];exact h v' w' h2 r B
structure mI (C:iO) (X:iL) (w:Bq) (SB:Nat) (cs:Array Bx) (v:Bx) (l:List Nat) (lab:Nat->Nat) (wr:Bq):Prop where
 rest:jl C { X with a8:=lab,lv:=v,x:={ X.x with s:={ X.x.s with a0:=l } } } wr
 cb:gO wr C.cb 68 (ja C X)
 kk:KK X { X with a8:=lab } w wr
 box:gO wr SB 62 cs
 bl:lab SB=0
theorem mI.C{C:iO}{X:iL}{w:Bq}{SB:Nat}{cs:Array Bx}{v:Bx}{l:List Nat}{lab:Nat->Nat}{wr w':Bq}(h:mI C X w SB cs v l lab wr)(a:Below wr.heap.size wr w'):mI C X w SB cs v l lab w':=
 ⟨h.rest.but (Y:={ X with a8:=lab,lv:=v,x:={ X.x with s:={ X.x.s with a0:=l } } }) 0 a.size (h.rest.bel.trans (a.mono h.rest.bel.size)) (fun k b _=>a.block k (h.rest.lb k b).2) (fun k b=>⟨(h.rest.lb k b).1,Ak (h.rest.lb k b).2 a.size⟩) (fun _ _ _=>rfl) h.rest.cl fy (.inr ⟨fy,rfl⟩) (.inr ⟨fy,rfl,rfl⟩) (.inr ⟨fy,rfl,rfl⟩) (.inr ⟨fy,rfl,rfl⟩) (.inr ⟨fy,rfl,rfl,rfl⟩) (.inr ⟨fy,rfl,rfl⟩) ⟨fy,rfl⟩ (.inr ⟨fy,rfl,rfl⟩),
  h.cb.C a h.cb.lt,h.kk.C a,h.box.C a h.box.lt,h.bl⟩
theorem mI.app{C:iO}{X:iL}{cs:Array Bx}{v':Bx}{l':List Nat}{lab:Nat->Nat}(h:mI C X w SB cs v l lab wr)(d:w'.ownsRow C.w0.heap.size 52 1 v' l'.length (hH l'))(hg:wr.grownBy w' v.ownBlock)(b:v'.ownBlock=v.ownBlock\/v'.ownBlock=fT wr.heap.size):mI C X w SB cs v' l' (mY lab v' 4) w':=by
 have l4:∀ k,v.ownBlock=fT k->lab k=4:=h.rest.l4;refine⟨h.rest.gQg d hg b,h.cb.grown hg (fun e=>?_),?_,h.box.grown hg (fun e=>?_),?_⟩
 ·have h1:=l4 _ e;have h2:lab C.cb=1:=h.rest.cl;omega
 ·refine(h.kk.grown hg (fun k a=>.inl (by show lab k≠0;rw[l4 k a];decide))).lH (v:=v') (c:=4) fun k a=>?_;rcases b with e|e
  ·exact .inr (by show lab k≠0;rw[l4 k (by rw[<-e];exact a)];decide)
  ·rw[a]at e;injection e with e;exact .inl (by rw[e];exact h.kk.size)
 ·have h1:=l4 _ e;have h2:=h.bl;omega
 ·rw[uK]
  ·exact h.bl
  ·intro e;rcases b with e2|e2
   ·have h1:=l4 SB (by rw[<-e2];exact e);have h2:=h.bl;omega
   ·rw[e]at e2;injection e2 with e2;have:=h.box.lt;omega
theorem mI.fin{C:iO}{X:iL}{cs:Array Bx}{lab:Nat->Nat}(h:mI C X w SB cs v l lab wr):gU C { X with a8:=lab,lv:=v,x:={ X.x with s:={ X.x.s with a0:=l } } } (wr.setCell ⟨C.cb,11,fS⟩ v)/\KK X { X with a8:=lab } w (wr.setCell ⟨C.cb,11,fS⟩ v)/\gO (wr.setCell ⟨C.cb,11,fS⟩ v) SB 62 cs:=
 ⟨h.rest.fYb h.cb 11 v (by simp[ja]),(h.kk.set (y:={ X with a8:=lab }) (g:=C.cb) 11 v (.inl (by show lab C.cb≠0;rw[show lab C.cb=1 from h.rest.cl];decide)) rfl),h.box.setCell v (fun e=>by
  have e:SB=C.cb:=e;have h2:=h.bl;rw[e,show lab C.cb=1 from h.rest.cl]at h2
  cases h2)⟩
theorem mI.r{C:iO}{X:iL}{p q:Bx}{lab:Nat->Nat}(h:mI C X w SB #[p,q] v l lab wr):wr.cell? ⟨C.mm,0,fS⟩=fT (fM (fT ⟨C.cb,0,fS⟩))/\wr.cell? ⟨SB,0,fS⟩=fT p/\C.mm<wr.heap.size/\C.cb<wr.heap.size/\SB<wr.heap.size:=
 ⟨h.rest.mm.cell 0,h.box.cell 0,h.rest.mm.lt,h.cb.lt,h.box.lt⟩
def HoC(C:iO)(X:iL)(w:Bq)(SB:Nat)(cs:Array Bx)(l:List Nat)(a:Bq):Prop:=∃ (lab:Nat->Nat) (v:Bx),gU C { X with a8:=lab,lv:=v,x:={ X.x with s:={ X.x.s with a0:=l } } } a/\KK X { X with a8:=lab } w a/\gO a SB 62 cs/\lab SB=0
theorem eVp{c:Nat}{l:List Int}(h:IR w (fG A n c) l)(hk:k<=n):IR w (fG A k c) (l.take k):=by
 obtain⟨A',c',e,hs⟩:=h;injection e with b e2 d;subst b;subst d;have a:(l.take k).length=k:=(by rw[AJ];omega);refine⟨A,c,by rw[a],?_⟩;have:=hs.take (i:=k) fu;rw[a];unfold ix at this ⊢
 rwa[<-Ag]at this
theorem eVq{c:Nat}(h:UR w (fG A n c) l)(b:k<=n):UR w (fG A k c) (l.take k):=by
 obtain⟨e,hs,hc,d,hz,f⟩:=h.len;have a:(l.take k).length=k:=(by rw[AJ];omega);refine⟨A,c,by rw[a],?_,fu,d,fu,aWt f k⟩;have:=hs.take (i:=k) b;rw[a];unfold hH at this ⊢
 rwa[<-Ag]at this
theorem eVr{b c:Nat}{a:Option Nat}(h:UR w (fG (fT ⟨b,o,a⟩) n c) l)(f:k<=n):UR w (fG (fT (AZ ⟨b,o,a⟩ k)) (n - k) (c - k)) (l.drop k):=by
 obtain⟨e,hs,hc,h0,hz,g⟩:=h.len;have d:(l.drop k).length=n - k:=(by rw[List.length_drop];omega);refine⟨_,c - k,by rw[d],?_,fu,(fun e=>by cases e),fu,aJt g k⟩;rw[d];rcases Ae n with h1|h1
 ·have:l = []:=Aw fu;subst this;rw[show n - k=0 by omega,List.drop_nil];exact Src.nil _ _
 ·obtain⟨b',o',e2,_⟩:=hs.2 h1;injection e2 with e2;injection e2 with _ _ j;subst j;rw[Ah];have:=hs.drop (i:=k) f;unfold hH at this ⊢
  rwa[<-List.map_drop]at this
theorem eVs{c:Nat}(h:UR w (fG A n c) l):UR w (fG A 0 0) (l.drop n):=by
 have e:=h.len.1;have a:l.drop n = []:=Ac fu;rw[a];exact⟨A,0,rfl,Src.nil _ _,Aj _,(fun _=>rfl),⟨fz,fu⟩,nW⟩
theorem HoC.s1{C:iO}{X:iL}{p q:Bx}{a:Bq}(h:HoC C X w SB #[p,q] l a):a.cell? ⟨C.mm,0,fS⟩=fT (fM (fT ⟨C.cb,0,fS⟩))/\a.cell? ⟨SB,0,fS⟩=fT p/\C.mm<a.heap.size/\C.cb<a.heap.size/\SB<a.heap.size:=by
 obtain⟨lab,v,h1,h2,b,h4⟩:=h;exact⟨h1.fWi,b.cell 0,h1.mm.lt,h1.cb.lt,b.lt⟩
def bJj(C:iO)(X:iL)(n:Nat)(outs:List Int)(a:List Nat)(w:Bq)(b:Ending)(w':Bq):Prop:=
 ∃ (vo:Bx) (X':iL),b = fR (fI #[vo,fF fN (iy n outs a X.x.s).2.1])/\gU C X' w'/\KK X X' w w'/\X'.x={ X.x with s:=(iy n outs a X.x.s).2.2 }/\X'.sv=X.sv/\X'.ps=X.ps /\
  w'.ownsRow w.heap.size 52 1 vo (iy n outs a X.x.s).1.length (hH (iy n outs a X.x.s).1)/\∀ k,vo.ownBlock=fT k->X'.a8 k=0
theorem dJs(n:Nat)(l:List Nat):hH (n :: l) = fF fO (n:Int) :: hH l:=rfl
theorem bVr(C:iO)(X:iL)(n:Nat)(g:iu)(va:Bx)(a:List Nat)(w:Bq)(h:gU C X w)(hC:KC C)(hg:C.p.J.R[n]? = fT g)(a8:∀ (Y Y':iL) (w':Bq),jl C Y w'->Y.x.first=X.x.first->KK X Y' w w'->UR w' va a)(aG:a.length=g.a1.length)(aN:X.x.s.a0.length<=1000000000):
  Calls fZ 30 #[fM (fT ⟨C.mm,0,fS⟩),fF fN n,va] w (bJj C X n g.out (ie g.a1 a) w):=by
 obtain⟨sb,so,ns,cs,q,sq,ba,aO,bq,s1,s2,s3,s4,s5⟩:=hC.a2 h.bel hg;have ay:=oL hC.ok.J hg;obtain⟨N,c1,rfl⟩:=s4.I;obtain⟨J,G,rfl⟩:=s5.I;have m0:=h.fWi;have c0:w.cell? ⟨C.cb,0,fS⟩=fT (fG (fT ⟨sb,so,fS⟩) ns cs):=(by rw[h.cell 0];simp[ja,ba]);have yb:=h.cb.lt;have ym:=h.mm.lt;have br:(n:Int)<(ns:Int):=fu;have bs:IntKind.u64.wrap (n:Int)=(n:Int):=qZ fu;obtain⟨AL,cL,aP,bu⟩:=fJ h.a0;obtain⟨L,hL⟩:=fX X.x.s.a0.length;rw[hL]at aP bu aN;obtain⟨z,aQ⟩:=fX g.a1.length;obtain⟨d,aR⟩:=fX g.out.length;rw[aQ]at aG s2 s4 ay;rw[aR]at s3 s5 ay;have bb:(ie g.a1 a).length=z:=(by rw[pY _ _ fu,aG]);have aH:=(Av w.heap.size w).alloc (Aj _) (fP #[fG N z c1,fG J d G] 62)
 have aI:=fQ (show mI C X w w.heap.size #[fG N z c1,fG J d G] X.lv X.x.s.a0 X.a8 (w.alloc (fP #[fG N z c1,fG J d G] 62)).drew from
  mI.C ⟨(h.C aH).tojl,(h.C aH).cb,KK.jN aH,gO.a4 _ _ _,gU.a6 h.tojl (Aj _)⟩ (Av _ _).drew)
 have H:=fQ h;have bc:=fQ a8;have aS:=fQ aG;have aT:=fQ bb;have aU:=fQ aQ;have aw:=fQ aR;have W:=fQ aP;have az:=fQ hL;have bd:=fQ s4.ir;have bw:=fQ s5.ir;have aV:=fQ s5;have bz:=ay.1;have bA:=ay.2;clear a8 aG bb aQ aR aP hL s4 s5 hg ba aO hC aH ay;have bB:=s1;go_in;go_upto_region 2 with fail;go_cut [43] (fun _ wx=>HoC C X w w.heap.size #[fG N z c1,fG J d G] (X.x.s.a0++n :: ie g.a1 a) wx)
 case first=>
  clear h;go_wp2_with fail;have aW:=fQ (W.out ▸ aI.out:mI C X w w.heap.size #[fG N z c1,fG J d G] (fG AL L cL) X.x.s.a0 X.a8 (w.alloc (fP #[fG N z c1,fG J d G] 62)).drew);refine jY (fun w'=>w'.cell? ⟨C.mm,0,fS⟩=fT (fM (fT ⟨C.cb,0,fS⟩))/\w'.cell? ⟨w.heap.size,0,fS⟩=fT (fG N z c1)/\C.mm<w'.heap.size/\C.cb<w'.heap.size/\w.heap.size<w'.heap.size) (fun w'=>w'.cell? ⟨C.cb,11,fS⟩=fT (fG AL L cL)) 24 fx (aI.r) (W.out ▸ aI.cb.cell 11) fun c=>?_;refine ig 0 c fun c=>?_;refine ig 1 c fun c=>?_;refine ig 2 c fun c=>?_;refine ig 3 c fun c=>?_;refine ig 4 c fun c=>?_;refine ig 5 c fun c=>?_;refine ig 6 c fun c=>?_;refine ig 7 c fun c=>?_;refine ig 8 c fun c=>?_;refine ig 9 c fun c=>?_;refine ig 10 c fun c=>?_;refine nY (i:=11) (v:=?v11) rfl fx fx fx (fun _ _ _ h=>h) rfl fx fx (Or.inl ⟨by rfl,?hy11⟩) c fun c=>?_
  case hy11=>intro w bC;(try dsimp only at bC);go_simp;(try with_reducible rfl)
  try simp only[Ay,Aq,Ax,Az]
  refine ig 12 c fun c=>?_;refine ig 13 c fun c=>?_;refine ig 16 c fun c=>?_;refine ig 17 c fun c=>?_;refine ig 18 c fun c=>?_;refine gX (i:=14) fx rfl fun K I=>?_;go_simp;obtain⟨wa,aJ⟩:=fX (((w.alloc (fP #[fG N z c1,fG J d G] 62)).alloc (fP #[fF fO (n:Int)] 52)).drew);have aj:=fQ (show mI C X w w.heap.size #[fG N z c1,fG J d G] _ _ X.a8 wa from by rw[<-aJ];exact aW.C ((Av _ _).alloc (Aj _) (fP #[fF fO (n:Int)] 52)));have bD:=fQ (show gO wa (w.heap.size+1) 52 #[fF fO (n:Int)]from by rw[<-aJ];exact(gO.X (w.alloc (fP #[fG N z c1,fG J d G] 62)) 52 #[fF fO (n:Int)] fz));rw[aJ];clear aJ;refine I.out _ _ ⟨aj.r,fun _=>W.out ▸ aj.cb.cell 11⟩ fun c=>?_;clear I K
  try simp only[Ay,Aq,Ax,Az]
  refine gX (i:=15) fx rfl fun K I=>?_;refine aVk rfl (.tmp 34) (.tmp 37) 30 rfl C.w0.heap.size 52 (fF fO 0) 1 8 underlying30 tX rfl fu (.slice AL L cL) L (hH X.x.s.a0) (by go_simp) (by have:=aj.rest.a0;rw[az.out]at this;exact this) (fT ⟨(w.heap.size+1),0,fS⟩) 1 1 [fF fO (n:Int)] (by go_simp) (gO.kE (cs:=#[fF fO (n:Int)]) bD.out rfl) (fun u R=>by rw[List.mem_singleton.1 R];rfl) (by unfold maxLen;omega) fu (aj.rest.bel.size) ?_;intro v1 w4 S aA aB;have ae:w4.ownsRow C.w0.heap.size 52 1 v1 (X.x.s.a0 ++ [n]).length (hH (X.x.s.a0 ++ [n])):=(by rw[Aa,az.out,oH];exact S);obtain⟨AV,cV,rfl,bT⟩:=fJ S;have T:=fQ (aj.app ae aA aB);clear S ae aA aB;refine I.out _ _ ⟨T.r,fun _=>W.out ▸ T.cb.cell 11⟩ fun c=>?_;clear I K
  try simp only[Ay,Aq,Ax,Az]
  refine gX (i:=19) fx rfl fun K I=>?_;go_simp;refine(pH _ _ g.a1 a _ (bd.C (T.rest.bel) (Aj _)) (bc.out _ _ _ T.rest rfl T.kk) (aU.trans aS.symm)).mono ?_;rintro en M ⟨v3,rfl,aC,be⟩;rw[<-pY g.a1 a (aU.trans aS.symm),aT.out]at aC;obtain⟨A3,c3,rfl,bV⟩:=fJ aC;have ak:=fQ (T.C be);have bE:=fQ (iQ aC T.kk.size);clear aC be;refine I.out _ _ ⟨ak.r,fun _=>W.out ▸ ak.cb.cell 11⟩ fun c=>?_;clear I K
  try simp only[Ay,Aq,Ax,Az]
  refine gX (i:=20) fx rfl fun K I=>?_;refine aVk rfl (.tmp 38) (.tmp 42) 30 rfl C.w0.heap.size 52 (fF fO 0) 1 8 underlying30 tX rfl fu (.slice AV (L+1) cV) (L+1) (hH X.x.s.a0 ++ [.int fO (n:Int)]) (by go_simp) (by have:=ak.rest.a0;simpa[az.out,oH,hH]using this) A3 z c3 (hH (ie g.a1 a)) (by go_simp) (by rw[Nat.mul_one];exact Src.mf bE.out) (qN _) (by unfold maxLen;omega) fu (ak.rest.bel.size) ?_;intro v2 w6 S aA aB
  have ae:w6.ownsRow C.w0.heap.size 52 1 v2 (X.x.s.a0++n :: ie g.a1 a).length (hH (X.x.s.a0++n :: ie g.a1 a)):=by
   rw[Aa,az.out,Af,aT.out,oH,dJs,show L+(z+1)=L+1+z by omega]
   simpa using S
  obtain⟨AW,cW,rfl,bW⟩:=fJ S;have ai:=fQ (ak.app ae aA aB);clear S ae aA aB;refine I.out _ _ ⟨ai.r,fun _=>W.out ▸ ai.cb.cell 11⟩ fun c=>?_;clear I K
  try simp only[Ay,Aq,Ax,Az]
  refine ig 21 c fun c=>?_;refine ig 22 c fun c=>?_;refine ig 23 c fun c=>?_;have bX:w6.cell? ⟨C.cb,11,fS⟩=fT X.lv:=ai.cb.cell 11;have f11:=ik ai.cb 11;have hf:=ai.fin;have bf:=fQ (show HoC C X w w.heap.size #[fG N z c1,fG J d G] (X.x.s.a0++n :: ie g.a1 a) _ from⟨_,_,hf.1,hf.2.1,hf.2.2,ai.bl⟩);clear hf;refine gX (i:=24) fx rfl fun K I=>?_;go_simp;refine I.out _ _ (SD.after (bf.s1) fx) fun c=>?_;clear I K
  try simp only[Ay,Aq,Ax,Az]
  refine jX fx ?_ _;clear c;go_wp2_with fail;go_meet;exact bf.out
 case rest=>
  clear h aI bc aS aT W az bd;obtain⟨lab,v,h1,h2,h3,h4⟩:=hcut;have Z:UR wc X.iv X.x.s.input:=h1.inp;obtain⟨AI,F,aD⟩:=Z.I;obtain⟨m,aY⟩:=fX X.x.s.input.length;rw[aY]at aD;rw[aD]at Z;have bY:=Z.len.2.2.1;have bF:=Z.len.2.2.2.1;have bZ:=Z.len.2.2.2.2.1;obtain⟨b0,_,b1⟩:=(show Ints C.w0 (fG J d G) g.out from aV.out).kj.2;obtain⟨k,hk⟩:=fX (min d m);have bG:min (d:Int) (m:Int)=(k:Int):=fu;have mx:=h1.fWi;have bx:=h3.cell 1;simp at bx;have cx:wc.cell? ⟨C.cb,10,fS⟩=fT (fG AI m F):=(by rw[h1.cell 10];simp[ja,aD]);have b2:(k:Int)<=(G:Int):=fu;have b3:(k:Int)<=(F:Int):=fu;have b4:(k:Int)<=(m:Int):=fu;have k0:(0:Int)<=(k:Int):=fu;have H1:=fQ h1;have H2:=fQ h2;have H3:=fQ h3;have bg:=fQ Z;have bj:=fQ aD;have aE:=fQ aY;have aK:=fQ hk;have H4:=fQ h4;clear h1 h2 h3 Z aD aY hk h4 aU s1 bB m0 c0 yb ym s2 s3 bs;go_wp2_with fail;go_region;go_wp2_with fail;have hq:∀ a,wc.drew.cell? a=wc.cell? a:=fun _=>rfl;obtain⟨O,au⟩:=fX wc.drew;have ax:=fQ (show gU C { X with a8:=lab,lv:=v,x:={ X.x with s:={ X.x.s with a0:=X.x.s.a0++n :: ie g.a1 a } } } O from au ▸ H1.drew);have aZ:=fQ (show KK X { X with a8:=lab } w O from au ▸ H2.drew);have a1:=fQ (show gO O w.heap.size 62 #[fG N z c1,fG J d G]from au ▸ H3.drew);have a6:=fQ (show UR O (fG AI m F) X.x.s.input from au ▸ (show UR wc.drew _ _ from bg.out));rw[au]at hq;rw[<-hq]at mx bx cx;rw[au];have yx:C.cb<O.heap.size:=ax.cb.lt;have zx:C.mm<O.heap.size:=ax.mm.lt;have sx:w.heap.size<O.heap.size:=a1.lt;clear au hq H1 H2 H3 bg;go_still_tail 14,fx;change wpList _ _ _ _ _ O.drew;go_wp2_with fail;refine(pH _ _ (g.out.take k) (X.x.s.input.take k) _ (eVp (bw.C (ax.drew.bel) (Aj _)) fu) (eVq (show UR O.drew _ _ from a6.out) fu) (by rw[AJ,AJ,aw.out,aE.out];omega)).mono ?_;rintro e M ⟨vl,rfl,aL,aF⟩;have bk:(ie (g.out.take k) (X.x.s.input.take k)).length=(X.x.s.input.take k).length:=pY _ _ (by rw[AJ,AJ,aw.out,aE.out];omega);rw[<-bk]at aL;have U:=fQ (ax.drew.C aF);have bH:=fQ (aZ.drew.C aF);have aX:=fQ (a1.drew.C aF (show w.heap.size<O.drew.heap.size from sx));have a7:=fQ (UR.C (show UR O.drew _ _ from a6.out) aF (Aj _));have bI:=fQ (iQ aL aZ.out.size);have bm:=fQ (fun(j:Nat) (hj:vl.ownBlock=fT j)=>gU.a6 ax.tojl (aL.lt j hj).1);have ml:=U.fWi;have cl:M.cell? ⟨C.cb,10,fS⟩=fT (fG AI m F):=(by rw[U.cell 10];simp[ja,bj.out]);have fl:=ik U.cb 10;have sl:=aX.lt;have bl:=aX.cell 1;simp at bl;clear aL aF bk ax aZ a1 a6 mx bx cx yx zx sx;have bn:∀ j,(AX AI m F).ownBlock=fT j->lab j=5:=fun j hj=>U.l5 j (by show X.iv.ownBlock=_;rw[bj.out];exact hj);have bo:=fQ bn;clear bn
  have ends:∀ (wr:Bq) (ly:Bx),UR M ly (X.x.s.input.drop k)->(∀ j,ly.ownBlock=fT j->lab j=5)->wr=(M.setCell ⟨C.cb,10,fS⟩ ly).drew ->
    (Hid (gU C { X with a8:=lab,lv:=v,iv:=ly,x:={ X.x with s:={ X.x.s with a0:=X.x.s.a0++n :: ie g.a1 a,input:=X.x.s.input.drop k } } } wr)/\Hid (KK X { X with a8:=lab } w wr)/\Hid (wr.ownsRow w.heap.size 52 1 vl (ie (g.out.take k) (X.x.s.input.take k)).length (hH (ie (g.out.take k) (X.x.s.input.take k)))))/\wr.cell? ⟨w.heap.size,1,fS⟩=fT (fG J d G)/\w.heap.size<wr.heap.size:=by
   intro wr ly R hl he;have bp:lab C.cb=1:=U.cl
   have aO:w.heap.size≠C.cb:=fun e=>by have:=H4.out;rw[e,bp]at this;cases this
   have bJ:vl.ownBlock≠fT C.cb:=fun e=>by have h0:lab C.cb=0:=bm.out _ e;omega
   subst he;refine⟨⟨fQ (U.sL ly _ R hl).drew,fQ (bH.set (y:={ X with a8:=lab }) (g:=C.cb) 10 ly (.inl (by show lab C.cb≠0;rw[bp];decide)) rfl).drew,fQ (iW bI.out bJ)⟩,(pX aO).trans bl,?_⟩;exact Ak sl (by simp[World.setCell,World.drew])
  have fin:∀ (wr:Bq) (ly:Bx),Hid (gU C { X with a8:=lab,lv:=v,iv:=ly,x:={ X.x with s:={ X.x.s with a0:=X.x.s.a0++n :: ie g.a1 a,input:=X.x.s.input.drop k } } } wr)->Hid (KK X { X with a8:=lab } w wr)->Hid (wr.ownsRow w.heap.size 52 1 vl (ie (g.out.take k) (X.x.s.input.take k)).length (hH (ie (g.out.take k) (X.x.s.input.take k)))) ->
    (k<d->bJj C X n g.out (ie g.a1 a) w (fR (fI #[fG fS 0 0,fF fN 39])) wr)/\(¬k<d->bJj C X n g.out (ie g.a1 a) w (fR (fI #[vl,fF fN 0])) wr):=by
   intro wr ly q1 q2 q3;refine⟨fun E=>?_,fun E=>?_⟩
   ·have e:iy n g.out (ie g.a1 a) X.x.s=([],39,{ X.x.s with a0:=X.x.s.a0++n :: ie g.a1 a,input:=[] }):=by
     unfold iy;rw[gy (by rw[aw.out,aE.out];have:=aK.out;omega)]
    have hd:X.x.s.input.drop k = []:=Ac (by rw[aE.out];have:=aK.out;omega);rw[hd]at q1;refine⟨fG fS 0 0,_,by rw[e],q1.out,q2.out.to rfl,by rw[e],rfl,rfl,?_,fun j hj=>by cases hj⟩;rw[e];exact World.ownsRow_nil _ _ _ _
   ·have bL:k=d:=by have:=aK.out;omega
    have e:iy n g.out (ie g.a1 a) X.x.s=(ie (g.out.take k) (X.x.s.input.take k),0,{ X.x.s with a0:=X.x.s.a0++n :: ie g.a1 a,input:=X.x.s.input.drop k }):=by
     unfold iy;rw[gz (by rw[aw.out,aE.out];have:=aK.out;omega),aw.out,<-bL,List.take_of_length_le (l:=g.out) (by rw[aw.out];omega)]
    refine⟨vl,_,by rw[e],q1.out,q2.out.to rfl,by rw[e],rfl,rfl,?_,bm.out⟩;rw[e];exact q3.out
  rcases AI with _|⟨b,o,q⟩
  ·have bM:F=0:=bF rfl;subst bM;have aM:m=0:=fu;subst aM;have bN:k=0:=fu;subst bN;have R:UR M (fG fS 0 0) (X.x.s.input.drop 0):=a7.out;have V:=fQ R;clear R;by_cases E:0<d
   ·have P:=fQ E;clear E;go_wp2_with fail;go_region;obtain⟨wr,f⟩:=fX ((M.setCell ⟨C.cb,10,fS⟩ (fG fS 0 0)).drew);obtain⟨⟨A,B,D⟩,E4,E5⟩:=ends wr (fG fS 0 0) V.out (fun j hj=>by cases hj) f.symm;rw[f];have Q:=fQ (fin wr (fG fS 0 0) A B D);clear f ends fin A B D cl ml fl bl;go_wp2_with fail;refine bodyPost_ret (results_tmp2 (t:=6) (u:=7) rfl _ _ _) rfl ?_;exact Q.1 P.out
   ·have P:=fQ E;clear E;go_wp2_with fail;go_region;obtain⟨wr,f⟩:=fX ((M.setCell ⟨C.cb,10,fS⟩ (fG fS 0 0)).drew);obtain⟨⟨A,B,D⟩,E4,E5⟩:=ends wr (fG fS 0 0) V.out (fun j hj=>by cases hj) f.symm;rw[f];have Q:=fQ (fin wr (fG fS 0 0) A B D);clear f ends fin A B D cl ml fl bl;go_wp2_with fail;refine bodyPost_ret (results_tmp2 (t:=6) (u:=7) rfl _ _ _) rfl ?_;exact Q.2 P.out
  ·by_cases bO:F=k
   ·have aM:m=k:=fu;have R:UR M (fG (fT ⟨b,o,q⟩) 0 0) (X.x.s.input.drop k):=(by have:=eVs a7.out;rwa[aM]at this);have V:=fQ R;have ao:=fQ (fun(j:Nat) (hj:(AX (fT ⟨b,o,q⟩) 0 0).ownBlock=fT j)=>bo.out j hj);subst bO;subst aM;clear R;by_cases E:m<d
    ·have P:=fQ E;clear E;go_wp2_with fail;go_region;obtain⟨wr,f⟩:=fX ((M.setCell ⟨C.cb,10,fS⟩ (fG (fT ⟨b,o,q⟩) 0 0)).drew);obtain⟨⟨A,B,D⟩,E4,E5⟩:=ends wr (fG (fT ⟨b,o,q⟩) 0 0) V.out ao.out f.symm;rw[f];have Q:=fQ (fin wr (fG (fT ⟨b,o,q⟩) 0 0) A B D);clear f ends fin A B D cl ml fl bl;go_wp2_with fail;refine bodyPost_ret (results_tmp2 (t:=6) (u:=7) rfl _ _ _) rfl ?_;exact Q.1 P.out
    ·have P:=fQ E;clear E;go_wp2_with fail;go_region;obtain⟨wr,f⟩:=fX ((M.setCell ⟨C.cb,10,fS⟩ (fG (fT ⟨b,o,q⟩) 0 0)).drew);obtain⟨⟨A,B,D⟩,E4,E5⟩:=ends wr (fG (fT ⟨b,o,q⟩) 0 0) V.out ao.out f.symm;rw[f];have Q:=fQ (fin wr (fG (fT ⟨b,o,q⟩) 0 0) A B D);clear f ends fin A B D cl ml fl bl;go_wp2_with fail;refine bodyPost_ret (results_tmp2 (t:=6) (u:=7) rfl _ _ _) rfl ?_;exact Q.2 P.out
   ·have V:=fQ (show UR M (fG (fT (AZ ⟨b,o,q⟩ k)) (m - k) (F - k)) (X.x.s.input.drop k)from eVr a7.out (show k<=m by omega));have ao:=fQ (fun(j:Nat) (hj:(AX (fT (AZ ⟨b,o,q⟩ k)) (m - k) (F - k)).ownBlock=fT j)=>bo.out j (by rw[<-hj];show fT b=fT (AZ ⟨b,o,q⟩ k).block;unfold AZ;split <;> rfl));by_cases E:k<d
    ·have P:=fQ E;clear E;go_wp2_with fail;go_region;obtain⟨wr,f⟩:=fX ((M.setCell ⟨C.cb,10,fS⟩ (fG (fT (AZ ⟨b,o,q⟩ k)) (m - k) (F - k))).drew);obtain⟨⟨A,B,D⟩,E4,E5⟩:=ends wr (fG (fT (AZ ⟨b,o,q⟩ k)) (m - k) (F - k)) V.out ao.out f.symm;rw[f];have Q:=fQ (fin wr (fG (fT (AZ ⟨b,o,q⟩ k)) (m - k) (F - k)) A B D);clear f ends fin A B D cl ml fl bl;go_wp2_with fail;refine bodyPost_ret (results_tmp2 (t:=6) (u:=7) rfl _ _ _) rfl ?_;exact Q.1 P.out
    ·have P:=fQ E;clear E;go_wp2_with fail;go_region;obtain⟨wr,f⟩:=fX ((M.setCell ⟨C.cb,10,fS⟩ (fG (fT (AZ ⟨b,o,q⟩ k)) (m - k) (F - k))).drew);obtain⟨⟨A,B,D⟩,E4,E5⟩:=ends wr (fG (fT (AZ ⟨b,o,q⟩ k)) (m - k) (F - k)) V.out ao.out f.symm;rw[f];have Q:=fQ (fin wr (fG (fT (AZ ⟨b,o,q⟩ k)) (m - k) (F - k)) A B D);clear f ends fin A B D cl ml fl bl;go_wp2_with fail;refine bodyPost_ret (results_tmp2 (t:=6) (u:=7) rfl _ _ _) rfl ?_;exact Q.2 P.out
theorem dJt(C:iO)(X:iL)(n:Nat)(g:iu)(va:Bx)(a:List Nat)(w:Bq)(h:gU C X w)(b:KC C)(hg:C.p.J.R[n]? = fT g)(ha:UR w va a)(c:∀ k,va.ownBlock=fT k->X.a8 k=0)(d:a.length=g.a1.length)(e:X.x.s.a0.length<=1000000000):
  Calls fZ 30 #[fM (fT ⟨C.mm,0,fS⟩),fF fN n,va] w (bJj C X n g.out (ie g.a1 a) w):=
 bVr C X n g va a w h b hg (fun _ _ _ _ _ kk=>kk.ur ha c) d e
theorem dJh(t:Int)(n:Nat):oY t (oY t n)=oY t n:=by
 unfold oY
 split <;> omega
theorem bJg:∀ (ks:List Int) (l:List Nat),ie ks (ie ks l)=ie ks l
 | [],l=>by cases l <;> rfl
 | t :: ks,[]=>rfl
 | t :: ks,n :: l=>by simp only[ie,dJh,bJg ks l]
def iI(C:iO)(X:iL)(f0:iP)(rest:List iP)(c:gP)(w:Bq)(a:Ending)(w':Bq):Prop:=
 ∃ (e:Int) (X':iL),a = fR (fF fN e)/\gU C X' w'/\KK X X' w w' /\
  (e=0->X'.x=lp C.p X.x f0 rest c (iF C.p.J c f0.k (iw C.p.J f0.r c f0.V) X.x.s)) /\
  (e≠0->uX X'.x X'.x.s [] e=lp C.p X.x f0 rest c (iF C.p.J c f0.k (iw C.p.J f0.r c f0.V) X.x.s))
structure ky (C:iO) (X:iL) (f0:iP) (rest:List iP) (g cS:Nat) (vc:Bx) (c:gP) (va:Bx) (a:List Nat) (w:Bq):Prop where
 a5:gU C X w
 kc:KC C
 st:X.x.st={ f0 with k:=f0.k+1 } :: rest
 sv:X.sv = fG (fT ⟨g,0,fS⟩) (rest.length+1) cS
 K:jz C.w0 vc c
 at_:f0.r.K[f0.k]? = fT c
 ck:iq C.p.J f0.r
 len:f0.V.length=f0.r.M.toNat
 row:C.p.b0[f0.fi]? = fT f0.r
 ur:UR w va a
 free:∀ k,va.ownBlock=fT k->X.a8 k=0
 args:a=jd f0.V c.args
 a0:X.x.s.a0.length<=1000000000
 dep:rest.length<=15
theorem ky.ok{C:iO}{X:iL}{f0:iP}{rest:List iP}{g cS:Nat}{vc:Bx}{c:gP}{va:Bx}(h:ky C X f0 rest g cS vc c va a w):codeOk C.p.J f0.r c=fU:=h.ck.K c (Ad h.at_)
theorem ky.O{C:iO}{X:iL}{f0:iP}{rest:List iP}{g cS:Nat}{vc:Bx}{c:gP}{va:Bx}{a:List Nat}{w:Bq}(h:ky C X f0 rest g cS vc c va a w):∀ o∈c.O,0<=o/\o<(f0.V.length:Int):=fun o b=>by
 obtain⟨_,_,_,_,_,_,_,_,_,d,_⟩:=hY h.ok;have:=d o b;have:=h.len;omega
theorem aWn(n:Nat)(outs:List Int)(a:List Nat)(s:iM):(iy n outs a s).1.length<=outs.length:=by
 unfold iy
 split
 ·exact sI _ _
 ·exact Bj _
theorem bXq{outs:List Int}{s:iM}(h:ij s.input):ij (iy n outs a s).1:=by
 unfold iy
 split
 ·exact pZ _ _ (aWt h _)
 ·exact nW
theorem zZ{base:Nat}(h:w.ownsRow base 52 1 v l.length (hH l))(a:ij l)(hl:l.length<=1000000000):UR w v l:=by
 rcases h.2 with⟨h1,h2⟩|⟨g,cap,cur,h1,_,_,b,c,_⟩
 ·have hn:l = []:=Aw h2;subst hn;subst h1;exact⟨fS,0,rfl,Src.nil _ _,Aj _,fun _=>rfl,⟨fz,fu⟩,a⟩
 ·subst h1;exact⟨_,cap,rfl,Src.mf h,b,(fun e=>by cases e),⟨fu,by unfold maxLen at c;omega⟩,a⟩
theorem UR.all(h:UR w v l):ij l:=by
 obtain⟨_,_,_,_,_,_,_,h⟩:=h;exact h
theorem cWg(C:iO)(X:iL)(f0:iP)(rest:List iP)(g cS:Nat)(vc:Bx)(c:gP)(va:Bx)(a:List Nat)(w:Bq)(h:ky C X f0 rest g cS vc c va a w)(A:c.op=16):
  Calls fZ 61 #[fM (fT ⟨C.mm,0,fS⟩),fM (fT ⟨g,rest.length*3,fS⟩),vc,va] w (iI C X f0 rest c w):=by
 have N:=h.ok;have O:=hY N;rw[A]at O;obtain⟨i,o,hf,P,Q,_⟩:=O;have hf:(C.p.J.R[c.n]?).map (fun g=>(g.a1,g.out))=fT (i,o):=hf;obtain⟨b,B,he⟩:=Option.map_eq_some_iff.1 hf;injection he with aA aB;subst aA;subst aB
 have R:iw C.p.J f0.r c f0.V=ie b.a1 a:=by
  unfold iw jL;rw[A,show iV C.p.J f0.r.a2 16 c.n=_ from hf,h.args];rfl
 have S:a.length=b.a1.length:=(by rw[h.args];unfold jd;rw[AQ];exact P);have T:C.p.J.R.getD c.n ⟨[],[]⟩=b:=(by rw[Ab,B];rfl);have aC:c.n<64:=(by have:=(gw B).1;have:=(kY h.kc.ok.J).1;omega);have aQ:IntKind.i64.wrap (c.n:Int)=(c.n:Int):=IntWalk.i64_in _ fu;obtain⟨U,cb,W,rfl,ak,aD,aE,aF⟩:=h.K;have D:=(Av w.heap.size w).alloc (Aj _) (fP #[fF fN c.op,fF fO (c.n:Int),U,cb,W] 86);have H:=fQ (h.a5.C D);have I:=fQ (KK.jN (x:=X) D);have aG:=fQ (gO.a4 w 86 #[fF fN c.op,fF fO (c.n:Int),U,cb,W]);have aH:=fQ (gU.a6 h.a5.tojl (Aj w.heap.size));have Y:=fQ (h.ur.C D (Aj _));have m0:=h.a5.fWi;have c1:w.cell? ⟨C.cb,1,fS⟩=fT (fF fN C.p.J.G):=h.a5.cell 1;have aR:w.cell? ⟨C.cb,12,fS⟩=fT (fG (fT ⟨g,0,fS⟩) (rest.length+1) cS):=(by rw[h.a5.cell 12];simp[ja,h.sv]);have yb:=h.a5.cb.lt;have ym:=h.a5.mm.lt;have d:=fQ h;have Z:=fQ R;have ax:=fQ S;have aI:=fQ T;have E:=fQ B;have f:=fQ A;have aJ:=fQ Q;obtain⟨j,F⟩:=Int.eq_ofNat_of_zero_le (kY h.kc.ok.J).2.1;rw[F]at c1;have m:=fQ F;clear h R S T B A N P Q hf ak aD aE aF D;by_cases hi:c.n<j
 ·have aK:=fQ hi;clear hi F;go_in;go_wp2_with fail;refine(dJt C X c.n b va a _ H.out d.kc E.out Y.out d.free ax.out d.a0).mono ?_;rintro e w1 ⟨vo,t,rfl,u,k2,v,k4,k5,J,k7⟩;obtain⟨Ao,co,rfl,aS⟩:=fJ J;have K:=fQ u;have L:=fQ k2;have y:=fQ v;have K4:=fQ k4;have K6:=fQ J;have K7:=fQ k7;have M:=k2.a9 aG.out aH.out;obtain⟨b0,b1,b2,b3,b4⟩:=gZ M;clear u k2 v k4 k5 J k7 M;have ay:=zZ K6.out (bXq d.a5.inp.all) (AK (aWn _ _ _ _) (by have:=(oL d.kc.ok.J E.out).2;omega));have aL:=fQ ay;clear ay;go_wp2_with fail;refine(sJ C t { f0 with k:=f0.k+1 } rest g cS _ c _ (iy c.n b.out (ie b.a1 a) X.x.s).1 _ K.out (by rw[y.out];exact d.st) (K4.trans d.sv) d.K aL.out (fun k hk=>by rw[K7.out k hk];omega) d.O (AK (aWn _ _ _ _) (AY aJ.symm))).mono ?_;rintro e w2 ⟨rfl,l1,l2⟩;have L1:=fQ l1;have L2:=fQ l2;clear l1 l2;go_wp2;go_ret
  have z:iF C.p.J c f0.k (iw C.p.J f0.r c f0.V) X.x.s=if(iy c.n b.out (ie b.a1 a) X.x.s).2.1=0 then .vals (iy c.n b.out (ie b.a1 a) X.x.s).1 (iy c.n b.out (ie b.a1 a) X.x.s).2.2 else .trap (iy c.n b.out (ie b.a1 a) X.x.s).2.1 (iy c.n b.out (ie b.a1 a) X.x.s).2.2:=by
   unfold iF;rw[gy (by rw[f.out];decide),gy (by rw[f.out];decide),gy (by rw[f.out];decide),gy (by rw[f.out];decide),gy (by rw[f.out];decide),gz f.out,gz (by rw[m.out];have:=aK.out;omega),Z.out,aI.out]
  refine⟨_,_,rfl,L1.out,I.trans (L.trans L2.out),fun l=>?_,fun l=>?_⟩
  ·rw[z,gz l];show({ t.x with st:=_ }:jP)=_;rw[y.out];rfl
  ·rw[z,gy l];show uX { t.x with st:=_ } t.x.s [] _=_;rw[y.out];rfl
 ·have t1:decide ((c.n:Int)<(j:Int))=gh:=by simp;omega
  have z:iF C.p.J c f0.k (iw C.p.J f0.r c f0.V) X.x.s = .call c.n:=by
   unfold iF;rw[gy (by rw[f.out];decide),gy (by rw[f.out];decide),gy (by rw[f.out];decide),gy (by rw[f.out];decide),gy (by rw[f.out];decide),gz f.out,gy (by rw[m.out];omega)]
  have az:=fQ z;obtain⟨q,g2,hq,aM,aN⟩:=ss d.kc.ok f.out d.ok (by rw[m.out];omega);rw[m.out,Int.toNat_natCast]at hq;have HQ:=fQ hq;have aO:=fQ (show c.n=j+(c.n - j) by omega);have aP:=fQ (show X.x.st.length=rest.length+1 by rw[d.st];rfl);clear z hq aM aN F;by_cases hd:rest.length+1=16
  ·have t2:(((rest.length+1:Nat):Int) == 16)=fU:=fw;have G:=fQ hd;clear hd;go_in;go_wp2;go_ret;refine⟨37,X,rfl,H.out,I.out,(fun l=>by cases l),fun _=>?_⟩;rw[az.out];show _=(if 16<=rest.length+1 then _ else _:jP);rw[gz (by have:=G.out;omega)]
  ·have t2:(((rest.length+1:Nat):Int) == 16)=gh:=fw;have G:=fQ hd;clear hd;go_in;go_wp2_with fail;refine(bVp C X c.n j (c.n - j) b q va a _ H.out d.kc E.out m.out aO.out HQ.out Y.out ax.out (by have:=d.dep;have:=aP.out;have:=G.out;omega)).mono ?_;rintro e w1 ⟨rfl,t,u,k2,v⟩;have K:=fQ u;have L:=fQ k2;have y:=fQ v;clear u k2 v;go_wp2;go_ret;refine⟨0,t,rfl,K.out,I.trans L.out,fun _=>?_,fun l=>gH rfl l⟩;rw[az.out,y.out];show _=(if 16<=rest.length+1 then _ else _:jP);rw[gy (by have:=d.dep;have:=G.out;omega),m.out,Int.toNat_natCast,HQ.out,E.out];dsimp only;rw[Z.out,bJg,d.st]
theorem oq(w:Bq)(h:n<18446744073709551616):UR (w.alloc (fP #[fF fO (n:Int)] 52)) (fG (fT ⟨w.heap.size,0,fS⟩) 1 1) [n]:=
 ⟨_,1,rfl,gO.kE (cs:=#[fF fO (n:Int)]) (gO.a4 w _ _) rfl,Aj _,(fun e=>by cases e),⟨fz,fu⟩,aYy h⟩
theorem bZk{e:ia}{c:gP}{s:iM}(h:c.op≠276/\c.op≠277/\c.op≠273/\c.op≠274/\c.op≠275/\c.op≠16):iF e c k a s=if(jV c a s).2.1=0 then .vals [(jV c a s).1] (jV c a s).2.2 else .trap (jV c a s).2.1 (jV c a s).2.2:=by
 obtain⟨h1,h2,b,d,f,g⟩:=h;unfold iF;rw[gy h1,gy h2,gy b,gy d,gy f,gy g]
theorem ot{C:iO}{X a:iL}{f0:iP}{rest:List iP}{c:gP}{w w':Bq}{n:Nat}{s':iM}(ad:X.x.st={ f0 with k:=f0.k+1 } :: rest)(h1:gU C (xY a { f0 with k:=f0.k+1 } rest (iS c.O [n] f0.V)) w')(h2:KK X (xY a { f0 with k:=f0.k+1 } rest (iS c.O [n] f0.V)) w w')(b:a.x={ X.x with s:=s' })
  (d:jV c (iw C.p.J f0.r c f0.V) X.x.s=(n,0,s')) (e:c.op≠276/\c.op≠277/\c.op≠273/\c.op≠274/\c.op≠275/\c.op≠16):iI C X f0 rest c w (fR (fF fN 0)) w':=by
 refine⟨0,_,rfl,h1,h2,fun _=>?_,fun f=>gH rfl f⟩;rw[bZk e,d,gz rfl];show({ a.x with st:=_ }:jP)=_;rw[b];rfl
theorem tI{C:iO}{X a:iL}{f0:iP}{rest:List iP}{c:gP}{n:Nat}{e:Int}{s':iM}(h1:gU C a w')(h2:KK X a w w')(b:a.x={ X.x with s:=s' })
  (d:jV c (iw C.p.J f0.r c f0.V) X.x.s=(n,e,s')) (he:e≠0) (f:c.op≠276/\c.op≠277/\c.op≠273/\c.op≠274/\c.op≠275/\c.op≠16):iI C X f0 rest c w (fR (fF fN e)) w':=by
 refine⟨e,_,rfl,h1,h2,fun g=>gH g he,fun _=>?_⟩;rw[bZk f,d,gy he,b];rfl
theorem bQt{C:iO}{X a:iL}{f0:iP}{rest:List iP}{c:gP}{w w':Bq}{n:Nat}{s':iM}(b:X.x.st={ f0 with k:=f0.k+1 } :: rest)(h1:gU C a w')(h2:KK X a w w')(d:a.x={ X.x with s:=s' })(e:c.O = [])
  (f:jV c (iw C.p.J f0.r c f0.V) X.x.s=(n,0,s')) (g:c.op≠276/\c.op≠277/\c.op≠273/\c.op≠274/\c.op≠275/\c.op≠16):iI C X f0 rest c w (fR (fF fN 0)) w':=by
 refine⟨0,_,rfl,h1,h2,fun _=>?_,fun h=>gH rfl h⟩;rw[bZk g,f,gz rfl,d];show _=({ X.x with st:={ f0 with k:=f0.k+1,V:=iS c.O [n] f0.V } :: rest,s:=s' }:jP);rw[e,show iS [] [n] f0.V=f0.V from rfl,<-b]
theorem eXc(C:iO)(X:iL)(f0:iP)(rest:List iP)(g cS:Nat)(vc:Bx)(c:gP)(va:Bx)(a:List Nat)(w:Bq)(h:ky C X f0 rest g cS vc c va a w)(j:c.op=35)(H:jh C.p.J X.x.s)(I:X.x.s.E.length=C.p.J.E.length):
  Calls fZ 62 #[fM (fT ⟨C.mm,0,fS⟩),fM (fT ⟨g,rest.length*3,fS⟩),vc,va] w (iI C X f0 rest c w):=by
 have J:=hY h.ok;rw[j]at J;obtain⟨i,o,hf,aB,K,_⟩:=J;have hf:(C.p.J.E[c.n]?).map (fun g=>(([]:List Int),[g]))=fT (i,o):=hf;obtain⟨t,L,he⟩:=Option.map_eq_some_iff.1 hf;injection he with v e2;subst v;subst e2;have M:X.x.s.E.length=C.p.J.E.length:=I;have N:c.n<X.x.s.E.length:=(by rw[M];exact(gw L).1);obtain⟨y,m⟩:∃ y,X.x.s.E[c.n]? = fT y:=⟨_,List.getElem?_eq_getElem N⟩
 have O:jV c (iw C.p.J f0.r c f0.V) X.x.s=(y,0,X.x.s):=by
  unfold jV;rw[j,gy fy,gy fy,gy fy,gy fy,gz rfl,Ab,m];rfl
 have ak:=fQ O;have aC:=fQ (show c.O.length = [y].length from K);have aD:=fQ (show c.op≠276/\c.op≠277/\c.op≠273/\c.op≠274/\c.op≠275/\c.op≠16 by rw[j];decide);have al:=H.kF y (Ad m);obtain⟨q,gc,u,P⟩:∃ G c,C.gv = fG (fT ⟨G,0,fS⟩) X.x.s.E.length c/\G<w.heap.size:=(by obtain⟨G,c,v,e2,_⟩:=lZ h.a5.kq fu;exact⟨G,c,v,e2⟩);have z:=h.a5.kq;rw[u]at z;have Q:w.cell? ⟨q,c.n,fS⟩=fT (fF fO (y:Int)):=(by rw[z.cellAt c.n fu];simp[hH,m]);have aE:=fQ (show fV c.op = fI #[fF fN 0,fF fN 0,fH gh,fH gh] by rw[j];rfl);have aP:(c.op == 35)=fU:=(by rw[j];rfl);obtain⟨NG,R⟩:=fX X.x.s.E.length;rw[R]at N u;have aF:(c.n:Int)<(NG:Int):=fu;obtain⟨S,cb,T,rfl,A,aG,aH,aI⟩:=h.K;have U:=(Av w.heap.size w).alloc (Aj _) (fP #[fF fN c.op,fF fO (c.n:Int),S,cb,T] 86);have f:=fQ h;have B:=fQ (gO.a4 w 86 #[fF fN c.op,fF fO (c.n:Int),S,cb,T]);have D:=fQ U;have aM:=fQ u;have aN:=fQ Q;clear h U A aG aH aI O K aB hf j m L I M R u Q z H;go_in;go_wp2_with fail;refine(qY c.op _).mono ?_;rintro e w1 ⟨rfl,E⟩;have l:=fQ (D.trans (E.mono D.out.size));have d:=fQ (f.a5.C l.out);have aO:=fQ (KK.jN (x:=X) l.out);have W:=fQ (B.C E B.lt);obtain⟨b0,b1,b2,b3,b4⟩:=gZ W.out;have m1:=d.fWi;have d8:w1.cell? ⟨C.cb,8,fS⟩=fT C.gv:=d.cell 8;clear E D B;have cy:w1.cell? ⟨q,c.n,fS⟩=fT (fF fO (y:Int)):=(l.cell (p:=⟨q,c.n,fS⟩) P).trans aN.out;have yg:q<w1.heap.size:=Ak P l.out.size;rw[aM.out]at d8;rw[aE.out];go_wp2_with fail;go_quiet (fail);go_wp2_with fail;refine(sJ C X { f0 with k:=f0.k+1 } rest g cS _ c _ [y] _ ((d.drewN _).C ((Av _ _).alloc (Aj _) _)) f.st f.sv f.K (oq _ al) (fun k F=>by injection F with F;rw[<-F,gU.a6 (d.drewN _).tojl (Aj _)];omega) f.O (AY aC.symm)).mono ?_;rintro e w9 ⟨rfl,Y,Z⟩;have L1:=fQ Y;have L2:=fQ Z;clear Y Z;go_wp2;go_ret;exact ot f.st L1.out (((aO.C (fK (Av _ _) _)).C ((Av _ _).alloc (Aj _) _)).trans L2.out) rfl ak.out aD.out
theorem eXd(C:iO)(X:iL)(f0:iP)(rest:List iP)(g cS:Nat)(vc:Bx)(c:gP)(va:Bx)(a:List Nat)(w:Bq)(h:ky C X f0 rest g cS vc c va a w)(j:c.op=63)(D:jh C.p.J X.x.s):
  Calls fZ 62 #[fM (fT ⟨C.mm,0,fS⟩),fM (fT ⟨g,rest.length*3,fS⟩),vc,va] w (iI C X f0 rest c w):=by
 have N:=hY h.ok;obtain⟨i,o,hf,O,E,_⟩:=N
 have F:jV c (iw C.p.J f0.r c f0.V) X.x.s=(X.x.s.L.length / 256,0,X.x.s):=by
  unfold jV;rw[j,gy fy,gy fy,gy fy,gy fy,gy fy,gy fy,gy fy];rfl
 have G:c.O.length=1:=by
  have d:=hf;rw[j]at d;have d:mW C.p.J.L 63 c.n=fT (i,o):=d;unfold mW at d
  split at d
  ·cases d
  ·rw[gy fy,show acc 63=fS from rfl]at d;dsimp only at d;rw[gz rfl]at d
   split at d
   ·injection d with d;injection d with _ e2;rw[E,<-e2];rfl
   ·cases d
 have P:=fQ F;obtain⟨m,q⟩:=fX X.x.s.L.length;have Q:=fQ (show c.O.length = [m / 256].length from G);have R:=fQ (show c.op≠276/\c.op≠277/\c.op≠273/\c.op≠274/\c.op≠275/\c.op≠16 by rw[j];decide);have aA:m<=4096:=(by have:=D.pC;omega);have S:=fQ (show fV c.op = fI #[fF fN 0,fF fN 0,fH gh,fH gh] by rw[j];rfl);have aL:(c.op == 35)=gh:=(by rw[j];rfl);have aM:(c.op == 36)=gh:=(by rw[j];rfl);have aN:(c.op == 63)=fU:=(by rw[j];rfl);have hdiv:((m:Int).tdiv 256)=((m / 256:Nat):Int):=(by rw[Int.tdiv_eq_ediv_of_nonneg fu];rfl);have aO:IntKind.u64.wrap ((m / 256:Nat):Int)=((m / 256:Nat):Int):=qZ fu;obtain⟨AM,cM,t⟩:=h.a5.L.I;rw[q]at t;obtain⟨H,cb,I,rfl,u,T,U,W⟩:=h.K;have J:=(Av w.heap.size w).alloc (Aj _) (fP #[fF fN c.op,fF fO (c.n:Int),H,cb,I] 86);have l:=fQ h;have v:=fQ (gO.a4 w 86 #[fF fN c.op,fF fO (c.n:Int),H,cb,I]);have y:=fQ J;have Y:=fQ t;have Z:=fQ q;clear h J u T U W F E O hf j G t q D;go_in;go_wp2_with fail;refine(qY c.op _).mono ?_;rintro e w1 ⟨rfl,z⟩;have A:=fQ (y.trans (z.mono y.out.size));have f:=fQ (l.a5.C A.out);have aK:=fQ (KK.jN (x:=X) A.out);have K:=fQ (v.C z v.lt);obtain⟨b0,b1,b2,b3,b4⟩:=gZ K.out;have m1:=f.fWi;have d6:w1.cell? ⟨C.cb,6,fS⟩=fT X.mv:=f.cell 6;have d7:w1.cell? ⟨C.cb,7,fS⟩=fT (fF fN X.x.s.Y):=f.cell 7;have d8:w1.cell? ⟨C.cb,8,fS⟩=fT C.gv:=f.cell 8;clear z y v;rw[Y.out]at d6;rw[S.out];go_wp2_with fail;refine(sJ C X { f0 with k:=f0.k+1 } rest g cS _ c _ [(m / 256)] _ (f.C ((Av _ _).alloc (Aj _) _)) l.st l.sv l.K (oq _ fu) (fun k B=>by injection B with B;rw[<-B,gU.a6 f.tojl (Aj _)];omega) l.O (AY Q.symm)).mono ?_;rintro e w9 ⟨rfl,L,M⟩;have L1:=fQ L;have L2:=fQ M;clear L M;go_wp2;go_ret;exact ot l.st L1.out ((aK.C ((Av _ _).alloc (Aj _) _)).trans L2.out) rfl (Z.out ▸ P.out) R.out
theorem eXe(m:List Nat)(most:Int)(y:Nat)(h:m.length<=4096):(lX m most y).length<=4096:=by
 unfold lX
 split
 ·rename_i a;unfold yZ at a;simp only[decide_eq_true_eq]at a;rw[Aa,List.length_replicate];omega
 ·exact h
theorem bQu{base:Nat}{e:TypeId}(h:w.ownsRow base e 1 v l.length (jv l))(a:jw l)(hl:l.length<=1000000000):BR w v l:=by
 rcases h.2 with⟨h1,h2⟩|⟨g,cap,cur,h1,_,_,b,c,_⟩
 ·have hn:l = []:=Aw h2;subst hn;subst h1;exact⟨fS,0,rfl,Src.nil _ _,Aj _,fun _=>rfl,⟨fz,fu⟩,a⟩
 ·subst h1;exact⟨_,cap,rfl,Src.mf h,b,(fun e=>by cases e),⟨fu,by unfold maxLen at c;omega⟩,a⟩
theorem fXd{b c:Nat}{t:Int}(d:b<w.heap.size)(hc:w.cell? ⟨b,o+n,fS⟩=fT (fF fN t)):IR w (fG (fT ⟨b,o+n,fS⟩) 1 c) [t]:=
 ⟨_,c,rfl,rfl,fun _=>⟨b,o+n,rfl,d,fun j u a=>by
  match j,a with
  | 0,a=>
   simp[ix]at a;subst a
   exact hc⟩⟩
theorem KC.fWh{C:iO}(c:KC C):Ints C.w0 C.b C.p.J.E:=by
 obtain⟨a,b,d,f,e,_,h2,_,_⟩:=c.rows;injection e with e;injection e with e;simp only[List.cons.injEq,and_true]at e;obtain⟨_,_,g,_⟩:=e;rw[g];exact h2
theorem eXf(C:iO)(X:iL)(f0:iP)(rest:List iP)(g cS:Nat)(vc:Bx)(c:gP)(va:Bx)(a:List Nat)(w:Bq)(h:ky C X f0 rest g cS vc c va a w)(l:c.op=36)(hG:X.x.s.E.length=C.p.J.E.length):
  Calls fZ 62 #[fM (fT ⟨C.mm,0,fS⟩),fM (fT ⟨g,rest.length*3,fS⟩),vc,va] w (iI C X f0 rest c w):=by
 have ae:=hY h.ok;rw[l]at ae;obtain⟨i,o,hf,aJ,aK,_⟩:=ae;have hf:(match C.p.J.E[c.n]?,C.p.J.a3[c.n]? with|fT g,fT fU=>fT ([g],[])|_,_=>fS)=fT (i,o):=hf
 obtain⟨t,M,A,e2⟩:∃ t,C.p.J.E[c.n]? = fT t/\i = [t]/\o = []:=by
  revert hf
  split
  ·rename_i t h1 h2;intro e;injection e with e;injection e with A e2;exact⟨t,h1,A.symm,e2.symm⟩
  ·intro e;cases e
 subst A;subst e2
 have aL:jL C.p.J f0.r.a2 c = [t]:=by
  unfold jL;rw[l,show iV C.p.J f0.r.a2 36 c.n=_ from hf];rfl
 obtain⟨x,E⟩:∃ x,a = [x]:=by
  have hl:a.length=1:=by rw[h.args];unfold jd;rw[AQ];exact aJ
  match a,hl with
  | [x],_=>exact⟨x,rfl⟩
 have aM:iw C.p.J f0.r c f0.V = [oY t x]:=(by unfold iw;rw[aL,<-h.args,E];rfl)
 have al:jV c (iw C.p.J f0.r c f0.V) X.x.s=(0,0,{ X.x.s with E:=X.x.s.E.set c.n (oY t x) }):=by
  rw[aM];unfold jV;rw[l,gy fy,gy fy,gy fy,gy fy,gy fy,gz rfl];rfl
 have az:=fQ al;have aR:=fQ (show c.op≠276/\c.op≠277/\c.op≠273/\c.op≠274/\c.op≠275/\c.op≠16 by rw[l];decide);have aS:=fQ (Aw (show c.O.length=0 from aK));have aA:c.n<X.x.s.E.length:=(by rw[hG];exact(gw M).1);obtain⟨q,N⟩:=fX X.x.s.E.length;obtain⟨k,gc,O,aT⟩:∃ G c,C.gv = fG (fT ⟨G,0,fS⟩) X.x.s.E.length c/\G<w.heap.size:=(by obtain⟨G,c,A,e2,_⟩:=lZ h.a5.kq fu;exact⟨G,c,A,e2⟩);have an:q=C.p.J.E.length:=fu;obtain⟨BA,F,H⟩:=(KC.fWh h.kc).I;have u:=KC.fWh h.kc;rw[H]at u;obtain⟨P,Q,aU,aN,aO⟩:=u.ir.cell M;subst aU;have ao:=u.kj.2.1;have aD:=u.kj.2.2.2;rw[<-an]at H ao u;rw[N]at O aA;have aV:(c.n:Int)<(q:Int):=fu;have bn:(0:Int)<=(c.n:Int)+1:=fu;have bp:(c.n:Int)+1<=(F:Int):=fu;have bq:¬F=c.n:=fu;have br:IntKind.u64.wrap ((c.n:Int)+1)=((c.n+1:Nat):Int):=(by rw[show(c.n:Int)+1=((c.n+1:Nat):Int) by omega];exact qZ fu);have aW:=fQ (show fV c.op = fI #[fF fN 0,fF fN 0,fH gh,fH gh] by rw[l];rfl);have bs:(c.op == 35)=gh:=(by rw[l];rfl);have bt:(c.op == 36)=fU:=(by rw[l];rfl);have HX:=fQ E;obtain⟨ca,cb,cd,rfl,R,aX,aY,aZ⟩:=h.K;have hB:=(Av w.heap.size w).alloc (Aj _) (fP #[fF fN c.op,fF fO (c.n:Int),ca,cb,cd] 86);have I:=fQ h;have S:=fQ (gO.a4 w 86 #[fF fN c.op,fF fO (c.n:Int),ca,cb,cd]);have T:=fQ hB;have v:=fQ O;have U:=fQ H;have a8:=fQ aO;have aP:=fQ aN;have ba:=fQ N;clear h hB R aX aY aZ al aK aJ hf l M hG N O aL E aM u H an aN aO;go_in;go_wp2_with fail;refine(qY c.op _).mono ?_;rintro e w1 ⟨rfl,W⟩;have J:=fQ (T.trans (W.mono T.out.size));have j:=fQ (I.a5.C J.out);have bd:=fQ (KK.jN (x:=X) J.out);have Y:=fQ (S.C W S.lt);have be:=fQ (I.ur.C J.out (Aj _));obtain⟨b0,b1,b2,b3,b4⟩:=gZ Y.out;have yB:=Y.lt;have m1:=j.fWi;have yb:=j.cb.lt;have ym:=j.mm.lt;have Z:w1.cell? ⟨C.cb,2,fS⟩=fT C.b:=j.cell 2;have d6:w1.cell? ⟨C.cb,6,fS⟩=fT X.mv:=j.cell 6;have d7:w1.cell? ⟨C.cb,7,fS⟩=fT (fF fN X.x.s.Y):=j.cell 7;have d8:w1.cell? ⟨C.cb,8,fS⟩=fT C.gv:=j.cell 8;clear W T S;have yg:k<w1.heap.size:=Ak aT J.out.size;rw[v.out]at d8;rw[U.out]at Z;rw[aW.out];go_wp2_with fail;refine jY (fun w'=>w'.cell? ⟨C.mm,0,fS⟩=fT (fM (fT ⟨C.cb,0,fS⟩))/\w'.cell? ⟨C.cb,8,fS⟩=fT (fG (fT ⟨k,0,fS⟩) q gc)/\w'.cell? ⟨C.cb,2,fS⟩=fT (fG (fT ⟨P,Q,fS⟩) q F)/\w'.cell? ⟨w.heap.size,1,fS⟩=fT (fF fO (c.n:Int))/\C.mm<w'.heap.size/\C.cb<w'.heap.size/\w.heap.size<w'.heap.size) (fun _=>True) 1000 fx ⟨m1,d8,Z,b1,ym,yb,yB⟩ trivial fun d=>?_;refine ig 0 d fun d=>?_;refine ig 1 d fun d=>?_;refine ig 2 d fun d=>?_;refine ig 3 d fun d=>?_;refine ig 4 d fun d=>?_
 refine ig 5 d fun d=>?_;refine ig 6 d fun d=>?_;refine ig 7 d fun d=>?_;refine ig 8 d fun d=>?_;refine ig 9 d fun d=>?_;refine ig 10 d fun d=>?_;refine ig 11 d fun d=>?_;refine ig 12 d fun d=>?_;refine ig 13 d fun d=>?_;refine ig 14 d fun d=>?_;refine ig 15 d fun d=>?_;refine ig 16 d fun d=>?_;refine ig 17 d fun d=>?_;refine ig 18 d fun d=>?_;refine ig 19 d fun d=>?_;refine ig 20 d fun d=>?_;refine ig 21 d fun d=>?_;refine ig 22 d fun d=>?_;refine ig 23 d fun d=>?_;refine ig 24 d fun d=>?_;refine ig 25 d fun d=>?_;refine gX (i:=26) fx rfl fun K f=>?_;go_simp;refine(pH _ _ [t] a _ (fXd (Ak aP.out (show C.w0.heap.size<=w1.drew.heap.size from j.bel.size)) (((show Below C.w0.heap.size C.w0 w1.drew from j.bel.drew).cell (p:=⟨P,Q+c.n,fS⟩) aP.out).trans a8.out)) (show UR w1.drew va a from be.out) (by rw[HX.out];rfl)).mono ?_;rintro e w2 ⟨v3,rfl,B,D⟩;rw[HX.out]at B;obtain⟨A3,c3,rfl,bw⟩:=fJ B;obtain⟨g3,bz,e3,bA,bB,_⟩:=lZ B fz;injection e3 with e3 _ bC;subst e3;have bf:w2.cell? ⟨g3,0,fS⟩=fT (fF fO (oY t x:Int)):=B.cellAt 0 fz;have m:=fQ (j.drew.C D);have bg:=fQ (bd.drew.C D);have ai:=fQ (Y.drew.C D (show w.heap.size<w1.drew.heap.size from yB));have SS:w2.cell? ⟨C.mm,0,fS⟩=fT (fM (fT ⟨C.cb,0,fS⟩))/\w2.cell? ⟨C.cb,8,fS⟩=fT (fG (fT ⟨k,0,fS⟩) q gc)/\w2.cell? ⟨C.cb,2,fS⟩=fT (fG (fT ⟨P,Q,fS⟩) q F)/\w2.cell? ⟨w.heap.size,1,fS⟩=fT (fF fO (c.n:Int))/\C.mm<w2.heap.size/\C.cb<w2.heap.size/\w.heap.size<w2.heap.size:=⟨m.fWi,v.out ▸ m.cell 8,U.out ▸ m.cell 2,ai.cell 1,m.mm.lt,m.cb.lt,ai.lt⟩;have aI:=fQ SS;have L:=m.kq;rw[v.out,ba.out]at L;obtain⟨pv,bj⟩:=aWd L (show c.n<q by omega);have bk:w2.frozen? ⟨k,c.n,fS⟩=gh:=L.frozenAt _;clear B D SS L;refine f.out _ _ ⟨aI.out,fun _=>trivial⟩ fun d=>?_;clear f K
 try simp only[Ay,Aq,Ax,Az]
 refine gX (i:=27) fx rfl fun K f=>?_;go_simp;refine f.out _ _ ⟨aI.out,fun _=>trivial⟩ fun d=>?_;clear f K
 try simp only[Ay,Aq,Ax,Az]
 refine gX (i:=28) fx rfl fun K f=>?_;go_simp;refine f.out _ _ ⟨aI.out,fun _=>trivial⟩ fun d=>?_;clear f K
 try simp only[Ay,Aq,Ax,Az]
 refine ig 29 d fun d=>?_;refine gX (i:=30) fx rfl fun K f=>?_;go_simp;have z:=fQ (m.sM v.out c.n (oY t x));have bm:=fQ (bg.set (y:=X) (g:=k) c.n (fF fO (oY t x:Int)) (.inl (by rw[m.l3 k (by rw[v.out];rfl)];decide)) rfl);have au:=fQ (ai.setCell (p:=⟨k,c.n,fS⟩) (fF fO (oY t x:Int)) (fun e=>by have e:w.heap.size=k:=e;omega));refine f.out _ _ ⟨⟨z.fWi,v.out ▸ z.cell 8,U.out ▸ z.cell 2,au.cell 1,z.mm.lt,z.cb.lt,au.lt⟩,fun _=>trivial⟩ fun d=>?_;clear f K
 try simp only[Ay,Aq,Ax,Az]
 refine jX fx ?_ _;clear d;clear bf bj bk m1 Z d6 d7 d8 b0 b1 b2 b3 b4;go_wp2;go_ret;exact bQt I.st z.out (bm.to rfl) rfl aS.out az.out aR.out
theorem eXg(C:iO)(X:iL)(f0:iP)(rest:List iP)(g cS:Nat)(vc:Bx)(c:gP)(va:Bx)(a:List Nat)(w:Bq)(h:ky C X f0 rest g cS vc c va a w)(u:c.op=64)(R:jh C.p.J X.x.s):
  Calls fZ 62 #[fM (fT ⟨C.mm,0,fS⟩),fM (fT ⟨g,rest.length*3,fS⟩),vc,va] w (iI C X f0 rest c w):=by
 have ag:=hY h.ok;rw[u]at ag;obtain⟨i,o,hf,aL,aM,_⟩:=ag
 obtain⟨S,e2⟩:i = [127]/\o = [127]:=by
  have q:mW C.p.J.L 64 c.n=fT (i,o):=hf;unfold mW at q
  split at q
  ·cases q
  ·rw[gy fy,show acc 64=fS from rfl]at q;dsimp only at q;rw[gy fy,gz rfl]at q
   split at q
   ·injection q with q;injection q with S e2;exact⟨S.symm,e2.symm⟩
   ·cases q
 subst S;subst e2
 have aN:jL C.p.J f0.r.a2 c = [127]:=by
  unfold jL;rw[u,hf];rfl
 obtain⟨x,N⟩:∃ x,a = [x]:=by
  have hl:a.length=1:=by rw[h.args];unfold jd;rw[AQ];exact aL
  match a,hl with
  | [x],_=>exact⟨x,rfl⟩
 obtain⟨y,hy⟩:=fX (x % 4294967296);have aY:y<4294967296:=fu;have aO:iw C.p.J f0.r c f0.V = [y]:=(by unfold iw;rw[aN,<-h.args,N,<-hy];rfl);obtain⟨B,O⟩:=fX X.x.s.L.length
 have an:jV c (iw C.p.J f0.r c f0.V) X.x.s=(rV B X.x.s.Y y,0,{ X.x.s with L:=lX X.x.s.L X.x.s.Y y }):=by
  rw[aO,<-O];unfold jV;rw[u,gy fy,gy fy,gy fy,gy fy,gy fy,gy fy,gy fy];rfl
 have az:=fQ an;have aZ:=fQ (show c.O.length = [rV B X.x.s.Y y].length from aM);have a1:=fQ (show c.op≠276/\c.op≠277/\c.op≠273/\c.op≠274/\c.op≠275/\c.op≠16 by rw[u];decide);have a6:IntKind.u32.wrap (x:Int)=(y:Int):=(by rw[IntKind.wrap_u32];omega);have a7:IntKind.u64.wrap (y:Int)=(y:Int):=qZ fu;obtain⟨T,U,P⟩:=h.a5.L.I;have W:=h.a5.L;rw[O]at P;rw[P]at W;have Q:=h.ur;obtain⟨A1,c1,aP⟩:=Q.I;rw[N]at aP Q;subst aP;obtain⟨ab,F,a8,aQ,Y,_⟩:=Q.cell (k:=0) (x:=x) rfl;subst a8;rw[Ai]at Y;have ba:=fQ (show fV c.op = fI #[fF fN 0,fF fN 0,fH gh,fH gh] by rw[u];rfl);have bq:(c.op == 35)=gh:=(by rw[u];rfl);have br:(c.op == 36)=gh:=(by rw[u];rfl);have bs:(c.op == 63)=gh:=(by rw[u];rfl);have bt:(c.op == 64)=fU:=(by rw[u];rfl);have aC:rV B X.x.s.Y y<18446744073709551616:=(by unfold rV;have:=R.pC;split <;> omega);obtain⟨Z,cb,cd,rfl,ah,bb,bc,bd⟩:=h.K;have hB:=(Av w.heap.size w).alloc (Aj _) (fP #[fF fN c.op,fF fO (c.n:Int),Z,cb,cd] 86);have t:=fQ h;have aD:=fQ (gO.a4 w 86 #[fF fN c.op,fF fO (c.n:Int),Z,cb,cd]);have aE:=fQ hB;have aF:=fQ P;have I:=fQ W;have bj:=fQ Y;have aR:=fQ aQ;have HS:=fQ R;clear h hB ah bb bc bd an aM aL hf u aN N aO P W Q Y aQ R hy O;go_in;go_wp2_with fail;refine(qY c.op _).mono ?_;rintro e w1 ⟨rfl,aG⟩;have G:=fQ (aE.trans (aG.mono aE.out.size));have z:=fQ (t.a5.C G.out);have aS:=fQ (KK.jN (x:=X) G.out);have ai:=fQ (aD.C aG aD.lt);have bk:=fQ (gU.a6 t.a5.tojl (Aj w.heap.size));obtain⟨b0,b1,b2,b3,b4⟩:=gZ ai.out;have yB:=ai.lt;have m1:=z.fWi;have yb:=z.cb.lt;have ym:=z.mm.lt;have d2:w1.cell? ⟨C.cb,2,fS⟩=fT C.b:=z.cell 2;have d6:w1.cell? ⟨C.cb,6,fS⟩=fT X.mv:=z.cell 6;have d7:w1.cell? ⟨C.cb,7,fS⟩=fT (fF fN X.x.s.Y):=z.cell 7;have d8:w1.cell? ⟨C.cb,8,fS⟩=fT C.gv:=z.cell 8;clear aG aE aD;have aH:w1.cell? ⟨ab,F,fS⟩=fT (fF fO (x:Int)):=(G.cell (p:=⟨ab,F,fS⟩) aR.out).trans bj.out;have ya:ab<w1.heap.size:=Ak aR.out G.out.size;rw[aF.out]at d6;rw[ba.out];go_wp2_with fail;refine jY (fun w'=>w'.cell? ⟨C.mm,0,fS⟩=fT (fM (fT ⟨C.cb,0,fS⟩))/\w'.cell? ⟨C.cb,7,fS⟩=fT (fF fN X.x.s.Y)/\w'.cell? ⟨ab,F,fS⟩=fT (fF fO (x:Int))/\C.mm<w'.heap.size/\C.cb<w'.heap.size/\ab<w'.heap.size) (fun w'=>w'.cell? ⟨C.cb,6,fS⟩=fT (fG T B U)) 32 fx ⟨m1,d7,aH,ym,yb,ya⟩ d6 fun d=>?_;refine ig 0 d fun d=>?_;refine ig 1 d fun d=>?_;refine ig 2 d fun d=>?_;refine ig 3 d fun d=>?_;refine ig 4 d fun d=>?_;refine ig 5 d fun d=>?_;refine ig 6 d fun d=>?_;refine ig 7 d fun d=>?_;refine ig 8 d fun d=>?_;refine ig 9 d fun d=>?_;refine ig 10 d fun d=>?_;refine nY (i:=11) (v:=?vg11) rfl fx fx fx (fun _ _ _ h=>h) rfl fx fx (Or.inl ⟨by rfl,?tL⟩) d fun d=>?_
 case tL=>intro w bm;(try dsimp only at bm);go_simp;(try with_reducible rfl)
 try simp only[Ay,Aq,Ax,Az]
 refine ig 12 d fun d=>?_;refine ig 13 d fun d=>?_;refine ig 14 d fun d=>?_;refine ig 15 d fun d=>?_;refine ig 16 d fun d=>?_;refine ig 17 d fun d=>?_;refine ig 18 d fun d=>?_;refine ig 19 d fun d=>?_;refine ig 20 d fun d=>?_;refine ig 21 d fun d=>?_;refine ig 22 d fun d=>?_;refine ig 23 d fun d=>?_;refine ig 24 d fun d=>?_;refine gX (i:=25) fx rfl fun K J=>?_;go_simp;refine(eJj T B U X.x.s.L X.x.s.Y y w1.drew ((I.C G.drew (Aj _)).len.2.1) (fun e=>⟨(by have:=I.len;have h0:=this.2.2.2.1 e;omega),I.len.2.2.2.1 e⟩) (I.len.2.2.2.2.1.1) (by have:=HS.ls;omega) (by have:=HS.Y;omega) fu).mono ?_;rintro e w2 ⟨f,l,rfl,D,H⟩;obtain⟨m,aT⟩:=fX ((lX X.x.s.L X.x.s.Y y).length);have aI:=bQu D (aYx I.len.2.2.2.2.2 _ _) (by have h1:=HS.pC;have:=eXe X.x.s.L X.x.s.Y y h1;omega);rw[aT]at D aI ⊢;have A:=fQ (z.drew.C H);have bn:=fQ (aS.drew.C H);have bo:=fQ aI;have aU:=fQ (fun(j:Nat) (hj:(AX f m l).ownBlock=fT j)=>(⟨gU.a6 z.drew.tojl (D.lt j hj).1,AK z.drew.bel.size (D.lt j hj).1,(D.lt j hj).2⟩:X.a8 j=0/\C.w0.heap.size<=j/\j<w2.heap.size));have bp:=fQ (fun(j:Nat) (hj:(AX f m l).ownBlock=fT j)=>AK aS.out.size (D.lt j hj).1);have L:=fQ (show w2.cell? ⟨ab,F,fS⟩=fT (fF fO (x:Int))/\ab<w2.heap.size from⟨(H.cell (p:=⟨ab,F,fS⟩) (show ab<w1.drew.heap.size from ya)).trans aH,Ak (show ab<w1.drew.heap.size from ya) H.size⟩);have aJ:=fQ (ai.drew.C H (show w.heap.size<w1.drew.heap.size from yB));clear D H aI aT;refine J.out _ _ ⟨⟨A.fWi,A.cell 7,L.1,A.mm.lt,A.cb.lt,L.2⟩,fun _=>aF.out ▸ A.cell 6⟩ fun d=>?_;clear J K
 try simp only[Ay,Aq,Ax,Az]
 refine ig 26 d fun d=>?_;refine ig 27 d fun d=>?_;refine ig 28 d fun d=>?_;refine ig 29 d fun d=>?_;refine ig 30 d fun d=>?_;refine ig 31 d fun d=>?_;have e6:w2.cell? ⟨C.cb,6,fS⟩=fT (fG T B U):=aF.out ▸ A.cell 6;have f6:=ik A.cb 6;refine gX (i:=32) fx rfl fun K J=>?_;go_simp;have E:=fQ ((A.lH (fG f m l) 6 aU.out).oM (fG f m l) (lX X.x.s.L X.x.s.Y y) bo.out (fun k M=>zJ M));have aV:=fQ ((bn.lH (v:=fG f m l) (c:=6) (fun j hj=>.inl (bp.out j hj))).set (y:={ X with a8:=mY X.a8 (fG f m l) 6 }) (g:=C.cb) 6 (fG f m l) (.inl (by show mY X.a8 _ 6 C.cb≠0;rw[uK (fun e=>by have h1:=(aU.out _ e).1;rw[A.cl]at h1;cases h1),A.cl];decide)) rfl);have aW:=fQ (show(w2.setCell ⟨C.cb,6,fS⟩ (fG f m l)).cell? ⟨ab,F,fS⟩=fT (fF fO (x:Int))from(pX (fun e=>by have h1:=t.free ab rfl;rw[e,t.a5.cl]at h1;cases h1)).trans L.1);refine J.out _ _ (SD.after ⟨E.fWi,E.cell 7,aW.out,E.mm.lt,E.cb.lt,Ak L.2 (by simp[World.setCell])⟩ fx) fun d=>?_;clear J K
 try simp only[Ay,Aq,Ax,Az]
 refine ig 33 d fun d=>?_;refine jX fx ?_ _;clear d;clear e6 f6 m1 d2 d6 d7 d8 b0 b1 b2 b3 b4 aH;obtain⟨w3,aK⟩:=fX (w2.setCell ⟨C.cb,6,fS⟩ (fG f m l));have au:=fQ (aK ▸ (aJ.setCell (p:=⟨C.cb,6,fS⟩) (fG f m l) (fun e=>by have e:w.heap.size=C.cb:=e;have h1:=bk.out;rw[e,t.a5.cl]at h1;cases h1)):gO w3 w.heap.size 86 #[fF fN c.op,fF fO (c.n:Int),Z,cb,cd]);rw[aK]at E aV ⊢;clear aK aW L;obtain⟨b0,b1,b2,b3,b4⟩:=gZ au.out;go_wp2_with fail;refine(sJ C { X with a8:=mY X.a8 (fG f m l) 6,mv:=fG f m l,x:={ X.x with s:={ X.x.s with L:=lX X.x.s.L X.x.s.Y y } } } { f0 with k:=f0.k+1 } rest g cS _ c _ [(rV B X.x.s.Y y)] _ (E.C ((Av _ _).alloc (Aj _) _)) t.st t.sv t.K (oq _ aC) (fun k M=>by injection M with M;rw[<-M,gU.a6 E.tojl (Aj _)];omega) t.O (AY aZ.symm)).mono ?_;rintro e w9 ⟨rfl,l1,l2⟩;have L1:=fQ l1;have L2:=fQ l2;clear l1 l2;go_wp2;go_ret;exact ot t.st L1.out (((aV.to (y:={ X with a8:=mY X.a8 (fG f m l) 6,mv:=fG f m l,x:={ X.x with s:={ X.x.s with L:=lX X.x.s.L X.x.s.Y y } } }) rfl).C ((Av _ _).alloc (Aj _) _)).trans L2.out) rfl az.out a1.out
theorem cQo{e:ia}{s:iu}{i o:List Int}{k wd:Int}{st f:Bool}(h:iV e s op n=fT (i,o))(ha:acc op=fT (k,wd,st,f)):n<=4294967295/\(i,o)=if st then([127,k],[])else([127],[k]):=by
 have hb:=(mK ha).2.2
 have hg:(gQ op).isSome=gh:=by
  cases hg:gQ op with
  | none=>rfl
  | some g=>
   obtain⟨a,b,c,d⟩:=g;have h1:=(pq hg).2.2;omega
 unfold iV at h;rw[gy fu,gy fu,gy fu,gy fu,gy fu,gy fu,gy fu,gy fu,gy fu,hg,gy fy]at h;unfold mW at h
 split at h
 ·cases h
 ·rw[gy fu,ha]at h;dsimp only at h
  split at h
  ·rename_i hn;injection h with h;exact⟨hn,h.symm⟩
  ·cases h
theorem bJh{wd:Int}(hx:x<=4294967295)(ho:o<=4294967295):(mJ n wd x o).2=0\/(mJ n wd x o).2=35:=by
 unfold mJ;rw[gy fu]
 split
 ·exact .inl rfl
 ·exact .inr rfl
theorem cWh{y:Nat}{k wd:Int}{a:Bool}(ha:acc op=fT (k,wd,fU,a))(b:x<=4294967295)(c:o<=4294967295)(d:k=127->y<=4294967295):lV n op x o y=0\/lV n op x o y=35:=by
 unfold lV;rw[ha];dsimp only;rw[gy fy,gy (by rintro⟨h1,h2⟩;have:=d h1;omega)];exact bJh b c
theorem dJi{m:List Nat}{k wd:Int}{a:Bool}(ha:acc op=fT (k,wd,gh,a))(b:x<=4294967295)(c:o<=4294967295):(oK m op x o).2=0\/(oK m op x o).2=35:=by
 unfold oK;rw[ha];dsimp only;rw[gy fy]
 split
 ·exact .inl rfl
 ·exact bJh b c
theorem cWi{m:List Nat}(h:jw m)(op:Int)(x o y:Nat):jw (lQ m op x o y):=by
 unfold lQ
 split
 ·exact aWs h _ _ _
 ·exact fun c hc=>by simp at hc
theorem dJj(m:List Nat)(op:Int)(x o y:Nat):(lQ m op x o y).length<=m.length:=by
 unfold lQ
 split
 ·rw[qM];exact Aj _
 ·exact Bj _
theorem eXh(C:iO)(X:iL)(f0:iP)(rest:List iP)(g cS:Nat)(vc:Bx)(c:gP)(va:Bx)(a:List Nat)(w:Bq)(h:ky C X f0 rest g cS vc c va a w)(hS:jh C.p.J X.x.s){q wd:Int}{sg:Bool}(z:acc c.op=fT (q,wd,fU,sg)):
  Calls fZ 62 #[fM (fT ⟨C.mm,0,fS⟩),fM (fT ⟨g,rest.length*3,fS⟩),vc,va] w (iI C X f0 rest c w):=by
 have bb:=mK z;have ao:=hY h.ok;obtain⟨i,o,hf,aR,aS,_⟩:=ao;obtain⟨aC,bc⟩:=cQo hf z;injection bc with e1 e2;subst e1;subst e2;have aT:jL C.p.J f0.r.a2 c = [127,q]:=(by unfold jL;rw[hf];rfl)
 obtain⟨x,y,H⟩:∃ x y,a = [x,y]:=by
  have hl:a.length=2:=by rw[h.args];unfold jd;rw[AQ];exact aR
  match a,hl with
  | [x,y],_=>exact⟨x,y,rfl⟩
 have aD:=h.ur.all y (by rw[H];simp);obtain⟨x1,aU⟩:=fX (x % 4294967296);obtain⟨y1,hy1⟩:=fX (oY q y);have aE:x1<=4294967295:=fu;have be:y1<18446744073709551616:=(by rw[<-hy1];exact eWl aD)
 have aq:q=127->y1<=4294967295:=fun e=>by rw[<-hy1,e];unfold oY;rw[gz rfl];omega
 have aF:ie [127,q] [x,y] = [x1,y1]:=(by simp only[ie];rw[show oY 127 x=x1 from aU,hy1]);have aV:iw C.p.J f0.r c f0.V = [x1,y1]:=(by unfold iw;rw[aT,<-h.args,H];exact aF);obtain⟨I,R⟩:=fX X.x.s.L.length;obtain⟨S,T,U⟩:=h.a5.L.I;have aG:=h.a5.L;rw[R]at U;rw[U]at aG;obtain⟨E,W⟩:=fX (lV I c.op x1 c.n y1);have aW:E=0\/E=35:=(by rw[<-W];exact cWh z aE aC aq)
 have ar:jV c (iw C.p.J f0.r c f0.V) X.x.s=if E=0 then(0,0,{ X.x.s with L:=lQ X.x.s.L c.op x1 c.n y1 })else(0,38,X.x.s):=by
  rw[aV,<-W,<-R];unfold jV;rw[gy fu,gy fu,gy fu,gy fu,gy fu,gy fu,gy fu,z];rfl
 have au:=fQ ar;have bf:=fQ (Aw (show c.O.length=0 from aS));have bA:(c.op == 35)=gh:=fw;have bB:(c.op == 36)=gh:=fw;have bC:(c.op == 63)=gh:=fw;have bD:(c.op == 64)=gh:=fw;have aX:=fQ (show c.op≠276/\c.op≠277/\c.op≠273/\c.op≠274/\c.op≠275/\c.op≠16 by omega);have bg:=fQ (show fV c.op = fI #[fF fN q,fF fN wd,fH fU,fH fU] by unfold fV;rw[z]);have bj:=fQ aF;have HX:=fQ H;obtain⟨ca,cb,cd,rfl,ai,bk,bm,bn⟩:=h.K;have hB:=(Av w.heap.size w).alloc (Aj _) (fP #[fF fN c.op,fF fO (c.n:Int),ca,cb,cd] 86);have Y:=fQ h;have aH:=fQ (gO.a4 w 86 #[fF fN c.op,fF fO (c.n:Int),ca,cb,cd]);have aI:=fQ hB;have bp:c.n<18446744073709551616:=ai.1;have Z:=fQ U;have aA:=fQ aG;have HS:=fQ hS;have HE:=fQ W;clear h hB ai bk bm bn ar aS aR hf aT H aU hy1 aV U aG hS R W aF z bb aq;go_in;go_wp2_with fail;refine(qY c.op _).mono ?_;rintro e w1 ⟨rfl,aJ⟩;have aK:=fQ (aI.trans (aJ.mono aI.out.size));have t:=fQ (Y.a5.C aK.out);have bs:=fQ (KK.jN (x:=X) aK.out);have J:=fQ (aH.C aJ aH.lt);have bt:=fQ (Y.ur.C aK.out (Aj _));obtain⟨b0,b1,b2,b3,b4⟩:=gZ J.out;have L:=J.lt;have m1:=t.fWi;have M:=t.cb.lt;have N:=t.mm.lt;have d2:w1.cell? ⟨C.cb,2,fS⟩=fT C.b:=t.cell 2;have O:w1.cell? ⟨C.cb,6,fS⟩=fT X.mv:=t.cell 6;have d7:w1.cell? ⟨C.cb,7,fS⟩=fT (fF fN X.x.s.Y):=t.cell 7;have d8:w1.cell? ⟨C.cb,8,fS⟩=fT C.gv:=t.cell 8;clear aJ aI aH;rw[Z.out]at O;rw[bg.out];go_wp2_with fail;have aL:=(Av w1.heap.size w1).alloc (Aj _) (fP #[fF fN 127,fF fN q] 3);have aM:=fQ aL;refine(pH _ _ [127,q] a _ (IR.two (gO.a4 w1 3 #[fF fN 127,fF fN q])) (bt.C aL (Aj _)) (by rw[HX.out];rfl)).mono ?_;clear aL;rintro e w2 ⟨v3,rfl,G,m⟩;rw[HX.out,bj.out]at G;obtain⟨A3,c3,rfl,bu⟩:=fJ G;obtain⟨f,bG,e3,aB,bH,_⟩:=lZ G fz;injection e3 with e3 _ bI;subst e3;have aN:w2.cell? ⟨f,0,fS⟩=fT (fF fO (x1:Int)):=G.cellAt 0 fz;have aO:w2.cell? ⟨f,1,fS⟩=fT (fF fO (y1:Int)):=G.cellAt 1 fz;have u:=fQ ((t.C aM.out).C m);have aY:=fQ ((bs.C aM.out).C m);have aj:=fQ ((J.C aM.out J.lt).C m (by have:=J.lt;simp;omega));have aP:=fQ (Z.out ▸ u.L:BR w2 (fG S I T) X.x.s.L);clear G m d2 O d7 d8 b0 b1 b2 b3 b4 m1 M N L bu;simp only[Af,List.length_nil]at *;have m2:=u.fWi;have O:w2.cell? ⟨C.cb,6,fS⟩=fT (fG S I T):=Z.out ▸ u.cell 6;obtain⟨b0,b1,b2,b3,b4⟩:=gZ aj.out;have L:=aj.lt;have M:=u.cb.lt;have N:=u.mm.lt;go_wp2_with fail;refine jY (fun w'=>w'.cell? ⟨C.mm,0,fS⟩=fT (fM (fT ⟨C.cb,0,fS⟩))/\w'.cell? ⟨C.cb,6,fS⟩=fT (fG S I T)/\w'.cell? ⟨w.heap.size,0,fS⟩=fT (fF fN c.op)/\w'.cell? ⟨w.heap.size,1,fS⟩=fT (fF fO (c.n:Int))/\w'.cell? ⟨f,0,fS⟩=fT (fF fO (x1:Int))/\w'.cell? ⟨f,1,fS⟩=fT (fF fO (y1:Int))/\C.mm<w'.heap.size/\C.cb<w'.heap.size/\w.heap.size<w'.heap.size/\f<w'.heap.size) (fun _=>True) 1000 fx ⟨m2,O,b0,b1,aN,aO,N,M,L,aB⟩ trivial fun d=>?_
 refine ig 0 d fun d=>?_;refine ig 1 d fun d=>?_;refine ig 2 d fun d=>?_;refine ig 3 d fun d=>?_;refine ig 4 d fun d=>?_;refine ig 5 d fun d=>?_;refine ig 6 d fun d=>?_;refine ig 7 d fun d=>?_;refine ig 8 d fun d=>?_;refine ig 9 d fun d=>?_;refine ig 10 d fun d=>?_;refine ig 11 d fun d=>?_;refine ig 12 d fun d=>?_;refine ig 13 d fun d=>?_;refine ig 14 d fun d=>?_;refine ig 15 d fun d=>?_;refine ig 16 d fun d=>?_;refine ig 17 d fun d=>?_;refine gX (i:=18) fx rfl fun K hK=>?_;go_simp;refine(dVo S I T x1 c.n y1 c.op X.x.s.L w2.drew ((show BR w2.drew _ _ from aP.out).len.2.1) (fun e=>⟨(by have:=aA.len;have h0:=this.2.2.2.1 e;omega),aA.len.2.2.2.1 e⟩) (aA.len.2.2.2.2.1.1) fu fu fu).mono ?_;rintro e P ⟨A,B,rfl,D,m⟩;obtain⟨F,aZ⟩:=fX ((lQ X.x.s.L c.op x1 c.n y1).length);rw[HE.out];have l:=fQ (u.drew.C m);have a1:=fQ (aY.drew.C m);have al:=fQ (aj.drew.C m (show w.heap.size<w2.drew.heap.size from L));have a6:=fQ (bQu D (cWi aA.len.2.2.2.2.2 _ _ _ _) (by have h1:=HS.pC;have:=dJj X.x.s.L c.op x1 c.n y1;omega));rw[aZ]at D a6 ⊢;have a7:=fQ (fun(j:Nat) (hj:(AX A F B).ownBlock=fT j)=>(⟨gU.a6 u.drew.tojl (D.lt j hj).1,AK u.drew.bel.size (D.lt j hj).1,(D.lt j hj).2⟩:X.a8 j=0/\C.w0.heap.size<=j/\j<P.heap.size));have bw:=fQ (fun(j:Nat) (hj:(AX A F B).ownBlock=fT j)=>AK aY.out.size (D.lt j hj).1);have HP:=fQ (show P.cell? ⟨f,0,fS⟩=fT (fF fO (x1:Int))/\P.cell? ⟨f,1,fS⟩=fT (fF fO (y1:Int))/\f<P.heap.size from⟨(m.cell (p:=⟨f,0,fS⟩) (show f<w2.drew.heap.size from aB)).trans aN,(m.cell (p:=⟨f,1,fS⟩) (show f<w2.drew.heap.size from aB)).trans aO,Ak (show f<w2.drew.heap.size from aB) m.size⟩);clear D m aZ;refine hK.out _ _ ⟨⟨l.fWi,Z.out ▸ l.cell 6,al.cell 0,al.cell 1,HP.1,HP.2.1,l.mm.lt,l.cb.lt,al.lt,HP.2.2⟩,fun _=>trivial⟩ fun d=>?_;clear hK K
 try simp only[Ay,Aq,Ax,Az]
 refine ig 19 d fun d=>?_;refine ig 20 d fun d=>?_;refine ig 21 d fun d=>?_;refine ig 22 d fun d=>?_;refine ig 23 d fun d=>?_;refine jX fx ?_ _;clear d;clear m2 O b0 b1 b2 b3 b4 aN aO L M N;have m3:=l.fWi;have e6:P.cell? ⟨C.cb,6,fS⟩=fT X.mv:=l.cell 6;have f6:=ik l.cb 6;by_cases Q:E=0
 ·have t0:(E == 0)=fU:=(by simp[Q]);have aQ:=fQ Q;clear Q aW;have HF:=fQ ((l.lH (fG A F B) 6 a7.out).oM (fG A F B) (lQ X.x.s.L c.op x1 c.n y1) a6.out (fun k hk=>zJ hk));have bz:=fQ ((a1.lH (v:=fG A F B) (c:=6) (fun j hj=>.inl (bw.out j hj))).set (y:={ X with a8:=mY X.a8 (fG A F B) 6 }) (g:=C.cb) 6 (fG A F B) (.inl (by show mY X.a8 _ 6 C.cb≠0;rw[uK (fun e=>by have h1:=(a7.out _ e).1;rw[l.cl]at h1;cases h1),l.cl];decide)) rfl);go_wp2_with fail;refine gu (bQx E _) ?_;rw[gy (by rw[aQ.out];decide),aQ.out];go_wp2;go_ret;exact bQt Y.st HF.out (bz.to rfl) rfl bf.out (by rw[au.out,gz aQ.out]) aX.out
 ·have t0:(E == 0)=gh:=(by simp[Q]);have a8:E=35:=fu;have ba:=fQ a8;clear Q aW a8;go_wp2_with fail;refine gu (bQx E _) ?_;rw[gz ba.out];go_wp2;go_ret;exact tI l.out a1.out rfl (by rw[au.out,gy (by rw[ba.out];decide)]) fy aX.out
theorem eXi(C:iO)(X:iL)(f0:iP)(rest:List iP)(g cS:Nat)(vc:Bx)(c:gP)(va:Bx)(a:List Nat)(w:Bq)(h:ky C X f0 rest g cS vc c va a w)(hS:jh C.p.J X.x.s){kd wd:Int}{sg:Bool}(m:acc c.op=fT (kd,wd,gh,sg)):
  Calls fZ 62 #[fM (fT ⟨C.mm,0,fS⟩),fM (fT ⟨g,rest.length*3,fS⟩),vc,va] w (iI C X f0 rest c w):=by
 have aW:=mK m;have ak:=hY h.ok;obtain⟨i,o,hf,aH,aI,_⟩:=ak;obtain⟨az,aX⟩:=cQo hf m;injection aX with e1 e2;subst e1;subst e2;have aJ:jL C.p.J f0.r.a2 c = [127]:=(by unfold jL;rw[hf];rfl)
 obtain⟨x,z⟩:∃ x,a = [x]:=by
  have hl:a.length=1:=by rw[h.args];unfold jd;rw[AQ];exact aH
  match a,hl with
  | [x],_=>exact⟨x,rfl⟩
 obtain⟨y,hy⟩:=fX (x % 4294967296);have aZ:y<4294967296:=fu;have aK:iw C.p.J f0.r c f0.V = [y]:=(by unfold iw;rw[aJ,<-h.args,z,<-hy];rfl);obtain⟨NM,J⟩:=fX X.x.s.L.length;obtain⟨AM,cM,A⟩:=h.a5.L.I;have B:=h.a5.L;rw[J]at A;rw[A]at B;have D:=re (aYz B.len.2.2.2.2.2 c.op y c.n);obtain⟨E,F⟩:=fX ((oK X.x.s.L c.op y c.n).2);obtain⟨V,L⟩:=fX ((oK X.x.s.L c.op y c.n).1.toNat);rw[L]at D;have aL:E=0\/E=35:=(by rw[<-F];exact dJi m fu az)
 have al:jV c (iw C.p.J f0.r c f0.V) X.x.s=if E=0 then(V,0,X.x.s)else(0,38,X.x.s):=by
  rw[aK,<-F,<-L];unfold jV;rw[gy fu,gy fu,gy fu,gy fu,gy fu,gy fu,gy fu,m];rfl
 have an:=fQ al;have a1:=fQ (show c.O.length = [V].length from aI);have bo:(c.op == 35)=gh:=fw;have bp:(c.op == 36)=gh:=fw;have bq:(c.op == 63)=gh:=fw;have br:(c.op == 64)=gh:=fw;have aM:=fQ (show c.op≠276/\c.op≠277/\c.op≠273/\c.op≠274/\c.op≠275/\c.op≠16 by omega);have a6:=fQ (show fV c.op = fI #[fF fN kd,fF fN wd,fH gh,fH fU] by unfold fV;rw[m]);have a7:IntKind.u32.wrap (x:Int)=(y:Int):=(by rw[IntKind.wrap_u32];omega);have a8:IntKind.u64.wrap (y:Int)=(y:Int):=qZ fu;have G:=h.ur;obtain⟨A1,c1,aN⟩:=G.I;rw[z]at aN G;subst aN;obtain⟨ab,u,ba,aO,M,_⟩:=G.cell (k:=0) (x:=x) rfl;subst ba;rw[Ai]at M;obtain⟨ca,cb,cd,rfl,N,bb,bc,bd⟩:=h.K;have hB:=(Av w.heap.size w).alloc (Aj _) (fP #[fF fN c.op,fF fO (c.n:Int),ca,cb,cd] 86);have f:=fQ h;have O:=fQ (gO.a4 w 86 #[fF fN c.op,fF fO (c.n:Int),ca,cb,cd]);have P:=fQ hB;have bf:c.n<18446744073709551616:=N.1;have aP:=fQ A;have H:=fQ B;have bj:=fQ D;have HE:=fQ F;have bk:=fQ M;have aQ:=fQ aO;have aE:=D.1;clear h hB N bb bc bd al aI aH hf aJ z hy aK A B hS J F m aW L D G M aO;go_in;go_wp2_with fail;refine(qY c.op _).mono ?_;rintro e w1 ⟨rfl,Q⟩;have q:=fQ (P.trans (Q.mono P.out.size));have j:=fQ (f.a5.C q.out);have bm:=fQ (KK.jN (x:=X) q.out);have R:=fQ (O.C Q O.lt);obtain⟨S,T,b2,b3,b4⟩:=gZ R.out;have yB:=R.lt;have m1:=j.fWi;have yb:=j.cb.lt;have ym:=j.mm.lt;have d2:w1.cell? ⟨C.cb,2,fS⟩=fT C.b:=j.cell 2;have U:w1.cell? ⟨C.cb,6,fS⟩=fT X.mv:=j.cell 6;have d7:w1.cell? ⟨C.cb,7,fS⟩=fT (fF fN X.x.s.Y):=j.cell 7;have d8:w1.cell? ⟨C.cb,8,fS⟩=fT C.gv:=j.cell 8;clear Q P O;have W:w1.cell? ⟨ab,u,fS⟩=fT (fF fO (x:Int)):=(q.cell (p:=⟨ab,u,fS⟩) aQ.out).trans bk.out;have Y:ab<w1.heap.size:=Ak aQ.out q.out.size;rw[aP.out]at U;rw[a6.out];go_wp2_with fail;refine jY (fun w'=>w'.cell? ⟨C.mm,0,fS⟩=fT (fM (fT ⟨C.cb,0,fS⟩))/\w'.cell? ⟨C.cb,6,fS⟩=fT (fG AM NM cM)/\w'.cell? ⟨w.heap.size,0,fS⟩=fT (fF fN c.op)/\w'.cell? ⟨w.heap.size,1,fS⟩=fT (fF fO (c.n:Int))/\w'.cell? ⟨ab,u,fS⟩=fT (fF fO (x:Int))/\C.mm<w'.heap.size/\C.cb<w'.heap.size/\w.heap.size<w'.heap.size/\ab<w'.heap.size) (fun _=>True) 1000 fx ⟨m1,U,S,T,W,ym,yb,yB,Y⟩ trivial fun d=>?_;refine ig 0 d fun d=>?_;refine ig 1 d fun d=>?_;refine ig 2 d fun d=>?_;refine ig 3 d fun d=>?_;refine ig 4 d fun d=>?_;refine ig 5 d fun d=>?_;refine ig 6 d fun d=>?_;refine ig 7 d fun d=>?_;refine ig 8 d fun d=>?_;refine ig 9 d fun d=>?_;refine ig 10 d fun d=>?_;refine ig 11 d fun d=>?_;refine ig 12 d fun d=>?_;refine ig 13 d fun d=>?_;refine ig 14 d fun d=>?_
 refine ig 15 d fun d=>?_;refine ig 16 d fun d=>?_;refine gX (i:=17) fx rfl fun K hK=>?_;go_simp;refine(eJm AM NM cM y c.n c.op X.x.s.L w1.drew ((H.C q.drew (Aj _)).len.2.1) (H.len.2.2.2.2.2) (H.len.2.2.1) (H.len.2.2.2.2.1.1) fu fu).mono ?_;rintro e w2 ⟨rfl,t⟩;rw[HE.out,<-bj.2];have l:=fQ (j.drew.C t);have aR:=fQ (bm.drew.C t);have v:=fQ (R.drew.C t (show w.heap.size<w1.drew.heap.size from yB));have aS:=fQ (show w2.cell? ⟨ab,u,fS⟩=fT (fF fO (x:Int))/\ab<w2.heap.size from⟨(t.cell (p:=⟨ab,u,fS⟩) (show ab<w1.drew.heap.size from Y)).trans W,Ak (show ab<w1.drew.heap.size from Y) t.size⟩);clear t;refine hK.out _ _ ⟨⟨l.fWi,aP.out ▸ l.cell 6,v.cell 0,v.cell 1,aS.1,l.mm.lt,l.cb.lt,v.lt,aS.2⟩,fun _=>trivial⟩ fun d=>?_;clear hK K
 try simp only[Ay,Aq,Ax,Az]
 refine ig 18 d fun d=>?_;refine ig 19 d fun d=>?_;refine ig 20 d fun d=>?_;refine ig 21 d fun d=>?_;refine ig 22 d fun d=>?_;refine jX fx ?_ _;clear d;clear m1 d2 U d7 d8 S T b2 b3 b4 W;obtain⟨S,T,b2,b3,b4⟩:=gZ v.out;by_cases I:E=0
 ·have aT:=fQ I;have bn:=fQ (show jV c (iw C.p.J f0.r c f0.V) X.x.s=(V,0,X.x.s) by rw[an.out,gz I]);clear I aL;go_wp2_with fail;refine gu (bQx E _) ?_;rw[gy (by rw[aT.out];decide),aT.out];go_wp2_with fail;refine(sJ C X { f0 with k:=f0.k+1 } rest g cS _ c _ [V] _ (l.C ((Av _ _).alloc (Aj _) _)) f.st f.sv f.K (oq _ aE) (fun k Z=>by injection Z with Z;rw[<-Z,gU.a6 l.tojl (Aj _)];omega) f.O (AY a1.symm)).mono ?_;rintro e w9 ⟨rfl,l1,l2⟩;have L1:=fQ l1;have L2:=fQ l2;clear l1 l2;go_wp2;go_ret;exact ot f.st L1.out ((aR.C ((Av _ _).alloc (Aj _) _)).trans L2.out) rfl bn.out aM.out
 ·have aU:E=35:=fu;have aV:=fQ aU;clear I aL aU;go_wp2_with fail;refine gu (bQx E _) ?_;rw[gz aV.out];go_wp2;go_ret;exact tI l.out aR.out rfl (by rw[an.out,gy (by rw[aV.out];decide)]) fy aM.out
theorem eXj(C:iO)(X:iL)(f0:iP)(rest:List iP)(g cS:Nat)(vc:Bx)(c:gP)(va:Bx)(a:List Nat)(w:Bq)(h:ky C X f0 rest g cS vc c va a w)(I:Tabs w)(J:(gQ c.op).isSome=fU):
  Calls fZ 62 #[fM (fT ⟨C.mm,0,fS⟩),fM (fT ⟨g,rest.length*3,fS⟩),vc,va] w (iI C X f0 rest c w):=by
 have an:=hY h.ok;obtain⟨i,o,hf,aJ,aK,_⟩:=an;have aT:69<=c.op/\c.op<=300/\c.op<256:=(by obtain⟨⟨a1,L,c1,d1⟩,hg⟩:=Option.isSome_iff_exists.1 J;have:=(pq hg).2.2;omega);have q:acc c.op=none:=(by cases q:acc c.op with|none=>rfl|some r=>(obtain⟨k1,w1,s1,g1⟩:=r;have:=(mK q).2.2;omega))
 obtain⟨M,e2⟩:i=gJ c.op/\o = [mX c.op]:=by
  have l:=hf;unfold iV at l;rw[if_neg (by omega),if_neg (by omega),if_neg (by omega),if_neg (by omega),if_neg (by omega),if_neg fu,gy fu,gy fu,gy fu,gz J]at l
  split at l
  ·injection l with l;injection l with M e2;exact⟨M.symm,e2.symm⟩
  ·cases l
 subst M;subst e2;have aL:jL C.p.J f0.r.a2 c=gJ c.op:=(by unfold jL;rw[hf];rfl);have aM:a.length=(gJ c.op).length:=(by rw[h.args];unfold jd;rw[AQ];exact aJ);have aN:iw C.p.J f0.r c f0.V=ie (gJ c.op) a:=(by unfold iw;rw[aL,<-h.args]);have N:ij (ie (gJ c.op) a):=pZ _ _ h.ur.all;have A:=re (bQa c.op N);obtain⟨E,O⟩:=fX ((oV c.op (ie (gJ c.op) a)).2);obtain⟨V,P⟩:=fX ((oV c.op (ie (gJ c.op) a)).1.toNat);rw[P]at A
 have ao:jV c (iw C.p.J f0.r c f0.V) X.x.s=(V,E,X.x.s):=by
  rw[aN,<-O,<-P];unfold jV;rw[gy fu,gy fu,gy fu,gy fu,gy fu,gy fu,gy fu,q];dsimp only;rw[gy fu,gy fu]
 have aq:=fQ ao;have aU:=fQ (show c.O.length = [V].length from aK);have bp:(c.op == 35)=gh:=fw;have bq:(c.op == 36)=gh:=fw;have br:(c.op == 63)=gh:=fw;have bs:(c.op == 64)=gh:=fw;have aO:=fQ (show c.op≠276/\c.op≠277/\c.op≠273/\c.op≠274/\c.op≠275/\c.op≠16 by omega);have aV:=fQ (show fV c.op = fI #[fF fN 0,fF fN 0,fH gh,fH gh] by unfold fV;rw[q]);obtain⟨ca,cb,cd,rfl,Q,aW,aX,aY⟩:=h.K;have hB:=(Av w.heap.size w).alloc (Aj _) (fP #[fF fN c.op,fF fO (c.n:Int),ca,cb,cd] 86);have f:=fQ h;have R:=fQ (gO.a4 w 86 #[fF fN c.op,fF fO (c.n:Int),ca,cb,cd]);have S:=fQ hB;have B : -9223372036854775808<=c.op/\c.op<=9223372036854775807:=Q.2;have HT:=fQ I;have a7:=fQ N;have a8:=fQ aM;have ba:=fQ A;have HE:=fQ O;have aD:=A.1;clear h hB Q aW aX aY ao aK aJ hf aL aN O q P A aM N I J;go_in;go_wp2_with fail;refine(qY c.op _).mono ?_;rintro e w1 ⟨rfl,T⟩;have t:=fQ (S.trans (T.mono S.out.size));have j:=fQ (f.a5.C t.out);have bb:=fQ (KK.jN (x:=X) t.out);have D:=fQ (R.C T R.lt);have bc:=fQ (f.ur.C t.out (Aj _));obtain⟨u,L,b2,b3,b4⟩:=gZ D.out;have yB:=D.lt;have m1:=j.fWi;have d2:w1.cell? ⟨C.cb,2,fS⟩=fT C.b:=j.cell 2;have d6:w1.cell? ⟨C.cb,6,fS⟩=fT X.mv:=j.cell 6;have d7:w1.cell? ⟨C.cb,7,fS⟩=fT (fF fN X.x.s.Y):=j.cell 7;have d8:w1.cell? ⟨C.cb,8,fS⟩=fT C.gv:=j.cell 8;clear T S R;rw[aV.out];go_wp2_with fail;refine(qC c.op _ B.1 B.2).mono ?_;rintro e w2 ⟨As,cs,rfl,aP,m⟩;obtain⟨NS,aQ⟩:=fX ((gJ c.op).length);have U:IR w2 (fG As (gJ c.op).length cs) (gJ c.op):=⟨As,cs,rfl,Src.mf aP⟩;rw[aQ]at U ⊢;have bd:=fQ U;have aR:=fQ (t.trans (m.mono t.out.size));have be:=fQ (j.C m);have bf:=fQ (bb.C m);have W:=fQ (D.C m D.lt);have bg:=fQ (bc.C m (Aj _));clear aP m U aQ m1 d2 d6 d7 d8 u L b2 b3 b4;have u:w2.cell? ⟨w.heap.size,0,fS⟩=fT (fF fN c.op):=W.cell 0;have Y:=W.lt;go_wp2_with fail;refine jY (fun w'=>w'.cell? ⟨w.heap.size,0,fS⟩=fT (fF fN c.op)/\w.heap.size<w'.heap.size) (fun _=>True) 1000 fx ⟨u,Y⟩ trivial fun d=>?_;refine ig 0 d fun d=>?_;refine ig 1 d fun d=>?_;refine ig 2 d fun d=>?_;refine ig 3 d fun d=>?_;refine gX (i:=4) fx rfl fun K v=>?_;go_simp;refine(pH _ _ (gJ c.op) a _ (show IR w2.drew _ _ from bd.out) (show UR w2.drew va a from bg.out) a8.symm).mono ?_;rintro e w3 ⟨v3,rfl,Z,y⟩;obtain⟨A3,c3,rfl,bw⟩:=fJ Z;have bj:=fQ (be.drew.C y);have bk:=fQ (bf.drew.C y);have bm:=fQ (aR.drew.trans (y.mono (show w.heap.size<=w2.drew.heap.size from aR.out.size)));have F:=fQ (W.drew.C y (show w.heap.size<w2.drew.heap.size from Y));have bn:=fQ (Src.mf Z);clear Z y
 refine v.out _ _ ⟨⟨F.cell 0,F.lt⟩,fun _=>trivial⟩ fun d=>?_;clear v K
 try simp only[Ay,Aq,Ax,Az]
 refine gX (i:=5) fx rfl fun K v=>?_;go_simp;refine(eJv c.op A3 a.length c3 (ie (gJ c.op) a) w3 B.1 B.2 bn.out a7.out (HT.C bm.out HT.2.2)).mono ?_;rintro e w4 ⟨rfl,G⟩;rw[HE.out,<-ba.2];have aI:=fQ (bj.C G);have aS:=fQ (bk.C G);have H:=fQ (F.C G F.lt);clear G;refine v.out _ _ ⟨⟨H.cell 0,H.lt⟩,fun _=>trivial⟩ fun d=>?_;clear v K
 try simp only[Ay,Aq,Ax,Az]
 refine ig 6 d fun d=>?_;refine ig 7 d fun d=>?_;refine ig 8 d fun d=>?_;refine ig 9 d fun d=>?_;refine ig 10 d fun d=>?_;refine jX fx ?_ _;clear d;clear u Y yB;obtain⟨u,L,b2,b3,b4⟩:=gZ H.out;by_cases z:E=0
 ·have t0:(E == 0)=fU:=(by simp[z]);subst z;clear t0;go_wp2_with fail;refine(sJ C X { f0 with k:=f0.k+1 } rest g cS _ c _ [V] _ (aI.C ((Av _ _).alloc (Aj _) _)) f.st f.sv f.K (oq _ aD) (fun k hk=>by injection hk with hk;rw[<-hk,gU.a6 aI.tojl (Aj _)];omega) f.O (AY aU.symm)).mono ?_;rintro e w9 ⟨rfl,l1,l2⟩;have L1:=fQ l1;have L2:=fQ l2;clear l1 l2;go_wp2;go_ret;exact ot f.st L1.out ((aS.C ((Av _ _).alloc (Aj _) _)).trans L2.out) rfl aq.out aO.out
 ·have t0:(E == 0)=gh:=(by simp[z]);have bo:=fQ z;clear z;go_wp2;go_ret;exact tI aI.out aS.out rfl aq.out bo.out aO.out
end Go.Proofs.YtabibkpfgmolkaaGreatDoor

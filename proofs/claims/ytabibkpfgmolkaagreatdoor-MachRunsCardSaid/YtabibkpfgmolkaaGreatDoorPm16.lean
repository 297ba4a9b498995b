/- Lemmas for the claim, part 16. Conditions: none. -/
import Derived.Test.YtabibkpfgmolkaaGreatDoorPm15
set_option maxRecDepth 100000
set_option maxHeartbeats 16000000
set_option linter.unusedVariables false
set_option linter.unusedSimpArgs false
open Go.Lib renaming hid→fQ
open Go.Proofs.Tryz renaming prog→fZ
open Go.Proofs.Tryz
open Go.RowKit
open List renaming setIfInBounds_toArray→Aj,set_cons_zero→Ax,set_cons_succ→Az,getElem?_append_right→Ay,getElem?_append_left→AJ,length_reverse→AQ,getElem?_eq_getElem→AX,take_of_length_le→AV,reverse_cons→Aa,not_mem_nil→Ab,mem_cons→Ae
open Nat renaming le_refl→Ak,add_sub_cancel_left→AZ,le_trans→AK,lt_of_lt_of_le→AW,lt_or_ge→AY,zero_le→Ac,le_antisymm→Ad,sub_self→Af
open Go.Act renaming put→Av
open Go.RowKit.Below renaming refl→Aw
open Go renaming World→Ag,Value→Ah,Calls→Bj
open Go.RowKit renaming Below→Ai
namespace Go.Proofs.YtabibkpfgmolkaaGreatDoor
def aXo(g:Nat):Ah:=.slice (some ⟨g,0,none⟩) 0 0
theorem aXy{g k:Nat}(h:(aXo g).ownBlock=some k):k=g:=by
 injection h with h;exact h.symm
def KaC.first(C:KaC)(fv:Ah)(nb ab:Nat)(av:Ah):KaC:=⟨C.w0,C.a,C.b,C.d,C.f,C.p,C.mm,C.cb,C.gv,fv,nb,ab,av,C.zf,C.of_⟩
theorem cQw{C:KaC}{X:KaS}{c:Ag}(h:KRef C X c)(hn:X.x.first=none)(nb ab k:Nat)(av:Ah)(d:List Nat)(fv:Ah)(r:∃ f ca,fv = .func f #[] ca)(g:Blk c nb 3 #[.int .i64 (k:Int)])(i:Blk c ab 30 #[av])(s:UR c av d)(m:nb≠ab)
  (n:X.lab nb=0/\C.w0.heap.size<=nb) (o:X.lab ab=0/\C.w0.heap.size<=ab) (lv:∀ j,av.ownBlock=some j->X.lab j=0/\C.w0.heap.size<=j/\j<c.heap.size) (p:av.ownBlock≠some nb) (va:av.ownBlock≠some ab) :
  KRef (KaC.first C fv nb ab av) { X with lab:=mK (mK (mK X.lab (aXo nb) 9) (aXo ab) 9) av 9,x:={ X.x with first:=some (k,d) } } (c.setCell ⟨C.cb,17,none⟩ fv):=by
 have h1:=KRef.fQc h (aXo nb) 9 (fun j b=>by rw[aXy b];exact⟨n.1,n.2,g.lt⟩)
 have h2:=KRef.fQc h1 (aXo ab) 9 (fun j b=>by
  rw[aXy b];refine⟨?_,o.2,i.lt⟩;show mK X.lab (aXo nb) 9 ab=0;rw[tQ (fun e=>m (aXy e).symm)]
  exact o.1)
 have a:=KRef.fQc h2 av 9 (fun j b=>by
  refine⟨?_,(lv j b).2⟩;show mK (mK X.lab (aXo nb) 9) (aXo ab) 9 j=0;rw[tQ (fun e=>va (by rw[b,aXy e])),tQ (fun e=>p (by rw[b,aXy e]))]
  exact(lv j b).1)
 have t:mK (mK (mK X.lab (aXo nb) 9) (aXo ab) 9) av 9 nb=9:=by
  rw[tQ p,tQ (fun e=>m (aXy e)),xV rfl]
 have u:mK (mK (mK X.lab (aXo nb) 9) (aXo ab) 9) av 9 ab=9:=by
  rw[tQ va,xV rfl]
 have w:KRest (KaC.first C fv nb ab av) { X with lab:=mK (mK (mK X.lab (aXo nb) 9) (aXo ab) 9) av 9,x:={ X.x with first:=some (k,d) } } c:=
  { bel:=a.bel,lb:=a.lb,cl:=a.cl,mm:=a.mm,ml:=a.ml,glo:=a.glo,l3:=a.l3,log:=a.log,l4:=a.l4,inp:=a.inp,l5:=a.l5,mem:=a.mem,l6:=a.l6,stk:=by have hs:stCells (KaC.first C fv nb ab av) X.x.st X.ps=stCells C X.x.st X.ps:=by { generalize X.x.st=L;generalize X.ps=P;induction L generalizing P with | nil=>cases P <;> rfl | cons f l y=>cases P with | nil=>rfl | cons v vs=>simp only[stCells,y vs];rfl };have q:=a.stk;rw[<-hs]at q;exact q,l7:=a.l7,out:=a.out,l8:=a.l8,fst:=⟨r,g,i,s,t,u,fun j b=>xV b⟩,pls:=a.pls }
 exact KRest.fQn w a.cb 17 fv rfl
@[go_sem] theorem run_store_func {P:Program} (w:Ag) (a:Addr) (m:Mode) (fn:Fn) (fi b:Array Ah):(store a (.func fn fi b) m).run P w=stored P w a (.func fn fi b) m:=run_store P w a _ m rfl
theorem dKy(vp vs va:Ah)(p:RowsD)(s:RawS)(n:Int)(l:List Nat)(w:Ag)(hp:RowsV w vp p)(hs:StV w vs s)(ha:UR w va l)(ay:FitP p.env s)(br:ProgP p)(sd:StD)(aP:s=RawS.of sd)(k:Nat)(g:SigD)(hn:n=(k:Int))(hg:p.env.sigs[k]? = some g)(bs:GivP g.inn l)(bt:(k:Int)<p.env.imports):Bj fZ 7 #[vp,vs,.int .i64 n,va] w (aWl p sd k l w):=by
 have bu:=hp;have bw:=hs;have bx:=ha;obtain⟨a,b,d,f,rfl,r1,r2,r3,r4⟩:=hp;obtain⟨a1,g1,i1,l1,rfl,ba,bz,bc,bA⟩:=hs;obtain⟨Y,Z,rfl⟩:=ba.shape;obtain⟨A2,z2,rfl⟩:=bz.shape;obtain⟨A3,z3,rfl⟩:=bc.shape;obtain⟨A4,z4,rfl⟩:=bA.shape;obtain⟨S,y,rfl,_,bO,_⟩:=r1.len;obtain⟨C,D,rfl⟩:=r2.shape;obtain⟨z,v,rfl,_⟩:=r4.len;obtain⟨A9,z9,rfl⟩:=ha.shape;have he:EnvV w (.agg #[.slice S p.env.sigs.length y,.int .i64 p.env.imports,.slice C p.env.globals.length D,d,.bool p.env.mem]) p.env:=⟨_,_,_,rfl,r1,r2,r3⟩;have HE:=fQ he;have HP:=fQ bu;have HS:=fQ bw;have HA:=fQ bx;have bP:=fQ r1;have bQ:=fQ bc.all;have bT:=fQ ba.len.2.2.2.2.2;have bU:=fQ r4;have az:=fQ (((((Aw w.heap.size w).alloc (Ak _) (.cells #[.slice S p.env.sigs.length y,.int .i64 p.env.imports,.slice C p.env.globals.length D,d,.bool p.env.mem,.slice z p.fns.length v] 29)).alloc (by first | (simp;done) | (simp;omega)) (.cells #[.slice Y s.mem.length Z,.int .i64 s.most,.slice A2 s.globals.length z2,.int .i64 s.fuel,.slice A3 s.input.length z3,.slice A4 s.log.length z4] 33)).alloc (by first | (simp;done) | (simp;omega)) (.cells #[.int .i64 n] 3)).alloc (by first | (simp;done) | (simp;omega)) (.cells #[.slice A9 l.length z9] 30));have ak:=fQ ((((Blk.new w 29 #[.slice S p.env.sigs.length y,.int .i64 p.env.imports,.slice C p.env.globals.length D,d,.bool p.env.mem,.slice z p.fns.length v]).alloc (.cells #[.slice Y s.mem.length Z,.int .i64 s.most,.slice A2 s.globals.length z2,.int .i64 s.fuel,.slice A3 s.input.length z3,.slice A4 s.log.length z4] 33)).alloc (.cells #[.int .i64 n] 3)).alloc (.cells #[.slice A9 l.length z9] 30));have al:=fQ (((Blk.newAt (w.alloc (.cells #[.slice S p.env.sigs.length y,.int .i64 p.env.imports,.slice C p.env.globals.length D,d,.bool p.env.mem,.slice z p.fns.length v] 29)) (N:=w.heap.size+1) 33 #[.slice Y s.mem.length Z,.int .i64 s.most,.slice A2 s.globals.length z2,.int .i64 s.fuel,.slice A3 s.input.length z3,.slice A4 s.log.length z4] (by simp)).alloc (.cells #[.int .i64 n] 3)).alloc (.cells #[.slice A9 l.length z9] 30));have an:=fQ ((Blk.newAt ((w.alloc (.cells #[.slice S p.env.sigs.length y,.int .i64 p.env.imports,.slice C p.env.globals.length D,d,.bool p.env.mem,.slice z p.fns.length v] 29)).alloc (.cells #[.slice Y s.mem.length Z,.int .i64 s.most,.slice A2 s.globals.length z2,.int .i64 s.fuel,.slice A3 s.input.length z3,.slice A4 s.log.length z4] 33)) (N:=w.heap.size+2) 3 #[.int .i64 n] (by simp)).alloc (.cells #[.slice A9 l.length z9] 30));have ao:=fQ (Blk.newAt (((w.alloc (.cells #[.slice S p.env.sigs.length y,.int .i64 p.env.imports,.slice C p.env.globals.length D,d,.bool p.env.mem,.slice z p.fns.length v] 29)).alloc (.cells #[.slice Y s.mem.length Z,.int .i64 s.most,.slice A2 s.globals.length z2,.int .i64 s.fuel,.slice A3 s.input.length z3,.slice A4 s.log.length z4] 33)).alloc (.cells #[.int .i64 n] 3)) (N:=w.heap.size+3) 30 #[.slice A9 l.length z9] (by simp));have af:=fQ ay;have bd:=fQ br;have bB:=fQ hn;have bC:=fQ aP;have bD:=fQ bt;clear he bu bw bx ha r1 r2 r3 r4 ba bz bc bA ay br hn aP bt
 go_in;go_upto_region 1 with fail;obtain⟨w4,bE⟩:=fX ((((w.alloc (.cells #[.slice S p.env.sigs.length y,.int .i64 p.env.imports,.slice C p.env.globals.length D,d,.bool p.env.mem,.slice z p.fns.length v] 29)).alloc (.cells #[.slice Y s.mem.length Z,.int .i64 s.most,.slice A2 s.globals.length z2,.int .i64 s.fuel,.slice A3 s.input.length z3,.slice A4 s.log.length z4] 33)).alloc (.cells #[.int .i64 n] 3)).alloc (.cells #[.slice A9 l.length z9] 30));rw[bE]at az ak al an ao ⊢;clear bE;obtain⟨p0,p1,p2,p3,p4,p5⟩:=rX ak.out;obtain⟨s0,s1,s2,s3,s4,s5⟩:=iZ al.out;have G:=an.out.cell 0;have H:=ao.out.cell 0;have I:=ak.out.lt;have yS:=al.out.lt;have J:=an.out.lt;have M:=ao.out.lt;go_wp2_with fail;refine(bXr _ _ p.env s _ (HE.out.below az.out (Ak _)) (HS.out.below az.out (Ak _))).mono ?_;rintro en w5 ⟨bb,rfl,bF,aq⟩;obtain rfl:bb=true:=bF.2 af.out;have be:=fQ (az.out.trans (aq.mono az.out.size));have aA:=fQ (ak.out.below aq ak.out.lt);have aB:=fQ (al.out.below aq al.out.lt);have aC:=fQ (an.out.below aq an.out.lt);have aD:=fQ (ao.out.below aq ao.out.lt);clear aq p0 p1 p2 p3 p4 p5 s0 s1 s2 s3 s4 s5 G H I yS J M ak al an ao;clear bF;obtain⟨p0,p1,p2,p3,p4,p5⟩:=rX aA.out;obtain⟨s0,s1,s2,s3,s4,s5⟩:=iZ aB.out;have G:=aC.out.cell 0;have H:=aD.out.cell 0;have I:=aA.out.lt;have yS:=aB.out.lt;have J:=aC.out.lt;have M:=aD.out.lt;go_wp2_with fail;refine(aZz p _ _ (HP.out.below be.out (Ak _))).mono ?_;rintro en w6 ⟨b2,rfl,aE,ar⟩;obtain rfl:b2=true:=aE.2 bd.out;have aF:=fQ (be.out.trans (ar.mono be.out.size));have au:=fQ (aA.out.below ar aA.out.lt);have aG:=fQ (aB.out.below ar aB.out.lt);have aH:=fQ (aC.out.below ar aC.out.lt);have aI:=fQ (aD.out.below ar aD.out.lt);clear ar p0 p1 p2 p3 p4 p5 s0 s1 s2 s3 s4 s5 G H I yS J M aA aB aC aD;clear aE;obtain⟨p0,p1,p2,p3,p4,p5⟩:=rX au.out;obtain⟨s0,s1,s2,s3,s4,s5⟩:=iZ aG.out;have G:=aH.out.cell 0;have H:=aI.out.cell 0;have I:=au.out.lt;have yS:=aG.out.lt;have J:=aH.out.lt;have M:=aI.out.lt;have hn:=bB.out;clear bB;subst hn;have bG:=fQ (bP.out.below aF.out (Ak _) (fun r x q=>q.below aF.out (Ak _)));obtain⟨L,hL⟩:=fX p.env.sigs.length;have bV:=fQ hL;have ca:k<L:=(by rw[<-hL];exact(List.getElem?_eq_some_iff.1 hg).1);rw[hL]at p0 bG au;clear hL;have u1:decide ((k:Int)<0)=false:=(by first | (simp;done) | (simp;omega));have u2:decide ((L:Int)<=(k:Int))=false:=(by first | (simp;done) | (simp;omega));have c3:(k:Int)<(L:Int):=(by omega);obtain⟨sb,so,sp,sq,e1,x0,x1,x2,x3,x4⟩:=(show Structs 2 SigC w6 (.slice S L y) p.env.sigs from bG.out).sig hg;subst e1;obtain⟨Aq,zq,rfl⟩:=x3.shape;have bW:=(wQ bd.out.env hg).1;have bH:=fQ (show IR w6 (.slice Aq g.inn.length zq) g.inn from x3.ir);have bI:=fQ (HA.out.below aF.out (Ak _));have bJ:=fQ bs;have HG:=fQ hg;clear bs hg x4 x3;go_wp2_with fail;go_quiet ((go_at_call 24;exact Calls.quiet_of_same ((aYn (.slice Aq g.inn.length zq) (.slice A9 l.length z9) g.inn l _ (bH.out.below (fV (Aw _ _) _) (Ak _)) (bI.out.below (fV (Aw _ _) _) (Ak _)) (by omega)).mono fun _ _ ⟨bb,h1,h2,h3⟩=>⟨h1.trans (by rw[show bb=true from h2.2 bJ.out]),h3.symm⟩)))
 go_upto_region 5 with fail;obtain⟨w7,bf⟩:=fX (w6.drewN nq);have aw:Ai w6.heap.size w6 w7.drew:=(by rw[<-bf];exact(fV (Aw _ _) nq).drew);have T:=fQ (aF.out.trans (aw.mono aF.out.size));have aQ:=fQ (au.out.below aw au.out.lt);have aR:=fQ (aG.out.below aw aG.out.lt);have bg:=fQ (aH.out.below aw aH.out.lt);have bh:=fQ (aI.out.below aw aI.out.lt);clear aw p0 p1 p2 p3 p4 p5 s0 s1 s2 s3 s4 s5 G H I yS J M au aG aH aI;rw[bf];clear bf bH bI;obtain⟨p0,p1,p2,p3,p4,p5⟩:=rX aQ.out;obtain⟨s0,s1,s2,s3,s4,s5⟩:=iZ aR.out;refine mQ (fun w'=>w'.cell? ⟨w.heap.size,0,none⟩=some (.slice (some ⟨sb,so,none⟩) L y)/\w'.cell? ⟨w.heap.size,1,none⟩=some (.int .i64 p.env.imports)/\w'.cell? ⟨w.heap.size,2,none⟩=some (.slice C p.env.globals.length D)/\w'.cell? ⟨w.heap.size,3,none⟩=some (d)/\w'.cell? ⟨w.heap.size,4,none⟩=some (.bool p.env.mem)/\w'.cell? ⟨w.heap.size,5,none⟩=some (.slice z p.fns.length v)/\w'.cell? ⟨w.heap.size+1,0,none⟩=some (.slice Y s.mem.length Z)/\w'.cell? ⟨w.heap.size+1,1,none⟩=some (.int .i64 s.most)/\w'.cell? ⟨w.heap.size+1,2,none⟩=some (.slice A2 s.globals.length z2)/\w'.cell? ⟨w.heap.size+1,3,none⟩=some (.int .i64 s.fuel)/\w'.cell? ⟨w.heap.size+1,4,none⟩=some (.slice A3 s.input.length z3)/\w'.cell? ⟨w.heap.size+1,5,none⟩=some (.slice A4 s.log.length z4)) (fun _=>True) 6 (by kernel_rfl) ⟨p0,p1,p2,p3,p4,p5,s0,s1,s2,s3,s4,s5⟩ trivial (fun B=>?_);clear p0 p1 p2 p3 p4 p5 s0 s1 s2 s3 s4 s5;refine wtk 0 B (fun B=>?_);refine wtk 1 B (fun B=>?_);refine gY (i:=2) (by kernel_rfl) rfl (fun K U=>?_);go_simp;refine(aYm _ s _ (HS.out.below T.out (Ak _))).mono ?_;rintro en m ⟨va1,cc,cd,cf,rfl,o1,o2,o3,o4,b8,j1,j2⟩;obtain⟨B1,d1,rfl,_⟩:=fJ o1;obtain⟨B2,d2,rfl,_⟩:=fJ o2;obtain⟨B3,d3,rfl,_⟩:=fJ o3;obtain⟨B4,d4,rfl,_⟩:=fJ o4;have O1:=fQ (jQ o1 T.out.size);have O2:=fQ (jQ o2 T.out.size);have O3:=fQ (jQ o3 T.out.size);have O4:=fQ (jQ o4 T.out.size);have J1:=fQ j1;have J2:=fQ j2;have bj:=fQ (T.out.trans (b8.mono T.out.size));have aS:=fQ (aQ.out.below b8 aQ.out.lt);have aT:=fQ (aR.out.below b8 aR.out.lt);have bk:=fQ (bg.out.below b8 bg.out.lt);have aU:=fQ (bh.out.below b8 bh.out.lt);obtain⟨p0,p1,p2,p3,p4,p5⟩:=rX aS.out;obtain⟨s0,s1,s2,s3,s4,s5⟩:=iZ aT.out;refine U.out _ _ ⟨⟨p0,p1,p2,p3,p4,p5,s0,s1,s2,s3,s4,s5⟩,fun _=>trivial⟩ (fun B=>?_);clear U K o1 o2 o3 o4 b8 j1 j2 p0 p1 p2 p3 p4 p5 s0 s1 s2 s3 s4 s5 T aQ aR bg bh
 try simp only[Av,Aj,Ax,Az]
 refine wtk 3 B (fun B=>?_);refine gY (i:=4) (by kernel_rfl) rfl (fun K U=>?_);go_simp;have c:=(Aw m.heap.size m).alloc (Ak _) (.cells #[.slice (some ⟨sb,so,none⟩) L y,.int .i64 p.env.imports,.slice C p.env.globals.length D,d,.bool p.env.mem,.slice z p.fns.length v,.slice B1 s.mem.length d1,.int .i64 s.most,.slice B2 s.globals.length d2,.int .i64 s.fuel,.slice B3 s.input.length d3,.slice B4 s.log.length d4,.slice none 0 0,.slice none 0 0,.int .i64 0,.int .i64 0,.bool false,.nilFunc] 68);have aJ:=fQ (aS.out.below c aS.out.lt);have aK:=fQ (aT.out.below c aT.out.lt);have aV:=fQ (bk.out.below c bk.out.lt);have aW:=fQ (aU.out.below c aU.out.lt);have aX:=fQ (Blk.new m 68 #[.slice (some ⟨sb,so,none⟩) L y,.int .i64 p.env.imports,.slice C p.env.globals.length D,d,.bool p.env.mem,.slice z p.fns.length v,.slice B1 s.mem.length d1,.int .i64 s.most,.slice B2 s.globals.length d2,.int .i64 s.fuel,.slice B3 s.input.length d3,.slice B4 s.log.length d4,.slice none 0 0,.slice none 0 0,.int .i64 0,.int .i64 0,.bool false,.nilFunc]);have R1:=fQ (iW O1.out c (Ak _));have R2:=fQ (iW O2.out c (Ak _));have R3:=fQ (iW O3.out c (Ak _));have R4:=fQ (iW O4.out c (Ak _));have aY:=fQ (bj.out.trans (c.mono bj.out.size));obtain⟨w9,bm⟩:=fX (m.alloc (.cells #[.slice (some ⟨sb,so,none⟩) L y,.int .i64 p.env.imports,.slice C p.env.globals.length D,d,.bool p.env.mem,.slice z p.fns.length v,.slice B1 s.mem.length d1,.int .i64 s.most,.slice B2 s.globals.length d2,.int .i64 s.fuel,.slice B3 s.input.length d3,.slice B4 s.log.length d4,.slice none 0 0,.slice none 0 0,.int .i64 0,.int .i64 0,.bool false,.nilFunc] 68));have bX:w9.heap.size=m.heap.size+1:=(by rw[<-bm];simp);rw[bm]at aJ aK aV aW aX R1 R2 R3 R4 aY ⊢;clear bm c;obtain⟨p0,p1,p2,p3,p4,p5⟩:=rX aJ.out;obtain⟨s0,s1,s2,s3,s4,s5⟩:=iZ aK.out;refine U.out _ _ ⟨⟨p0,p1,p2,p3,p4,p5,s0,s1,s2,s3,s4,s5⟩,fun _=>trivial⟩ (fun B=>?_);have zA:=aU.out.lt;clear U K p0 p1 p2 p3 p4 p5 s0 s1 s2 s3 s4 s5 bj aS aT bk aU
 try simp only[Av,Aj,Ax,Az]
 refine wtk 5 B (fun B=>?_);refine gY (i:=6) (by kernel_rfl) rfl (fun K U=>?_);go_simp;have c:=(Aw w9.heap.size w9).alloc (Ak _) (.cells #[.pointer (some ⟨m.heap.size,0,none⟩)] 70);have aL:=fQ (aJ.out.below c aJ.out.lt);have bL:=fQ (aK.out.below c aK.out.lt);have aM:=fQ (aV.out.below c aV.out.lt);have ax:=fQ (aW.out.below c aW.out.lt);have aj:=fQ (aX.out.below c aX.out.lt);have bn:=fQ (Blk.new w9 70 #[.pointer (some ⟨m.heap.size,0,none⟩)]);have T1:=fQ (iW R1.out c (Ak _));have T2:=fQ (iW R2.out c (Ak _));have T3:=fQ (iW R3.out c (Ak _));have T4:=fQ (iW R4.out c (Ak _));have aZ:=fQ (aY.out.trans (c.mono aY.out.size));obtain⟨wx,bo⟩:=fX (w9.alloc (.cells #[.pointer (some ⟨m.heap.size,0,none⟩)] 70));have ch:wx.heap.size=w9.heap.size+1:=(by rw[<-bo];simp);rw[bo]at aL bL aM ax aj bn T1 T2 T3 T4 aZ ⊢;clear bo c;obtain⟨p0,p1,p2,p3,p4,p5⟩:=rX aL.out;obtain⟨s0,s1,s2,s3,s4,s5⟩:=iZ bL.out;refine U.out _ _ ⟨⟨p0,p1,p2,p3,p4,p5,s0,s1,s2,s3,s4,s5⟩,fun _=>trivial⟩ (fun B=>?_);clear U K s0 s1 s2 s3 s4 s5 aY aJ aK aV aW aX R1 R2 R3 R4
 try simp only[Av,Aj,Ax,Az]
 refine wtk 7 B (fun B=>?_);refine kW (by kernel_rfl) ?_ _;clear B;have G:=aM.out.cell 0;have H:=ax.out.cell 0;have f0:=frz ax.out 0;have I:=aL.out.lt;have J:=aM.out.lt;have M:=ax.out.lt;go_wp2_with fail;refine(wY _ l _ (HA.out.below aZ.out (Ak _))).mono ?_;rintro en bY ⟨vr,rfl,o5,F⟩;obtain⟨P,Q,rfl,_⟩:=fJ o5;have a6:=fQ (aL.out.below F aL.out.lt);have a7:=fQ (aM.out.below F aM.out.lt);have O:=fQ (ax.out.below F ax.out.lt);have aN:=fQ (aj.out.below F aj.out.lt);have aO:=fQ (bn.out.below F bn.out.lt);have U1:=fQ (iW T1.out F (Ak _));have U2:=fQ (iW T2.out F (Ak _));have U3:=fQ (iW T3.out F (Ak _));have U4:=fQ (iW T4.out F (Ak _));have O5:=fQ o5;have bZ:=fQ (aZ.out.trans (F.mono aZ.out.size));have zx:=F.size;clear o5 F G H f0 I J M p0 p1 p2 p3 p4 p5;obtain⟨p0,p1,p2,p3,p4,p5⟩:=rX a6.out;have G:=a7.out.cell 0;have H:=O.out.cell 0;have f0:=frz O.out 0;have I:=a6.out.lt;have J:=a7.out.lt;have M:=O.out.lt;go_upto_region 7 with fail;obtain⟨V,E⟩:=fX (bY.setCell ⟨w.heap.size+1+1+1,0,none⟩ (.slice P l.length Q));have a8:=fQ (show Blk V m.heap.size 68 _ by rw[<-E];exact aN.out.setCell (p:=⟨w.heap.size+3,0,none⟩) _ (show m.heap.size≠w.heap.size+3 by omega));have bp:=fQ (show Blk V (m.heap.size+1) 70 _ by rw[<-E,<-bX];exact aO.out.setCell (p:=⟨w.heap.size+3,0,none⟩) _ (show w9.heap.size≠w.heap.size+3 by omega));have V1:=fQ (E ▸ mX (i:=0) (u:=.slice P l.length Q) U1.out O.out (by decide));have V2:=fQ (E ▸ mX (i:=0) (u:=.slice P l.length Q) U2.out O.out (by decide));have V3:=fQ (E ▸ mX (i:=0) (u:=.slice P l.length Q) U3.out O.out (by decide));have V4:=fQ (E ▸ mX (i:=0) (u:=.slice P l.length Q) U4.out O.out (by decide));have V5:=fQ (E ▸ mX (i:=0) (u:=.slice P l.length Q) O5.out O.out (by decide));have b0:=fQ (show Ai w.heap.size w V by rw[<-E];exact bZ.out.setCell (p:=⟨w.heap.size+3,0,none⟩) (show w.heap.size<=w.heap.size+3 by omega) _);have W:=fQ (show Blk V (w.heap.size+2) 3 _ by rw[<-E];exact a7.out.setCell (p:=⟨w.heap.size+3,0,none⟩) _ (show w.heap.size+2≠w.heap.size+3 by omega));have bM:=fQ (show Blk V w.heap.size 29 _ by rw[<-E];exact a6.out.setCell (p:=⟨w.heap.size+3,0,none⟩) _ (show w.heap.size≠w.heap.size+3 by omega));have X:=fQ (show Blk V (w.heap.size+3) 30 #[.slice P l.length Q] by rw[<-E];exact gZ O.out 0 _);rw[E];clear E G H f0 I J M p0 p1 p2 p3 p4 p5 a6 a7 O aN aO U1 U2 U3 U4 O5;obtain⟨p0,p1,p2,p3,p4,p5⟩:=rX bM.out;have G:=W.out.cell 0;have H:=X.out.cell 0;have I:=bM.out.lt;have J:=W.out.lt;have M:=X.out.lt;have u7:decide ((k:Int)<p.env.imports)=true:=(by have:=bD.out;simp;omega)
 obtain⟨zf,of_,hz⟩:∃ zf of_,p.fns ≠ []->z=some ⟨zf,of_,none⟩:=by
  cases hf:p.fns with
  | nil=>exact⟨0,0,fun h=>absurd rfl h⟩
  | cons q t=>
   obtain⟨b,o,_,_,_,_,e,_⟩:=(show Structs 5 RowC w (.slice z p.fns.length v) p.fns from bU.out).row (k:=0) (x:=q) (by rw[hf];rfl);exact⟨b,o,fun _=>e⟩
 have HZ:=fQ hz;clear hz;have aP:=bC.out;clear bC;subst aP;have b1:=fQ (bKc (p:=p) (s:=sd) (a:=.slice (some ⟨sb,so,none⟩) L y) (b:=.slice C p.env.globals.length D) (d:=d) (f:=.slice z p.fns.length v) (zf:=zf) (of_:=of_) b0.out a8.out bp.out (by omega) (Nat.le_of_lt (by omega)) V2.out V4.out V3.out V1.out (xK V3.out bQ.out (AK af.out.2.il (by decide))) (aYl V1.out bT.out (by have h1:=af.out.2.le;have h2:=af.out.2.mx;show sd.mem.length<=_;have h3:((RawS.of sd).mem.length:Int)=(sd.mem.length:Int):=rfl;omega)) (fun j R=>(O2.out.lt j R).2) (fun j R=>(O4.out.lt j R).2) (fun j R=>(O3.out.lt j R).2) (fun j R=>(O1.out.lt j R).2) J1.out J2.out (bKb O3.out O1.out (by decide)));have bq:=fQ (show KC (KaC.at0 w (.slice (some ⟨sb,so,none⟩) L y) (.slice C p.env.globals.length D) d (.slice z p.fns.length v) p (m.heap.size+1) m.heap.size (.slice B2 (RawS.of sd).globals.length d2) zf of_)from⟨by have h1:=HP.out;rw[bV.out]at h1;exact h1,bd.out,fun b3=>⟨p.fns.length,v,congrArg (fun A=>Value.slice A p.fns.length v) (HZ.out b3)⟩⟩);have b4:=fQ (xK V5.out HA.out.all (AK (Nat.le_of_eq bJ.out.1.symm) (by omega)))
 have b5:=fQ (show yV m.heap.size (m.heap.size+1) (.slice B2 (RawS.of sd).globals.length d2) (.slice B4 (RawS.of sd).log.length d4) (.slice B3 (RawS.of sd).input.length d3) (.slice B1 (RawS.of sd).mem.length d1) (w.heap.size+1+1)=0 by
  unfold yV
  rw[if_neg (by omega),if_neg (by omega),if_neg (jV V2.out W.out (by decide)),if_neg (jV V4.out W.out (by decide)),if_neg (jV V3.out W.out (by decide)),if_neg (jV V1.out W.out (by decide))])
 have b6:=fQ (show yV m.heap.size (m.heap.size+1) (.slice B2 (RawS.of sd).globals.length d2) (.slice B4 (RawS.of sd).log.length d4) (.slice B3 (RawS.of sd).input.length d3) (.slice B1 (RawS.of sd).mem.length d1) (w.heap.size+1+1+1)=0 by
  unfold yV
  rw[if_neg (by omega),if_neg (by omega),if_neg (jV V2.out X.out (by decide)),if_neg (jV V4.out X.out (by decide)),if_neg (jV V3.out X.out (by decide)),if_neg (jV V1.out X.out (by decide))])
 have b7:=fQ (show ∀ j,(Value.slice P l.length Q).ownBlock=some j->yV m.heap.size (m.heap.size+1) (.slice B2 (RawS.of sd).globals.length d2) (.slice B4 (RawS.of sd).log.length d4) (.slice B3 (RawS.of sd).input.length d3) (.slice B1 (RawS.of sd).mem.length d1) j=0/\w.heap.size<=j/\j<V.heap.size from fun j R=>by
  have h5:=V5.out.lt j R;refine⟨?_,by omega,h5.2⟩;unfold yV
  rw[if_neg (by omega),if_neg (by omega),if_neg (fun e=>by have:=(O2.out.lt j e).2;omega),if_neg (fun e=>by have:=(O4.out.lt j e).2;omega),if_neg (fun e=>by have:=(O3.out.lt j e).2;omega),if_neg (fun e=>by have:=(O1.out.lt j e).2;omega)])
 have bN:=fQ (cQw b1.out rfl (w.heap.size+1+1) (w.heap.size+1+1+1) k (.slice P l.length Q) l (.func (.func 28) #[] #[.pointer (some ⟨w.heap.size+1+1,0,none⟩),.pointer (some ⟨w.heap.size+1+1+1,0,none⟩)]) ⟨_,_,rfl⟩ W.out X.out b4.out (by omega) ⟨b5.out,by show w.heap.size<=_;omega⟩ ⟨b6.out,by show w.heap.size<=_;omega⟩ b7.out (jV V5.out W.out (by decide)) (jV V5.out X.out (by decide)));have mc:=bp.out.cell 0;have ym:=bp.out.lt;have yc:=a8.out.lt;have cj:V.cell? ⟨m.heap.size,17,none⟩=some .nilFunc:=a8.out.cell 17;have f17:=frz a8.out 17;go_wp2;go_ret2;exact⟨_,_,rfl,rfl,rfl,bN.out,⟨bq.out.rows,bq.out.ok,bq.out.adr⟩,by unfold jW;rw[if_pos (show(k:Int)<p.env.imports from bD.out)];rfl,fun _=>rfl,bN.out.bel⟩
theorem bQv(a vs va:Ah)(p:RowsD)(sd:StD)(l:List Nat)(k:Nat)(g:SigD)(w:Ag)(hp:RowsV w a p)(hs:StV w vs (RawS.of sd))(ha:UR w va l)(b:FitP p.env (RawS.of sd))(c:ProgP p)(hg:p.env.sigs[k]? = some g)(d:GivP g.inn l):Bj fZ 7 #[a,vs,.int .i64 (k:Int),va] w (aWl p sd k l w):=by
 by_cases h:(k:Int)<p.env.imports
 ·exact dKy a vs va p _ _ l w hp hs ha b c sd rfl k g rfl hg d h
 ·exact eZx a vs va p _ _ l w hp hs ha b c sd rfl k g rfl hg d h
theorem aWn(h:Array Ah)(W:Ag)(i:Nat)(v e a b c d f g:Ah)(h2:h.getD 8 undef=v)(j:h.getD 9 undef = .pointer (some ⟨i,0,none⟩))(l:h.getD 10 undef=e)(k:Blk W i 33 #[a,b,c,d,f,g]):
  (results Tryz.f19 h).run fZ W = .ok (.tuple #[v,.agg #[a,b,c,d,f,g],e]) W:=by
 obtain⟨m,n,o,p,q,r⟩:=iZ k;simp only[Array.getD_eq_getD_getElem?]at h2 j l;simp[results,results19,go_sem,h2,j,l,m,n,o,p,q,r]
def RnI(C:KaC)(N:Nat)(x0:MaD)(wx:Ag):Prop:=∃ (i:Nat) (X:KaS),i<=N/\KRef C X wx/\X.x=stN C.p i x0
theorem eZz(vp vs va:Ah)(p:RowsD)(sd:StD)(l:List Nat)(k:Nat)(g:SigD)(w:Ag)(hp:RowsV w vp p)(hs:StV w vs (RawS.of sd))(ha:UR w va l)(ae:FitP p.env (RawS.of sd))(aq:ProgP p)(hg:p.env.sigs[k]? = some g)(ar:GivP g.inn l)(hT:Tabs w)
  (N:Nat) (E:∀ i,i<=N->MOk p (stN p i (jW p k l sd))) (au:∀ i,i<N->(stN p i (jW p k l sd)).over=false) (aw:(stN p N (jW p k l sd)).over=true) (ax:∀ i,i<=N->(stN p i (jW p k l sd)).steps=i) (hN:N<=100000000) (F:∀ i,(stN p i (jW p k l sd)).first≠none->(jW p k l sd).first≠none) :
  Bj fZ 19 #[vp,vs,.int .i64 (k:Int),va] w (aXp (stN p N (jW p k l sd)).out (RawS.of (stN p N (jW p k l sd)).s) (stN p N (jW p k l sd)).e w):=by
 have ay:=hp;have az:=hs;obtain⟨a,b,d,f,rfl,r1,r2,r3,r4⟩:=hp;obtain⟨a1,g1,i1,l1,rfl,aA,aB,aC,aD⟩:=hs;obtain⟨G,H,rfl⟩:=aA.shape;obtain⟨I,J,rfl⟩:=aB.shape;obtain⟨K,L,rfl⟩:=aC.shape;obtain⟨M,O,rfl⟩:=aD.shape;have HP:=fQ ay;have HS:=fQ az;have HA:=fQ ha;have P:=fQ (And.intro ae (And.intro aq (And.intro hg ar)));have aL:=fQ au;have aM:=fQ aw;have aE:=fQ E;have aF:=fQ hT;have U:=fQ ax;have aN:=fQ F;clear ay az ha ae aq hg ar au aw E hT ax F r1 r2 r3 r4 aA aB aC aD;have m:=fQ ((((Aw w.heap.size w).alloc (Ak _) (.cells #[a,.int .i64 p.env.imports,b,d,.bool p.env.mem,f] 29)).alloc (by first | (simp;done) | (simp;omega)) (.cells #[.slice G (RawS.of sd).mem.length H,.int .i64 (RawS.of sd).most,.slice I (RawS.of sd).globals.length J,.int .i64 (RawS.of sd).fuel,.slice K (RawS.of sd).input.length L,.slice M (RawS.of sd).log.length O] 33)).alloc (by first | (simp;done) | (simp;omega)) (.cells #[.slice none 0 0,.int .i64 0,.slice none 0 0,.int .i64 0,.slice none 0 0,.slice none 0 0] 33));have V:=fQ (((Blk.new w 29 #[a,.int .i64 p.env.imports,b,d,.bool p.env.mem,f]).alloc (.cells #[.slice G (RawS.of sd).mem.length H,.int .i64 (RawS.of sd).most,.slice I (RawS.of sd).globals.length J,.int .i64 (RawS.of sd).fuel,.slice K (RawS.of sd).input.length L,.slice M (RawS.of sd).log.length O] 33)).alloc (.cells #[.slice none 0 0,.int .i64 0,.slice none 0 0,.int .i64 0,.slice none 0 0,.slice none 0 0] 33));have W:=fQ ((Blk.newAt (w.alloc (.cells #[a,.int .i64 p.env.imports,b,d,.bool p.env.mem,f] 29)) (N:=w.heap.size+1) 33 #[.slice G (RawS.of sd).mem.length H,.int .i64 (RawS.of sd).most,.slice I (RawS.of sd).globals.length J,.int .i64 (RawS.of sd).fuel,.slice K (RawS.of sd).input.length L,.slice M (RawS.of sd).log.length O] (by simp)).alloc (.cells #[.slice none 0 0,.int .i64 0,.slice none 0 0,.int .i64 0,.slice none 0 0,.slice none 0 0] 33));have Y:=fQ (Blk.newAt ((w.alloc (.cells #[a,.int .i64 p.env.imports,b,d,.bool p.env.mem,f] 29)).alloc (.cells #[.slice G (RawS.of sd).mem.length H,.int .i64 (RawS.of sd).most,.slice I (RawS.of sd).globals.length J,.int .i64 (RawS.of sd).fuel,.slice K (RawS.of sd).input.length L,.slice M (RawS.of sd).log.length O] 33)) (N:=w.heap.size+1+1) 33 #[.slice none 0 0,.int .i64 0,.slice none 0 0,.int .i64 0,.slice none 0 0,.slice none 0 0] (by simp));go_in;go_upto_region 1 with fail;obtain⟨R,aG⟩:=fX (((w.alloc (.cells #[a,.int .i64 p.env.imports,b,d,.bool p.env.mem,f] 29)).alloc (.cells #[.slice G (RawS.of sd).mem.length H,.int .i64 (RawS.of sd).most,.slice I (RawS.of sd).globals.length J,.int .i64 (RawS.of sd).fuel,.slice K (RawS.of sd).input.length L,.slice M (RawS.of sd).log.length O] 33)).alloc (.cells #[.slice none 0 0,.int .i64 0,.slice none 0 0,.int .i64 0,.slice none 0 0,.slice none 0 0] 33));rw[aG]at m V W Y ⊢;clear aG;obtain⟨p0,p1,p2,p3,p4,p5⟩:=rX V.out;obtain⟨s0,s1,s2,s3,s4,s5⟩:=iZ W.out;have yP:=V.out.lt;have yS:=W.out.lt;go_wp2_with fail;refine(bQv _ _ va p sd l k g _ (HP.out.below m.out (Ak _)) (HS.out.below m.out (Ak _)) (HA.out.below m.out (Ak _)) P.out.1 P.out.2.1 P.out.2.2.1 P.out.2.2.2).mono ?_
 rintro en w4 ⟨C,X,rfl,e0,e1,q1,q2,q3,q4,q5⟩;subst e1;have Z:=fQ e0;have R0:=fQ q1;have RC:=fQ q2;have RX:=fQ q3;have RF:=fQ q4;have RB:=fQ q5;clear q1 q2 q3 q4 q5 e0 p0 p1 p2 p3 p4 p5 s0 s1 s2 s3 s4 s5 yP yS;go_wp2_with fail;go_loopw [27] (fun v wx=>Hid (RnI C N (jW C.p k l sd) wx)) (fun _ wx=>match wx.cell? ⟨C.cb,15,none⟩with | some (.int _ n)=>N+1 - n.toNat | _=>0)
 case atStart=>exact fQ ⟨0,X,Ac _,R0.out,RX.out⟩
 case round=>
  obtain⟨i,X1,hi,k1,k2⟩:=hrel.out;have E:=aE.out i hi;rw[<-k2]at E;have S:=U.out i hi;rw[<-k2]at S;have c1:wr.cell? ⟨C.cb,15,none⟩=some (.int .i64 (i:Int)):=(k1.cell 15).trans (congrArg (fun n:Nat=>some (Value.int .i64 (n:Int))) S);have F:X1.x.first≠none->C.fv = .func (.func 28) #[] #[.pointer (some ⟨C.nb,0,none⟩),.pointer (some ⟨C.ab,0,none⟩)]:=fun h=>RF.out (by rw[RX.out];rw[k2]at h;exact aN.out i h);have aH:Tabs C.w0:=(by rw[Z.out];exact aF.out.below m.out aF.out.2.2);have K1:=fQ k1;have T:=fQ k2;have HI:=fQ hi;have aO:=fQ c1;have aP:=fQ E;have aQ:=fQ F;have aR:=fQ aH;have ah:=fQ S;clear k1 k2 hi c1 E F aH S hrel;go_wp2_with fail;refine(aVm C X1 _ K1.out RC.out aR.out aP.out aQ.out (by have:=ah.out;have:=HI.out;omega)).mono ?_;rintro en w5 ⟨rfl,c,m1,m2,m3⟩;have Q:=fQ m1;have M3:=fQ m3;clear m1 m2 m3
  cases ho:X1.x.over with
  | false=>
   have ai:i<N:=by
    rcases AY i N with h | h
    ·exact h
    ·have e:i=N:=Ad HI.out h;rw[T.out,e,aM.out]at ho;cases ho
   have o:c.x=stN C.p (i+1) (jW C.p k l sd):=by
    rw[M3.out,aXz,<-T.out];rfl
   have c2:w5.cell? ⟨C.cb,15,none⟩=some (.int .i64 ((i+1:Nat):Int)):=(Q.out.cell 15).trans (congrArg (fun n:Nat=>some (Value.int .i64 (n:Int))) (by rw[o];exact U.out (i+1) ai));have aj:=fQ o;have aS:=fQ c2;have aI:=fQ ai;clear ho o c2 ai;go_wp2;refine⟨fQ ⟨i+1,c,aI.out,Q.out,aj.out⟩,?_⟩;rw[aO.out,aS.out];have:=aI.out;simp;omega
  | true=>
   have e:i=N:=by
    rcases AY i N with h | h
    ·have h1:=aL.out i h;rw[<-T.out,ho]at h1;cases h1
    ·exact Ad HI.out h
   have o:c.x=stN C.p N (jW C.p k l sd):=by
    rw[M3.out];unfold jY;rw[if_pos ho,T.out,e]
   have aj:=fQ o;have ak:=aE.out N (Ak _);have al:=U.out N (Ak _);rw[<-o]at ak al;have an:=fQ ak;have aT:=fQ al;clear ho e o ak al;go_wp2_with fail;refine(aYs C c _ Q.out an.out.st (by rw[an.out.st.glen];exact AK (aZb P.out.2.1.env) (by decide)) (by have h1:=an.out.log;have h2:=aT.out;omega)).mono ?_;rintro en w6 ⟨v,a,g0,i0,l0,rfl,o1,o2,o3,o4,o5,b6,j1,j2,j3⟩;obtain⟨B1,d1,rfl,_⟩:=fJ o1;obtain⟨q,r,rfl,_⟩:=fJ o2;obtain⟨t,u,rfl,_⟩:=fJ o3;obtain⟨y,z,rfl,_⟩:=fJ o4;obtain⟨A,B,rfl,_⟩:=fJ o5;have ao:=Y.out.below (show Ai R.heap.size R w5 by have:=Q.out.bel;rw[Z.out]at this;exact this) Y.out.lt;have j:=fQ (ao.below b6 ao.lt);have aJ:=fQ (m.out.trans ((show Ai R.heap.size R w5 by have:=Q.out.bel;rw[Z.out]at this;exact this).mono m.out.size));have D:=aJ.out.size;have aK:=aJ.out.trans (b6.mono D);have aU:=fQ (aXq aK (show w.heap.size<=w.heap.size+1+1 by omega) (.slice q (RawS.of c.x.s).mem.length r) (.int .i64 (RawS.of c.x.s).most) (.slice t (RawS.of c.x.s).globals.length u) (.int .i64 (RawS.of c.x.s).fuel) (.slice y (RawS.of c.x.s).input.length z) (.slice A (RawS.of c.x.s).log.length B));have aV:=fQ (aJp j.out (.slice q (RawS.of c.x.s).mem.length r) (.int .i64 (RawS.of c.x.s).most) (.slice t (RawS.of c.x.s).globals.length u) (.int .i64 (RawS.of c.x.s).fuel) (.slice y (RawS.of c.x.s).input.length z) (.slice A (RawS.of c.x.s).log.length B));have P1:=fQ (jQ (nZ o1 j.out (by decide) (.slice q (RawS.of c.x.s).mem.length r) (.int .i64 (RawS.of c.x.s).most) (.slice t (RawS.of c.x.s).globals.length u) (.int .i64 (RawS.of c.x.s).fuel) (.slice y (RawS.of c.x.s).input.length z) (.slice A (RawS.of c.x.s).log.length B)) D);have P2:=fQ (jQ (nZ o2 j.out (by decide) (.slice q (RawS.of c.x.s).mem.length r) (.int .i64 (RawS.of c.x.s).most) (.slice t (RawS.of c.x.s).globals.length u) (.int .i64 (RawS.of c.x.s).fuel) (.slice y (RawS.of c.x.s).input.length z) (.slice A (RawS.of c.x.s).log.length B)) D);have P3:=fQ (jQ (nZ o3 j.out (by decide) (.slice q (RawS.of c.x.s).mem.length r) (.int .i64 (RawS.of c.x.s).most) (.slice t (RawS.of c.x.s).globals.length u) (.int .i64 (RawS.of c.x.s).fuel) (.slice y (RawS.of c.x.s).input.length z) (.slice A (RawS.of c.x.s).log.length B)) D);have P4:=fQ (jQ (nZ o4 j.out (by decide) (.slice q (RawS.of c.x.s).mem.length r) (.int .i64 (RawS.of c.x.s).most) (.slice t (RawS.of c.x.s).globals.length u) (.int .i64 (RawS.of c.x.s).fuel) (.slice y (RawS.of c.x.s).input.length z) (.slice A (RawS.of c.x.s).log.length B)) D);have P5:=fQ (jQ (nZ o5 j.out (by decide) (.slice q (RawS.of c.x.s).mem.length r) (.int .i64 (RawS.of c.x.s).most) (.slice t (RawS.of c.x.s).globals.length u) (.int .i64 (RawS.of c.x.s).fuel) (.slice y (RawS.of c.x.s).input.length z) (.slice A (RawS.of c.x.s).log.length B)) D);have JJ:=fQ (And.intro j1 (And.intro j2 j3));obtain⟨g0,g1,g2,g3,g4,g5⟩:=iZ j.out;have f0:=frz j.out 0;have f1:=frz j.out 1;have f2:=frz j.out 2;have f3:=frz j.out 3;have f4:=frz j.out 4;have f5:=frz j.out 5;have yz:=j.out.lt;clear o1 o2 o3 o4 o5 b6 j1 j2 j3 ao aK D
   go_wp2_with fail;refine bodyPost_ret (aWn _ _ (w.heap.size+1+1) _ _ _ _ _ _ _ _ rfl rfl rfl aV.out) rfl ?_;rw[<-aj.out];exact⟨_,_,_,_,_,rfl,P1.out,P2.out,P3.out,P4.out,P5.out,aU.out,JJ.out⟩
theorem bXw(C:KaC){w:Ag}{base:Nat}{lab:Nat->Nat}:∀ (st:List FrD) (ps:List Ah),PlsV w base lab st ps->∀ i,i<st.length->∃ (f:FrD) (A:Option Addr) (c:Nat),st.reverse[i]? = some f/\(stCells C st ps)[i*3]? = some (.pointer (some ⟨C.zf,C.of_+f.fi*5,none⟩))/\(stCells C st ps)[i*3+1]? = some (.int .i64 (f.k:Int))/\(stCells C st ps)[i*3+2]? = some (.slice A f.V.length c)
 | [],_,_,i,hi=>by simp at hi
 | _ :: _,[],h,_,_=>h.elim
 | f :: l,v :: vs,h,i,hi=>by
  have a:=zZ C h.2.len;rcases AY i l.length with b | ad
  ·obtain⟨q,A,c,h1,h2,d,g⟩:=bXw C l vs h.2 i b;refine⟨q,A,c,?_,?_,?_,?_⟩
   ·rw[Aa,AJ (by rw[AQ];exact b)];exact h1
   ·show(stCells C l vs++vY C f v)[_]? = _;rw[AJ (by omega)];exact h2
   ·show(stCells C l vs++vY C f v)[_]? = _;rw[AJ (by omega)];exact d
   ·show(stCells C l vs++vY C f v)[_]? = _;rw[AJ (by omega)];exact g
  ·have e:i=l.length:=(by simp at hi;omega);subst e;obtain⟨A,c,hv,_⟩:=fJ h.1.1;refine⟨f,A,c,?_,?_,?_,?_⟩
   ·rw[Aa,Ay (by rw[AQ];exact Ak _),AQ,Af];rfl
   ·show(stCells C l vs++vY C f v)[_]? = _;rw[<-a,Ay (by omega),Af];rfl
   ·show(stCells C l vs++vY C f v)[_]? = _;rw[<-a,Ay (by omega),AZ];rfl
   ·show(stCells C l vs++vY C f v)[_]? = _;rw[<-a,Ay (by omega),AZ,hv];rfl
def aZa(st:List FrD)(i:Nat):Nat:=((st.reverse.take i).map fun f=>f.V.length).sum
theorem dQm{st:List FrD}{i:Nat}{f:FrD}(h:st.reverse[i]? = some f):aZa st (i+1)=aZa st i+f.V.length:=by
 unfold aZa;rw[List.take_add_one,h];simp
theorem bWy(x:MaD):aZa x.st x.st.length=wdM x:=by
 unfold aZa wdM;rw[AV (by rw[AQ];exact Ak _),List.map_reverse,List.sum_reverse]
theorem aVr(C:KaC)(X:KaS)(w:Ag)(h:KRef C X w)(s:∀ i,i<=X.x.st.length->aZa X.x.st i<=1000000000)(hd:X.x.st.length<=16):Bj fZ 11 #[.pointer (some ⟨C.mm,0,none⟩)] w fun e w'=>e = .returned (.int .i64 (wdM X.x:Int))/\Ai w.heap.size w w':=by
 obtain⟨A,c,g⟩:=h.fQz;obtain⟨n,hn⟩:=fX X.x.st.length;rw[hn]at g hd;have m0:=h.eYx;have ym:=h.mm.lt;have yb:=h.cb.lt;have an:w.cell? ⟨C.cb,12,none⟩=some (.slice A n c):=(by rw[h.cell 12,<-g];rfl);have H:=fQ h;have a:=fQ hn;have B:=fQ s;have t:=fQ g;have u:=fQ h.pls;have D:=fQ h.stk;clear h g hn s;go_in;go_wp2_with fail;refine(aKt C X _ H.out).mono ?_;rintro e w1 ⟨rfl,rfl⟩;go_wp2_with fail;go_loopw [3,16] (fun v i wx=>∃ j:Nat,j<=n/\i = .int .i64 (j:Int)/\v = .int .i64 (aZa X.x.st j:Int)/\Hid (Ai w.heap.size w wx)) (fun _ i _=>n - (intOf i).toNat)
 case atStart=>exact⟨0,by omega,rfl,rfl,fQ (Aw _ _)⟩
 case round=>
  obtain⟨j,hj,rfl,rfl,b⟩:=hrel;by_cases E:j<n
  ·have F:decide ((j:Int)<n)=true:=(by simp;omega);have t2:(j:Int)<n:=(by omega);obtain⟨f,G,I,h1,h2,y,z⟩:=bXw C X.x.st X.ps u.out j (by rw[a.out];exact E);have d:=D.out;rw[a.out]at d;rcases d.2 with⟨_,e⟩ | ⟨l,cc,cur,e,_,hg,hc,r⟩
   ·exact absurd e (by omega)
   rw[t.out]at e;injection e with e _ _;subst e;rw[t.out]at d;have o:l<w.heap.size:=(Array.getElem?_eq_some_iff.1 hg).1;have hlen:=zZ C u.out.len;rw[a.out]at hlen;have m:∀ q,q<3->wr.cell? ⟨l,j*3+q,none⟩=(stCells C X.x.st X.ps)[j*3+q]?:=fun q hq=>(b.out.cell (p:=⟨l,j*3+q,none⟩) o).trans (d.cellAt (j*3+q) (by omega));have J:=(m 0 (by omega)).trans h2;have d1:=(m 1 (by omega)).trans y;have d2:=(m 2 (by omega)).trans z;rw[Nat.add_zero]at J;have ao:l<wr.heap.size:=AW o b.out.size;have K:=dQm h1;have L:=B.out (j+1) (by rw[a.out];omega);have aq:IntKind.i64.wrap ((aZa X.x.st j:Int)+(f.V.length:Int))=((aZa X.x.st (j+1):Nat):Int):=(by rw[show(aZa X.x.st j:Int)+(f.V.length:Int)=((aZa X.x.st (j+1):Nat):Int) by omega];exact IntWalk.i64_in _ (by omega));have M:=fQ (b.out.alloc b.out.size (.cells #[.pointer (some ⟨C.zf,C.of_+f.fi*5,none⟩),.int .i64 (f.k:Int),.slice G f.V.length I] 83));clear h1 h2 y z d hg hc r o hlen m K L;go_wp2;exact⟨⟨j+1,by omega,by simp,by first | rfl | simp,M⟩,by simp[intOf];omega⟩
  ·have F:decide ((j:Int)<n)=false:=(by simp;omega);obtain rfl:j=n:=(by omega);go_wp2;go_ret;exact⟨by rw[<-bWy,a.out];rfl,b.out⟩
theorem dQh(F vs va:Ah)(p:RowsD)(s:RawS)(n e:Int)(w:Ag)(hp:RowsV w F p)(hs:StV w vs s)(he:e≠0)(L:∀ w',Ai w.heap.size w w'->Bj fZ 7 #[F,vs,.int .i64 n,va] w' fun en Y=>en = .returned (.tuple #[.pointer none,.int .i64 e])/\Ai w'.heap.size w' Y):
  Bj fZ 19 #[F,vs,.int .i64 n,va] w (aXp [] s e w):=by
 have Z:=hp;have M:=hs;obtain⟨a,b,d,f,rfl,r1,r2,r3,r4⟩:=hp;obtain⟨a1,g1,i1,l1,rfl,O,P,Q,R⟩:=hs;obtain⟨t,u,rfl⟩:=O.shape;obtain⟨v,x,rfl⟩:=P.shape;obtain⟨y,z,rfl⟩:=Q.shape;obtain⟨A,B,rfl⟩:=R.shape;have HS:=fQ M;have ar:=fQ L;have u1:(e != 0)=true:=(by simp[he]);clear Z M L r1 r2 r3 r4 O P Q R he;have D:=fQ ((((Aw w.heap.size w).alloc (Ak _) (.cells #[a,.int .i64 p.env.imports,b,d,.bool p.env.mem,f] 29)).alloc (by first | (simp;done) | (simp;omega)) (.cells #[.slice t s.mem.length u,.int .i64 s.most,.slice v s.globals.length x,.int .i64 s.fuel,.slice y s.input.length z,.slice A s.log.length B] 33)).alloc (by first | (simp;done) | (simp;omega)) (.cells #[.slice none 0 0,.int .i64 0,.slice none 0 0,.int .i64 0,.slice none 0 0,.slice none 0 0] 33));have G:=fQ (((Blk.new w 29 #[a,.int .i64 p.env.imports,b,d,.bool p.env.mem,f]).alloc (.cells #[.slice t s.mem.length u,.int .i64 s.most,.slice v s.globals.length x,.int .i64 s.fuel,.slice y s.input.length z,.slice A s.log.length B] 33)).alloc (.cells #[.slice none 0 0,.int .i64 0,.slice none 0 0,.int .i64 0,.slice none 0 0,.slice none 0 0] 33));have C:=fQ ((Blk.newAt (w.alloc (.cells #[a,.int .i64 p.env.imports,b,d,.bool p.env.mem,f] 29)) (N:=w.heap.size+1) 33 #[.slice t s.mem.length u,.int .i64 s.most,.slice v s.globals.length x,.int .i64 s.fuel,.slice y s.input.length z,.slice A s.log.length B] (by simp)).alloc (.cells #[.slice none 0 0,.int .i64 0,.slice none 0 0,.int .i64 0,.slice none 0 0,.slice none 0 0] 33));have H:=fQ (Blk.newAt ((w.alloc (.cells #[a,.int .i64 p.env.imports,b,d,.bool p.env.mem,f] 29)).alloc (.cells #[.slice t s.mem.length u,.int .i64 s.most,.slice v s.globals.length x,.int .i64 s.fuel,.slice y s.input.length z,.slice A s.log.length B] 33)) (N:=w.heap.size+1+1) 33 #[.slice none 0 0,.int .i64 0,.slice none 0 0,.int .i64 0,.slice none 0 0,.slice none 0 0] (by simp));go_in;go_upto_region 1 with fail;obtain⟨w3,S⟩:=fX (((w.alloc (.cells #[a,.int .i64 p.env.imports,b,d,.bool p.env.mem,f] 29)).alloc (.cells #[.slice t s.mem.length u,.int .i64 s.most,.slice v s.globals.length x,.int .i64 s.fuel,.slice y s.input.length z,.slice A s.log.length B] 33)).alloc (.cells #[.slice none 0 0,.int .i64 0,.slice none 0 0,.int .i64 0,.slice none 0 0,.slice none 0 0] 33));rw[S]at D G C H ⊢;clear S;obtain⟨p0,p1,p2,p3,p4,p5⟩:=rX G.out;obtain⟨s0,s1,s2,s3,s4,s5⟩:=iZ C.out;have yP:=G.out.lt;have I:=C.out.lt;go_wp2_with fail;refine(ar.out _ D.out).mono ?_;rintro en w4 ⟨rfl,E⟩;have T:=fQ (C.out.below E C.out.lt);have U:=fQ (H.out.below E H.out.lt);have J:=fQ (D.out.trans (E.mono D.out.size));clear E p0 p1 p2 p3 p4 p5 s0 s1 s2 s3 s4 s5 yP I;obtain⟨s0,s1,s2,s3,s4,s5⟩:=iZ T.out;have I:=T.out.lt;go_wp2_with fail;refine(aYm _ s _ (HS.out.below J.out (Ak _))).mono ?_;rintro en w6 ⟨a,g0,i0,l0,rfl,o2,o3,o4,o5,K,V,W⟩;obtain⟨g,h,rfl,_⟩:=fJ o2;obtain⟨i,j,rfl,_⟩:=fJ o3;obtain⟨l,m,rfl,_⟩:=fJ o4;obtain⟨o,q,rfl,_⟩:=fJ o5;have c:=fQ (U.out.below K U.out.lt);have r:=J.out.size;have X:=J.out.trans (K.mono r)
 have au:=fQ (aXq X (show w.heap.size<=w.heap.size+1+1 by omega) (.slice g s.mem.length h) (.int .i64 s.most) (.slice i s.globals.length j) (.int .i64 s.fuel) (.slice l s.input.length m) (.slice o s.log.length q));have aw:=fQ (aJp c.out (.slice g s.mem.length h) (.int .i64 s.most) (.slice i s.globals.length j) (.int .i64 s.fuel) (.slice l s.input.length m) (.slice o s.log.length q));have P2:=fQ (jQ (nZ o2 c.out (by decide) (.slice g s.mem.length h) (.int .i64 s.most) (.slice i s.globals.length j) (.int .i64 s.fuel) (.slice l s.input.length m) (.slice o s.log.length q)) r);have P3:=fQ (jQ (nZ o3 c.out (by decide) (.slice g s.mem.length h) (.int .i64 s.most) (.slice i s.globals.length j) (.int .i64 s.fuel) (.slice l s.input.length m) (.slice o s.log.length q)) r);have P4:=fQ (jQ (nZ o4 c.out (by decide) (.slice g s.mem.length h) (.int .i64 s.most) (.slice i s.globals.length j) (.int .i64 s.fuel) (.slice l s.input.length m) (.slice o s.log.length q)) r);have P5:=fQ (jQ (nZ o5 c.out (by decide) (.slice g s.mem.length h) (.int .i64 s.most) (.slice i s.globals.length j) (.int .i64 s.fuel) (.slice l s.input.length m) (.slice o s.log.length q)) r);have JJ:=fQ (And.intro V W);obtain⟨g0,g1,g2,g3,g4,g5⟩:=iZ c.out;have f0:=frz c.out 0;have f1:=frz c.out 1;have f2:=frz c.out 2;have f3:=frz c.out 3;have f4:=frz c.out 4;have f5:=frz c.out 5;have yz:=c.out.lt;clear o2 o3 o4 o5 K V W X r s0 s1 s2 s3 s4 s5 I;go_wp2_with fail;refine bodyPost_ret (aWn _ _ (w.heap.size+1+1) _ _ _ _ _ _ _ _ rfl rfl rfl aw.out) rfl ?_;exact⟨_,_,_,_,_,rfl,World.ownsRow_nil _ _ _ _,P2.out,P3.out,P4.out,P5.out,au.out,fun k hk=>(by cases hk),JJ.out⟩
def aJm:RowD:=⟨⟨[],[127]⟩,1,[],[⟨258,0,[],[],[]⟩,⟨256,5,[],[0],[]⟩,⟨276,0,[0],[],[]⟩]⟩
def qZ:RowsD:=⟨⟨[⟨[],[127]⟩],0,[],[],false⟩,[aJm]⟩
def aKs:StD:=⟨[],0,[],1,[],[]⟩
theorem bWw{i:Nat}{c:CodeD}(h:aJm.code[i]? = some c){x:Int}(a:x∈nextOf c i):x=(i:Int)+1/\i<2:=by
 match i,h with
 | 0,h=>injection h with h;subst h;simp[nextOf]at a;exact⟨a,by omega⟩
 | 1,h=>injection h with h;subst h;simp[nextOf]at a;exact⟨by omega,by omega⟩
 | 2,h=>injection h with h;subst h;simp[nextOf]at a
 | n+3,h=>simp[aJm]at h
theorem cXa:CheckP qZ.env aJm where
 env:=by decide
 sig:=by decide
 n1:=by decide
 n2:=by decide
 p1:=by decide
 p2:=by decide
 par:=rfl
 pin:=rfl
 pun:=by simp[aJm]
 code c hc:=by
  simp only[aJm,Ae,Ab,or_false]at hc;rcases hc with rfl | rfl | rfl <;> rfl
 first c hc:=by injection hc with hc;subst hc;rfl
 last c hc:=by injection hc with hc;subst hc;decide
 rank:=⟨fun i=>3 - i,fun i c k hc _ a=>by
  obtain⟨h1,h2⟩:=bWw hc a;show 3 - k<3 - i
  omega⟩
theorem aJn:ProgP qZ where
 env:=by decide
 len:=by decide
 row i r h:=by
  match i,h with
  | 0,h=>injection h with h;subst h;exact⟨cXa,rfl⟩
  | n+1,h=>simp[qZ]at h
theorem dQi:∀ (i:Nat) q,qZ.fns[i]? = Option.some q->∀ c∈q.code,c.n<18446744073709551616:=by
 intro i q h c hc
 match i,h with
 | 0,h=>
  injection h with h;subst h;simp only[aJm,Ae,Ab,or_false]at hc;rcases hc with rfl | rfl | rfl <;> decide
 | n+1,h=>simp[qZ]at h
theorem cJl:StOk qZ.env aKs where
 memB:=fun _ h=>by cases h
 memL:=by decide
 most:=by decide
 glen:=rfl
 g64:=fun _ h=>by cases h
 l64:=fun _ h=>by cases h
 i64:=fun _ h=>by cases h
 ilen:=by decide
 fuel:=by decide
theorem bXu(i:Nat):MOk qZ (stN qZ i (jW qZ 0 [] aKs)):=
 bWq aJn dQi i (bWo (g:=⟨[],[127]⟩) aJn cJl rfl rfl (fun _ h=>by cases h) (by decide))
theorem cXb:FitP qZ.env (RawS.of aKs):=⟨by decide,{ pg:=rfl,le:=by decide,mx:=by decide,no:=fun _=>rfl,gl:=rfl,f0:=by decide,f1:=by decide,il:=by decide,ll:=by decide,ft:=fun k t n h=>by simp[qZ]at h }⟩
theorem bWx(C:KaC)(X:KaS)(w:Ag)(h:KRef C X w)(a:X.x.over=true):Bj fZ 14 #[.pointer (some ⟨C.mm,0,none⟩)] w fun e w'=>e = .returned (.bool false)/\w=w':=by
 have H:=fQ h;have b:=fQ a;clear h a;go_in;go_wp2_with fail;refine(yZ C X _ H.out).mono ?_;rintro e w1 ⟨rfl,rfl⟩;rw[b.out];go_wp2;go_ret;exact⟨rfl,rfl⟩
theorem aZw{w:Ag}{g n:Nat}{cs:Array Ah}{l:List Int}(h:Blk w g 3 cs)(a:l.length=n)(e:i64s l=cs.toList)(hn:n<=100):Ints w (.slice (some ⟨g,0,none⟩) n n) l:=by
 subst a;exact⟨_,_,rfl,by rw[e];exact Blk.fQb h (by have:=congrArg List.length e;simpa[i64s]using this.symm),Ak _,(fun e=>by cases e),by omega⟩
def dVe(w:Ag)(en:Ending)(w':Ag):Prop:=∃ v,en = .returned v/\RowsV w' v qZ/\Ai w.heap.size w w'
theorem cXc(w:Ag):Bj fZ 35 #[] w (dVe w):=by
 go_in;go_wp2;refine bodyPost_ret (v:=.agg #[.slice (some ⟨w.heap.size+1+1+1+1+1+1+1,0,none⟩) 1 1,.int .i64 0,.slice none 0 0,.slice none 0 0,.bool false,.slice (some ⟨w.heap.size+1+1+1+1+1+1+1+1,0,none⟩) 1 1]) (by simp[results,results35,go_sem]) rfl ⟨_,rfl,⟨_,_,_,_,rfl,?_,Ints.nil _,?_,?_⟩,?_⟩
 ·refine⟨_,_,[[.slice none 0 0,.slice (some ⟨w.heap.size+1,0,none⟩) 1 1]],rfl,by decide,(fun e=>by cases e),by decide,rfl,by simp,?_,Blk.fQb (Blk.alloc (Blk.newAt _ _ _ (by simp)) _) rfl⟩;intro i u x h1 h2
  match i,h1,h2 with
  | 0,h1,h2=>
   injection h1 with h1;injection h2 with h2;subst h1;subst h2;exact⟨_,_,rfl,Ints.nil _,aZw (cs:=#[.int .i64 127]) (Blk.alloc (Blk.alloc (Blk.alloc (Blk.alloc (Blk.alloc (Blk.alloc (Blk.alloc (Blk.newAt _ _ _ (by simp)) _) _) _) _) _) _) _) rfl rfl (by decide)⟩
  | n+1,h1,h2=>simp at h1
 ·exact⟨none,0,rfl,Src.nil _ _,Ak _,fun _=>rfl,by decide⟩
 ·refine⟨_,_,[[.slice none 0 0,.slice (some ⟨w.heap.size+1,0,none⟩) 1 1,.int .i64 1,.slice none 0 0,.slice (some ⟨w.heap.size+1+1+1+1+1,0,none⟩) 3 3]],rfl,by decide,(fun e=>by cases e),by decide,rfl,by simp,?_,Blk.fQb (Blk.newAt _ _ _ (by simp)) rfl⟩;intro i u x h1 h2
  match i,h1,h2 with
  | 0,h1,h2=>
   injection h1 with h1;injection h2 with h2;subst h1;subst h2;refine⟨_,_,_,_,rfl,Ints.nil _,aZw (cs:=#[.int .i64 127]) (Blk.alloc (Blk.alloc (Blk.alloc (Blk.alloc (Blk.alloc (Blk.alloc (Blk.alloc (Blk.newAt _ _ _ (by simp)) _) _) _) _) _) _) _) rfl rfl (by decide),Ints.nil _,?_⟩;refine⟨_,_,[[.int .i64 258,.int .u64 0,.slice none 0 0,.slice none 0 0,.slice none 0 0],[.int .i64 256,.int .u64 5,.slice none 0 0,.slice (some ⟨w.heap.size+1+1+1,0,none⟩) 1 1,.slice none 0 0],[.int .i64 276,.int .u64 0,.slice (some ⟨w.heap.size+1+1+1+1,0,none⟩) 1 1,.slice none 0 0,.slice none 0 0]],rfl,by decide,(fun e=>by cases e),by decide,rfl,by simp,?_,Blk.fQb (Blk.alloc (Blk.alloc (Blk.alloc (Blk.newAt _ _ _ (by simp)) _) _) _) rfl⟩;intro i u x h1 h2
   match i,h1,h2 with
   | 0,h1,h2=>
    injection h1 with h1;injection h2 with h2;subst h1;subst h2;exact⟨_,_,_,rfl,by simp[CodeD.ok],Ints.nil _,Ints.nil _,Ints.nil _⟩
   | 1,h1,h2=>
    injection h1 with h1;injection h2 with h2;subst h1;subst h2;exact⟨_,_,_,rfl,by simp[CodeD.ok],Ints.nil _,aZw (cs:=#[.int .i64 0]) (Blk.alloc (Blk.alloc (Blk.alloc (Blk.alloc (Blk.alloc (Blk.newAt _ _ _ (by simp)) _) _) _) _) _) rfl rfl (by decide),Ints.nil _⟩
   | 2,h1,h2=>
    injection h1 with h1;injection h2 with h2;subst h1;subst h2;exact⟨_,_,_,rfl,by simp[CodeD.ok],aZw (cs:=#[.int .i64 0]) (Blk.alloc (Blk.alloc (Blk.alloc (Blk.alloc (Blk.newAt _ _ _ (by simp)) _) _) _) _) rfl rfl (by decide),Ints.nil _,Ints.nil _⟩
   | n+3,h1,h2=>simp at h1
  | n+1,h1,h2=>simp at h1
 ·exact(((((((((Aw _ _).alloc (Ak _) _).alloc (by simp) _).alloc (by simp;omega) _).alloc (by simp;omega) _).alloc (by simp;omega) _).alloc (by simp;omega) _).alloc (by simp;omega) _).alloc (by simp;omega) _).alloc (by simp;omega) _
def smX(i:Nat):MaD:=stN qZ i (jW qZ 0 [] aKs)
def smE:MaD:=⟨[],⟨[],0,[],0,[],[]⟩,[5],0,3,true,none⟩
theorem aWh:smX 3=smE:=by rfl
theorem dKh:∀ i,i<3->(smX i).over=false
 | 0,_=>rfl
 | 1,_=>rfl
 | 2,_=>rfl
 | n+3,h=>by omega
theorem cYf:∀ i,i<4->(smX i).steps=i
 | 0,_=>rfl
 | 1,_=>rfl
 | 2,_=>rfl
 | 3,_=>rfl
 | n+4,h=>by omega
theorem bQr:(smX 0).over=false/\(smX 0).st.length=1/\wdM (smX 0)=1:=⟨rfl,rfl,rfl⟩
theorem cYg:∀ i,i<4->(smX i).first=none
 | 0,_=>rfl
 | 1,_=>rfl
 | 2,_=>rfl
 | 3,_=>rfl
 | n+4,h=>by omega
theorem aVi(w:Ag):UR w (.slice none 0 0) []:=⟨none,0,rfl,Src.nil _ _,Ak _,fun _=>rfl,⟨Ac _,by omega⟩,fun _ h=>by cases h⟩
theorem dKi(w:Ag):BR w (.slice none 0 0) []:=⟨none,0,rfl,Src.nil _ _,Ak _,fun _=>rfl,⟨Ac _,by omega⟩,fun _ h=>by cases h⟩
theorem dKj{w:Ag}{g x:Nat}(h:Blk w g 52 #[.int .u64 (x:Int)])(a:x<18446744073709551616):UR w (.slice (some ⟨g,0,none⟩) 1 1) [x]:=
 ⟨_,_,rfl,Blk.fQb h rfl,Ak _,(fun e=>by cases e),⟨by simp,by omega⟩,fun y b=>by rw[List.mem_singleton.1 b];exact a⟩
theorem cYh(a:Ah)(w:Ag)(hp:RowsV w a qZ):Bj fZ 7 #[a,.agg #[.slice none 0 0,.int .i64 0,.slice none 0 0,.int .i64 1,.slice none 0 0,.slice none 0 0],.int .i64 0,.slice none 0 0] w (aWl qZ aKs 0 [] w):=
 bQv a _ _ qZ aKs [] 0 ⟨[],[127]⟩ w hp ⟨_,_,_,_,rfl,dKi w,aVi w,aVi w,aVi w⟩ (aVi w) cXb aJn rfl ⟨rfl,fun k t n h=>by simp at h⟩
theorem cYi(C:KaC)(X:KaS)(w:Ag)(h:KRef C X w)(hp:C.p=qZ)(a:X.x=smX 3):Bj fZ 15 #[.pointer (some ⟨C.mm,0,none⟩)] w (aXp [5] ⟨[],0,[],0,[],[]⟩ 0 w):=by
 have hs:=(bXu 3).st;have h1:StOk C.p.env X.x.s:=(by rw[hp,a];exact hs);rw[aWh]at a;have:=aYs C X w h h1 (by rw[a];decide) (by rw[a];decide);rw[a]at this;exact this
theorem bZz(x:MaD)(i:Nat):aZa x.st i<=wdM x:=by
 rw[<-bWy];unfold aZa;rw[AV (l:=x.st.reverse) (i:=x.st.length) (by rw[AQ];exact Ak _)];have h:=congrArg (fun l:List FrD=>(l.map fun f=>f.V.length).sum) (List.take_append_drop i x.st.reverse);simp only[List.map_append,List.sum_append]at h;omega
def SmI(C:KaC)(i:Nat)(wx:Ag):Prop:=∃ X:KaS,KRef C X wx/\X.x=smX i
theorem sZ(w:Ag)(K:Tabs w):Bj fZ 9 #[] w fun en w'=>en = .returned (.bool true)/\Ai w.heap.size w w':=by
 have L:=fQ K;clear K;go_in;go_wp2_with fail;refine(cXc _).mono ?_;rintro en w1 ⟨v1,rfl,M,N⟩;have an:=fQ M;have A:=fQ N;clear M N;go_wp2_with fail;refine(cYh _ _ an.out).mono ?_;rintro en w2 ⟨C,X,rfl,e0,O,q1,P,f,q4,q5⟩;have E0:=fQ e0;have B:=fQ O;have j:=fQ q1;have RC:=fQ P;have RX:=fQ (show X.x=smX 0 from f);have TT:=fQ (show Tabs C.w0 by rw[e0];exact L.out.below A.out L.out.2.2);have x1:X.x.over=false:=(by rw[f];exact bQr.1);have x2:X.x.st.length=1:=(by rw[f];exact bQr.2.1);have x3:wdM X.x=1:=(by rw[f];exact bQr.2.2);have X1:=fQ x1;have Q:=fQ x2;have R:=fQ x3;clear q1 P f q4 q5 e0 O x1 x2 x3;go_wp2_with fail;refine(yZ C X _ j.out).mono ?_;rintro e D ⟨rfl,rfl⟩;rw[X1.out];go_wp2_with fail;refine(cJn C X _ j.out).mono ?_;rintro e D ⟨rfl,rfl⟩;rw[Q.out];go_wp2_with fail;refine(aVr C X _ j.out (fun i _=>AK (bZz X.x i) (by rw[R.out];decide)) (by rw[Q.out];decide)).mono ?_;rintro e D ⟨rfl,S⟩;rw[R.out];have R1:=fQ (show SmI C 0 D from⟨X,j.out.below S,RX.out⟩);clear S;go_wp2_with fail;go_loopw [32] (fun v wx=>∃ i:Nat,i<=3/\v = .int .i64 (i:Int)/\Hid (SmI C i wx)) (fun v _=>3 - (intOf v).toNat)
 case atStart=>exact⟨0,by omega,rfl,R1⟩
 case round=>
  obtain⟨i,hi,rfl,I⟩:=hrel;by_cases k:i<3
  ·have t1:decide ((i:Int)<3)=true:=(by simp;omega);obtain⟨Y,y1,y2⟩:=I.out;have l:=fQ y1;have b:=fQ y2;clear y1 y2;have E:=dKh i k;rw[<-b.out]at E;have HO:=fQ E;have m:=fQ k;clear E k;go_wp2_with fail;refine(aVm C Y _ l.out RC.out TT.out (by rw[B.out,b.out];exact bXu i) (fun h=>absurd (by rw[b.out];exact cYg i (by have:=m.out;omega)) h) (by rw[b.out,cYf i (by have:=m.out;omega)];omega)).mono ?_;rintro en w5 ⟨rfl,Z,m1,m2,T⟩;rw[HO.out];have IZ:=fQ (show SmI C (i+1) w5 from⟨Z,m1,by rw[T,B.out,b.out];show jY qZ (stN qZ i _)=stN qZ (i+1) _;rw[aXz];rfl⟩);clear m1 m2 T;go_wp2;exact⟨⟨i+1,by have:=m.out;omega,by simp,IZ⟩,by have:=m.out;simp[intOf];omega⟩
  ·have t1:decide ((i:Int)<3)=false:=(by simp;omega);obtain rfl:i=3:=(by omega);obtain⟨Y,y1,y2⟩:=I.out;have l:=fQ y1;have b:=fQ y2;clear y1 y2 k I;go_wp2_with fail;refine(cYi C Y _ l.out B.out b.out).mono ?_;rintro en c ⟨v,a,g,i6,l6,rfl,o1,o2,o3,o4,o5,F,j1,j2,j3⟩;have U:=fQ (show UR c v [5]from xK o1 (fun x hx=>by rw[List.mem_singleton.1 hx];decide) (by decide));obtain⟨B1,d1,rfl,_⟩:=fJ o1;obtain⟨n,o,rfl,_⟩:=fJ o2;obtain⟨p,q,rfl,_⟩:=fJ o3;obtain⟨r,s,rfl,_⟩:=fJ o4;obtain⟨t,u,rfl,_⟩:=fJ o5;have RB:=fQ (F.trans (((Aw c.heap.size c).alloc (Ak _) (.cells #[.slice n 0 o,.int .i64 0,.slice p 0 q,.int .i64 0,.slice r 0 s,.slice t 0 u] 33)).mono F.size));have G:=fQ (U.out.below ((Aw c.heap.size c).alloc (Ak _) (.cells #[.slice n 0 o,.int .i64 0,.slice p 0 q,.int .i64 0,.slice r 0 s,.slice t 0 u] 33)) (Ak _));have y:=fQ (Blk.new c 33 #[.slice n 0 o,.int .i64 0,.slice p 0 q,.int .i64 0,.slice r 0 s,.slice t 0 u]);have d:=fQ (l.out.below RB.out);have V:Y.x.over=true:=(by rw[b.out,aWh];rfl);have W:(Y.x.steps:Int)=3:=(by rw[b.out,aWh];rfl);have ak:=fQ V;have ao:=fQ W;clear o1 o2 o3 o4 o5 F j1 j2 j3 W V U;go_upto_region 10 with fail;obtain⟨w7,al⟩:=fX (c.alloc (.cells #[.slice n 0 o,.int .i64 0,.slice p 0 q,.int .i64 0,.slice r 0 s,.slice t 0 u] 33))
   try dsimp only[List.length_nil,List.length_cons]
   rw[al]at d G y ⊢;clear al RB;go_wp2_with fail;refine(yZ C Y _ d.out).mono ?_;rintro e w8 ⟨rfl,rfl⟩;rw[ak.out];go_wp2_with fail;refine(bWx C Y _ d.out ak.out).mono ?_;rintro e w8 ⟨rfl,rfl⟩;go_wp2_with fail;refine(aVp C Y _ d.out).mono ?_;rintro e w8 ⟨rfl,rfl⟩;rw[ao.out];go_wp2_with fail;have z:=(Aw w7.heap.size w7).alloc (Ak _) (.cells #[.int .u64 5] 52);have U3:=fQ (G.out.below z (Ak _));have H:=fQ (y.out.below z y.out.lt);have RW:=fQ (d.out.below z);clear z;refine(aQe _ _ [5] [5] _ U3.out (dKj (Blk.new _ _ _) (by decide))).mono ?_;rintro en w9 ⟨rfl,J,rfl⟩;rw[decide_eq_true (rfl:([5]:List Nat) = [5])];obtain⟨k0,k1,k2,k3,k4,k5⟩:=iZ (H.out.drewN J);have yk:=(H.out.drewN J).lt;have RL:=fQ (RW.out.drewN J);clear U3 H RW d y G;go_wp2;go_ret;refine⟨rfl,?_⟩;have h1:=RL.out.bel;rw[E0.out]at h1;exact A.out.trans (h1.mono A.out.size)
theorem aKn(w:Ag):Ai w.heap.size w w.drew:=⟨rfl,rfl,rfl,Ak _,fun _ _=>rfl⟩
theorem cKe(p:RowsD)(v:Ah)(w:Ag)(hv:RowsV w v p):Bj fZ 32 #[v] w (dJl p w):=by
 obtain⟨a,b,d,f,rfl,h1,h2,h3,Z⟩:=hv;have ax:=fQ (show EnvV w (.agg #[a,.int .i64 p.env.imports,b,d,.bool p.env.mem]) p.env from⟨a,b,d,rfl,h1,h2,h3⟩);obtain⟨sA,sc,rfl,_,aT,_⟩:=h1.len;obtain⟨fA,fc,rfl,_,aE,_⟩:=Z.len;have ay:=fQ h1;have az:=fQ Z;have ao:=fQ ((Aw w.heap.size w).alloc (Ak _) (.cells #[.slice sA p.env.sigs.length sc,.int .i64 p.env.imports,b,d,.bool p.env.mem,.slice fA p.fns.length fc] 29));have K0:=fQ (Blk.new w 29 #[.slice sA p.env.sigs.length sc,.int .i64 p.env.imports,b,d,.bool p.env.mem,.slice fA p.fns.length fc]);clear h1 h2 h3 Z;go_in;go_wp2_with fail;refine(aQq _ p.env _ (ax.out.below ao.out (Ak _))).mono ?_;rintro en w1 ⟨rfl,aq⟩;have H:=fQ (ao.out.trans (aq.mono ao.out.size));have KP:=fQ (K0.out.below aq K0.out.lt);clear aq;cases T:envOk p.env
 ·go_wp2_with fail;go_ret;exact⟨false,rfl,⟨fun h=>(by cases h),fun h=>(by have:=h.env;rw[T]at this;cases this)⟩,H.out⟩
 have aF:=mV T;obtain⟨M,hM⟩:∃ M:Nat,p.env.imports=(M:Int):=⟨p.env.imports.toNat,by omega⟩;obtain⟨n,hn⟩:=fX p.fns.length;obtain⟨L,hL⟩:=fX p.env.sigs.length;obtain⟨S,hS⟩:=fX (L - M);have aU:M<=L:=(by omega);have aG:=fQ T;have N:=fQ hM;have U:=fQ hn;have V:=fQ hL;have O:=fQ (show S+M=L by omega);have aH:M<=64:=(by omega);have aI:L<=64:=(by omega);have aJ:S<=64:=(by omega);rw[hn]at aE;have aK:IntKind.i64.wrap ((L:Int) - (M:Int))=(S:Int):=(by rw[show(L:Int) - (M:Int)=(S:Int) by omega];exact IntWalk.i64_in _ (by omega));obtain⟨e0,l,e2,o,q,m⟩:=rX KP.out;rw[hM]at l ⊢;rw[hL]at e0 ay ⊢;rw[hn]at m az ⊢;have y1:=KP.out.lt;have aL:=fQ (show ∀ w',Ai w1.heap.size w1 w'->_/\_/\_/\_/\_/\_ from fun w' t=>⟨(t.cell (p:=⟨w.heap.size,_,none⟩) y1).trans e0,(t.cell (p:=⟨w.heap.size,_,none⟩) y1).trans l,(t.cell (p:=⟨w.heap.size,_,none⟩) y1).trans e2,(t.cell (p:=⟨w.heap.size,_,none⟩) y1).trans o,(t.cell (p:=⟨w.heap.size,_,none⟩) y1).trans q,(t.cell (p:=⟨w.heap.size,_,none⟩) y1).trans m⟩);clear T aF hM hn hL hS;by_cases aM:n=S
 ·subst aM;have q0:((n:Int) != (n:Int))=false:=(by simp);go_wp2_with fail;clear e0 l e2 o q m q0 aK;go_loopw [3] (fun i wr=>∃ k:Nat,k<=n/\i = .int .i64 k/\Hid (LrInv p M w1 k wr)) (fun i _=>n - (intOf i).toNat)
  case atStart=>exact⟨0,by omega,rfl,fQ ⟨Aw _ _,fun j r hj=>by omega⟩⟩
  case round=>
   obtain⟨k,hk,rfl,I⟩:=hrel;obtain⟨e0,l,e2,o,q,m⟩:=aL.out _ I.out.1;by_cases aN:k<n
   ·as_aux_lemma=>
    have t1:decide ((k:Int)<n)=true:=(by simp;omega);have t2:(k:Int)<n:=(by omega);obtain⟨r,hr⟩:∃ r,p.fns[k]? = some r:=⟨_,AX (by rw[U.out];exact aN)⟩;obtain⟨X,hX⟩:=fX (M+k);obtain⟨s,hs⟩:∃ s,p.env.sigs[X]? = some s:=⟨_,AX (by have:=O.out;have:=V.out;omega)⟩;have HR:=fQ hr;have aA:=fQ (show p.env.sigs[M+k]? = some s from hX ▸ hs);have aV:IntKind.i64.wrap ((M:Int)+(k:Int))=(X:Int):=(by rw[show(M:Int)+(k:Int)=(X:Int) by omega];exact IntWalk.i64_in _ (by have:=O.out;omega));have t3:(X:Int)<L:=(by have:=O.out;omega);have F:=H.out.trans (I.out.1.mono H.out.size);have W:=fQ F;obtain⟨P,fo,x0,x1,x3,x4,rfl,J,u,x,y,z,A,i1,i2,i3,i4⟩:=az.out.row hr;obtain⟨sb,so,u0,u1,rfl,ar,B,C,i5,i6⟩:=ay.out.sig hs;have y2:w.heap.size<wr.heap.size:=AW y1 I.out.1.size
    have D:=fQ (show ∀ w',Ai wr.heap.size wr w'->_/\_/\_/\_/\_/\_/\_/\_/\_/\_ from fun w' t=>by
     have hc:=F.trans (t.mono F.size)
     exact⟨(t.cell (p:=⟨w.heap.size,_,none⟩) y2).trans e0,(t.cell (p:=⟨w.heap.size,_,none⟩) y2).trans l,(t.cell (p:=⟨w.heap.size,_,none⟩) y2).trans m,(hc.cell (p:=⟨P,_,none⟩) J).trans u,(hc.cell (p:=⟨P,_,none⟩) J).trans x,(hc.cell (p:=⟨P,_,none⟩) J).trans y,(hc.cell (p:=⟨P,_,none⟩) J).trans z,(hc.cell (p:=⟨P,_,none⟩) J).trans A,(hc.cell (p:=⟨sb,_,none⟩) ar).trans B,(hc.cell (p:=⟨sb,_,none⟩) ar).trans C⟩)
    have E:=fQ (show ∀ w',Ai wr.heap.size wr w'->_/\_/\_ from fun w' t=>⟨(t.cell (p:=⟨w.heap.size,_,none⟩) y2).trans e2,(t.cell (p:=⟨w.heap.size,_,none⟩) y2).trans o,(t.cell (p:=⟨w.heap.size,_,none⟩) y2).trans q⟩);have aO:=fQ (i1.below F (Ak _));have aP:=fQ (i2.below F (Ak _));have aQ:=fQ (i5.below F (Ak _));have aR:=fQ (i6.below F (Ak _));have aS:=fQ ((RowV.of i1 i2 i3 i4).below F (Ak _))
    have au:=fQ (show EnvV wr (.agg #[.slice (some ⟨sb,so,none⟩) L sc,.int .i64 (M:Int),b,d,.bool p.env.mem]) p.env from by
     have:=ax.out.below F (Ak _);rw[N.out,V.out]at this
     exact this)
    clear hr hs hX F i1 i2 i3 i4 i5 i6 J ar u x y z A B C;go_wp2_with fail;clear e0 l e2 o q m;refine mQ (fun w'=>Ai wr.heap.size wr w') (fun _=>True) 7 (by kernel_rfl) (aKn wr) trivial (fun c=>?_);have Y:=fQ (aKn wr);refine gQ (i:=0) (v:=?va0) rfl (by kernel_rfl) (by kernel_rfl) (by kernel_rfl) (fun _ _ _ h=>h) rfl (Or.inl ⟨by rfl,?hya0⟩) c (fun c=>?_)
    case hya0=>intro g e;obtain⟨e0,l,m,u,x,y,z,A,B,C⟩:=D.out _ e;obtain⟨e2,o,q⟩:=E.out _ e;go_simp;(try with_reducible rfl)
    try simp only[Av,Aj,Ax,Az]
    refine gQ (i:=1) (v:=?va1) rfl (by kernel_rfl) (by kernel_rfl) (by kernel_rfl) (fun _ _ _ h=>h) rfl (Or.inl ⟨by rfl,?hya1⟩) c (fun c=>?_)
    case hya1=>intro g e;obtain⟨e0,l,m,u,x,y,z,A,B,C⟩:=D.out _ e;obtain⟨e2,o,q⟩:=E.out _ e;go_simp;(try with_reducible rfl)
    try simp only[Av,Aj,Ax,Az]
    refine gQ (i:=2) (v:=?va2) rfl (by kernel_rfl) (by kernel_rfl) (by kernel_rfl) (fun _ _ _ h=>h) rfl (Or.inl ⟨by rfl,?hya2⟩) c (fun c=>?_)
    case hya2=>intro g e;obtain⟨e0,l,m,u,x,y,z,A,B,C⟩:=D.out _ e;obtain⟨e2,o,q⟩:=E.out _ e;go_simp;(try with_reducible rfl)
    try simp only[Av,Aj,Ax,Az]
    refine gQ (i:=3) (v:=?va3) rfl (by kernel_rfl) (by kernel_rfl) (by kernel_rfl) (fun _ _ _ h=>h) rfl (Or.inl ⟨by rfl,?hya3⟩) c (fun c=>?_)
    case hya3=>intro g e;obtain⟨e0,l,m,u,x,y,z,A,B,C⟩:=D.out _ e;obtain⟨e2,o,q⟩:=E.out _ e;go_simp;(try with_reducible rfl)
    try simp only[Av,Aj,Ax,Az]
    refine gQ (i:=4) (v:=?va4) rfl (by kernel_rfl) (by kernel_rfl) (by kernel_rfl) (fun _ _ _ h=>h) rfl (Or.inl ⟨by rfl,?hya4⟩) c (fun c=>?_)
    case hya4=>intro g e;obtain⟨e0,l,m,u,x,y,z,A,B,C⟩:=D.out _ e;obtain⟨e2,o,q⟩:=E.out _ e;go_simp;(try with_reducible rfl)
    try simp only[Av,Aj,Ax,Az]
    refine gQ (i:=5) (v:=?va5) rfl (by kernel_rfl) (by kernel_rfl) (by kernel_rfl) (fun _ _ _ h=>h) rfl (Or.inl ⟨by rfl,?hya5⟩) c (fun c=>?_)
    case hya5=>intro g e;obtain⟨e0,l,m,u,x,y,z,A,B,C⟩:=D.out _ e;obtain⟨e2,o,q⟩:=E.out _ e;go_simp;(try with_reducible rfl)
    try simp only[Av,Aj,Ax,Az]
    refine gQ (i:=6) (v:=?va6) rfl (by kernel_rfl) (by kernel_rfl) (by kernel_rfl) (fun _ _ _ h=>h) rfl (Or.inl ⟨by rfl,?hya6⟩) c (fun c=>?_)
    case hya6=>intro g e;obtain⟨e0,l,m,u,x,y,z,A,B,C⟩:=D.out _ e;obtain⟨e2,o,q⟩:=E.out _ e;go_simp;(try with_reducible rfl)
    try simp only[Av,Aj,Ax,Az]
    refine gY (i:=7) (by kernel_rfl) rfl (fun K Q=>?_);go_simp;refine(cZv p.env r _ _ _ (au.out.below Y.out (Ak _)) (aS.out.below Y.out (Ak _))).mono ?_;rintro en w2 ⟨bb,rfl,aB,R⟩;have G:=fQ (Y.out.trans (R.mono Y.out.size));have aC:=fQ aB;clear R aB;refine Q.out _ _ ⟨G.out,fun _=>trivial⟩ (fun c=>?_);clear Q K
    try simp only[Av,Aj,Ax,Az]
    cases bb
    ·as_aux_lemma=>
     refine gQ (i:=8) (v:=?vb8) rfl (by kernel_rfl) (by kernel_rfl) (by kernel_rfl) (fun _ _ _ h=>h) rfl (Or.inl ⟨by rfl,?hyb8⟩) c (fun c=>?_)
     case hyb8=>intro g e;go_simp;(try with_reducible rfl)
     try simp only[Av,Aj,Ax,Az]
     refine gQ (i:=9) (v:=?vb9) rfl (by kernel_rfl) (by kernel_rfl) (by kernel_rfl) (fun _ _ _ h=>h) rfl (Or.inl ⟨by rfl,?hyb9⟩) c (fun c=>?_)
     case hyb9=>intro g e;go_simp;(try with_reducible rfl)
     try simp only[Av,Aj,Ax,Az]
     refine gQ (i:=10) (v:=undef) rfl (by kernel_rfl) (by kernel_rfl) (by kernel_rfl) (fun _ _ _ h=>h) rfl (Or.inr ⟨by rfl,rfl⟩) c (fun c=>?_)
     try simp only[Av,Aj,Ax,Az]
     refine gQ (i:=11) (v:=undef) rfl (by kernel_rfl) (by kernel_rfl) (by kernel_rfl) (fun _ _ _ h=>h) rfl (Or.inr ⟨by rfl,rfl⟩) c (fun c=>?_)
     try simp only[Av,Aj,Ax,Az]
     refine gQ (i:=12) (v:=undef) rfl (by kernel_rfl) (by kernel_rfl) (by kernel_rfl) (fun _ _ _ h=>h) rfl (Or.inr ⟨by rfl,rfl⟩) c (fun c=>?_)
     try simp only[Av,Aj,Ax,Az]
     refine gQ (i:=13) (v:=undef) rfl (by kernel_rfl) (by kernel_rfl) (by kernel_rfl) (fun _ _ _ h=>h) rfl (Or.inr ⟨by rfl,rfl⟩) c (fun c=>?_)
     try simp only[Av,Aj,Ax,Az]
     refine gQ (i:=14) (v:=undef) rfl (by kernel_rfl) (by kernel_rfl) (by kernel_rfl) (fun _ _ _ h=>h) rfl (Or.inr ⟨by rfl,rfl⟩) c (fun c=>?_)
     try simp only[Av,Aj,Ax,Az]
     refine gQ (i:=15) (v:=undef) rfl (by kernel_rfl) (by kernel_rfl) (by kernel_rfl) (fun _ _ _ h=>h) rfl (Or.inr ⟨by rfl,rfl⟩) c (fun c=>?_)
     try simp only[Av,Aj,Ax,Az]
     refine gQ (i:=16) (v:=undef) rfl (by kernel_rfl) (by kernel_rfl) (by kernel_rfl) (fun _ _ _ h=>h) rfl (Or.inr ⟨by rfl,rfl⟩) c (fun c=>?_)
     try simp only[Av,Aj,Ax,Az]
     refine gQ (i:=17) (v:=undef) rfl (by kernel_rfl) (by kernel_rfl) (by kernel_rfl) (fun _ _ _ h=>h) rfl (Or.inr ⟨by rfl,rfl⟩) c (fun c=>?_)
     try simp only[Av,Aj,Ax,Az]
     refine gQ (i:=18) (v:=undef) rfl (by kernel_rfl) (by kernel_rfl) (by kernel_rfl) (fun _ _ _ h=>h) rfl (Or.inr ⟨by rfl,rfl⟩) c (fun c=>?_)
     try simp only[Av,Aj,Ax,Az]
     refine gQ (i:=19) (v:=undef) rfl (by kernel_rfl) (by kernel_rfl) (by kernel_rfl) (fun _ _ _ h=>h) rfl (Or.inr ⟨by rfl,rfl⟩) c (fun c=>?_)
     try simp only[Av,Aj,Ax,Az]
     refine gQ (i:=20) (v:=undef) rfl (by kernel_rfl) (by kernel_rfl) (by kernel_rfl) (fun _ _ _ h=>h) rfl (Or.inr ⟨by rfl,rfl⟩) c (fun c=>?_)
     try simp only[Av,Aj,Ax,Az]
     refine gQ (i:=21) (v:=undef) rfl (by kernel_rfl) (by kernel_rfl) (by kernel_rfl) (fun _ _ _ h=>h) rfl (Or.inr ⟨by rfl,rfl⟩) c (fun c=>?_)
     try simp only[Av,Aj,Ax,Az]
     refine gQ (i:=22) (v:=undef) rfl (by kernel_rfl) (by kernel_rfl) (by kernel_rfl) (fun _ _ _ h=>h) rfl (Or.inr ⟨by rfl,rfl⟩) c (fun c=>?_)
     try simp only[Av,Aj,Ax,Az]
     refine gQ (i:=23) (v:=undef) rfl (by kernel_rfl) (by kernel_rfl) (by kernel_rfl) (fun _ _ _ h=>h) rfl (Or.inr ⟨by rfl,rfl⟩) c (fun c=>?_)
     try simp only[Av,Aj,Ax,Az]
     refine gQ (i:=24) (v:=undef) rfl (by kernel_rfl) (by kernel_rfl) (by kernel_rfl) (fun _ _ _ h=>h) rfl (Or.inr ⟨by rfl,rfl⟩) c (fun c=>?_)
     try simp only[Av,Aj,Ax,Az]
     refine gQ (i:=25) (v:=undef) rfl (by kernel_rfl) (by kernel_rfl) (by kernel_rfl) (fun _ _ _ h=>h) rfl (Or.inr ⟨by rfl,rfl⟩) c (fun c=>?_)
     try simp only[Av,Aj,Ax,Az]
     refine gQ (i:=26) (v:=undef) rfl (by kernel_rfl) (by kernel_rfl) (by kernel_rfl) (fun _ _ _ h=>h) rfl (Or.inr ⟨by rfl,rfl⟩) c (fun c=>?_)
     try simp only[Av,Aj,Ax,Az]
     refine gQ (i:=27) (v:=undef) rfl (by kernel_rfl) (by kernel_rfl) (by kernel_rfl) (fun _ _ _ h=>h) rfl (Or.inr ⟨by rfl,rfl⟩) c (fun c=>?_)
     try simp only[Av,Aj,Ax,Az]
     refine gQ (i:=28) (v:=?vb28) rfl (by kernel_rfl) (by kernel_rfl) (by kernel_rfl) (fun _ _ _ h=>h) rfl (Or.inl ⟨by rfl,?hyb28⟩) c (fun c=>?_)
     case hyb28=>intro g e;go_simp;(try with_reducible rfl)
     try simp only[Av,Aj,Ax,Az]
     refine kW (by kernel_rfl) ?_ _;go_wp2_with fail;go_ret;refine⟨false,rfl,⟨fun h=>(by cases h),fun h=>?_⟩,W.out.trans (G.out.mono W.out.size)⟩;exact aC.out.2 (h.row k r HR.out).1
    ·as_aux_lemma=>
     refine gQ (i:=8) (v:=?vc8) rfl (by kernel_rfl) (by kernel_rfl) (by kernel_rfl) (fun _ _ _ h=>h) rfl (Or.inl ⟨by rfl,?hyc8⟩) c (fun c=>?_)
     case hyc8=>intro g e;go_simp;(try with_reducible rfl)
     try simp only[Av,Aj,Ax,Az]
     refine gQ (i:=9) (v:=?vc9) rfl (by kernel_rfl) (by kernel_rfl) (by kernel_rfl) (fun _ _ _ h=>h) rfl (Or.inl ⟨by rfl,?hyc9⟩) c (fun c=>?_)
     case hyc9=>intro g e;go_simp;(try with_reducible rfl)
     try simp only[Av,Aj,Ax,Az]
     refine gQ (i:=10) (v:=?vc10) rfl (by kernel_rfl) (by kernel_rfl) (by kernel_rfl) (fun _ _ _ h=>h) rfl (Or.inl ⟨by rfl,?hyc10⟩) c (fun c=>?_)
     case hyc10=>intro g e;go_simp;(try with_reducible rfl)
     try simp only[Av,Aj,Ax,Az]
     refine gQ (i:=11) (v:=?vc11) rfl (by kernel_rfl) (by kernel_rfl) (by kernel_rfl) (fun _ _ _ h=>h) rfl (Or.inl ⟨by rfl,?hyc11⟩) c (fun c=>?_)
     case hyc11=>intro g e;obtain⟨e0,l,m,u,x,y,z,A,B,C⟩:=D.out _ e;obtain⟨e2,o,q⟩:=E.out _ e;go_simp;(try with_reducible rfl)
     try simp only[Av,Aj,Ax,Az]
     refine gQ (i:=12) (v:=?vc12) rfl (by kernel_rfl) (by kernel_rfl) (by kernel_rfl) (fun _ _ _ h=>h) rfl (Or.inl ⟨by rfl,?hyc12⟩) c (fun c=>?_)
     case hyc12=>intro g e;go_simp;(try with_reducible rfl)
     try simp only[Av,Aj,Ax,Az]
     refine gQ (i:=13) (v:=?vc13) rfl (by kernel_rfl) (by kernel_rfl) (by kernel_rfl) (fun _ _ _ h=>h) rfl (Or.inl ⟨by rfl,?hyc13⟩) c (fun c=>?_)
     case hyc13=>intro g e;go_simp;(try with_reducible rfl)
     try simp only[Av,Aj,Ax,Az]
     refine gQ (i:=14) (v:=?vc14) rfl (by kernel_rfl) (by kernel_rfl) (by kernel_rfl) (fun _ _ _ h=>h) rfl (Or.inl ⟨by rfl,?hyc14⟩) c (fun c=>?_)
     case hyc14=>intro g e;go_simp;(try with_reducible rfl)
     try simp only[Av,Aj,Ax,Az]
     refine gQ (i:=15) (v:=?vc15) rfl (by kernel_rfl) (by kernel_rfl) (by kernel_rfl) (fun _ _ _ h=>h) rfl (Or.inl ⟨by rfl,?hyc15⟩) c (fun c=>?_)
     case hyc15=>intro g e;obtain⟨e0,l,m,u,x,y,z,A,B,C⟩:=D.out _ e;obtain⟨e2,o,q⟩:=E.out _ e;go_simp;(try with_reducible rfl)
     try simp only[Av,Aj,Ax,Az]
     refine gQ (i:=16) (v:=?vc16) rfl (by kernel_rfl) (by kernel_rfl) (by kernel_rfl) (fun _ _ _ h=>h) rfl (Or.inl ⟨by rfl,?hyc16⟩) c (fun c=>?_)
     case hyc16=>intro g e;go_simp;(try with_reducible rfl)
     try simp only[Av,Aj,Ax,Az]
     refine gQ (i:=17) (v:=?vc17) rfl (by kernel_rfl) (by kernel_rfl) (by kernel_rfl) (fun _ _ _ h=>h) rfl (Or.inl ⟨by rfl,?hyc17⟩) c (fun c=>?_)
     case hyc17=>intro g e;go_simp;(try with_reducible rfl)
     try simp only[Av,Aj,Ax,Az]
     refine gQ (i:=18) (v:=?vc18) rfl (by kernel_rfl) (by kernel_rfl) (by kernel_rfl) (fun _ _ _ h=>h) rfl (Or.inl ⟨by rfl,?hyc18⟩) c (fun c=>?_)
     case hyc18=>intro g e;obtain⟨e0,l,m,u,x,y,z,A,B,C⟩:=D.out _ e;obtain⟨e2,o,q⟩:=E.out _ e;go_simp;(try with_reducible rfl)
     try simp only[Av,Aj,Ax,Az]
     refine gQ (i:=19) (v:=?vc19) rfl (by kernel_rfl) (by kernel_rfl) (by kernel_rfl) (fun _ _ _ h=>h) rfl (Or.inl ⟨by rfl,?hyc19⟩) c (fun c=>?_)
     case hyc19=>intro g e;go_simp;(try with_reducible rfl)
     try simp only[Av,Aj,Ax,Az]
     refine gQ (i:=20) (v:=?vc20) rfl (by kernel_rfl) (by kernel_rfl) (by kernel_rfl) (fun _ _ _ h=>h) rfl (Or.inl ⟨by rfl,?hyc20⟩) c (fun c=>?_)
     case hyc20=>intro g e;go_simp;(try with_reducible rfl)
     try simp only[Av,Aj,Ax,Az]
     refine gQ (i:=21) (v:=?vc21) rfl (by kernel_rfl) (by kernel_rfl) (by kernel_rfl) (fun _ _ _ h=>h) rfl (Or.inl ⟨by rfl,?hyc21⟩) c (fun c=>?_)
     case hyc21=>intro g e;obtain⟨e0,l,m,u,x,y,z,A,B,C⟩:=D.out _ e;obtain⟨e2,o,q⟩:=E.out _ e;go_simp;(try with_reducible rfl)
     try simp only[Av,Aj,Ax,Az]
     refine gQ (i:=22) (v:=?vc22) rfl (by kernel_rfl) (by kernel_rfl) (by kernel_rfl) (fun _ _ _ h=>h) rfl (Or.inl ⟨by rfl,?hyc22⟩) c (fun c=>?_)
     case hyc22=>intro g e;go_simp;(try with_reducible rfl)
     try simp only[Av,Aj,Ax,Az]
     refine gQ (i:=23) (v:=?vc23) rfl (by kernel_rfl) (by kernel_rfl) (by kernel_rfl) (fun _ _ _ h=>h) rfl (Or.inl ⟨by rfl,?hyc23⟩) c (fun c=>?_)
     case hyc23=>intro g e;go_simp;(try with_reducible rfl)
     try simp only[Av,Aj,Ax,Az]
     refine gQ (i:=24) (v:=?vc24) rfl (by kernel_rfl) (by kernel_rfl) (by kernel_rfl) (fun _ _ _ h=>h) rfl (Or.inl ⟨by rfl,?hyc24⟩) c (fun c=>?_)
     case hyc24=>intro g e;go_simp;(try with_reducible rfl)
     try simp only[Av,Aj,Ax,Az]
     refine gQ (i:=25) (v:=?vc25) rfl (by kernel_rfl) (by kernel_rfl) (by kernel_rfl) (fun _ _ _ h=>h) rfl (Or.inl ⟨by rfl,?hyc25⟩) c (fun c=>?_)
     case hyc25=>intro g e;obtain⟨e0,l,m,u,x,y,z,A,B,C⟩:=D.out _ e;obtain⟨e2,o,q⟩:=E.out _ e;go_simp;(try with_reducible rfl)
     try simp only[Av,Aj,Ax,Az]
     refine gY (i:=26) (by kernel_rfl) rfl (fun K Q=>?_);go_simp;refine(cXg _ _ _ _ r.sig s _ (aO.out.below G.out (Ak _)) (aP.out.below G.out (Ak _)) (aQ.out.below G.out (Ak _)) (aR.out.below G.out (Ak _))).mono ?_;rintro en w3 ⟨rfl,R⟩;have aw:=fQ (G.out.trans (R.mono G.out.size));clear R;refine Q.out _ _ ⟨aw.out,fun _=>trivial⟩ (fun c=>?_);clear Q K
     try simp only[Av,Aj,Ax,Az]
     cases hq:bZm r.sig s
     ·as_aux_lemma=>
      refine gQ (i:=27) (v:=?vd027) rfl (by kernel_rfl) (by kernel_rfl) (by kernel_rfl) (fun _ _ _ h=>h) rfl (Or.inl ⟨by rfl,?hyd027⟩) c (fun c=>?_)
      case hyd027=>intro g e;go_simp;(try with_reducible rfl)
      try simp only[Av,Aj,Ax,Az]
      refine gQ (i:=28) (v:=?vd028) rfl (by kernel_rfl) (by kernel_rfl) (by kernel_rfl) (fun _ _ _ h=>h) rfl (Or.inl ⟨by rfl,?hyd028⟩) c (fun c=>?_)
      case hyd028=>intro g e;go_simp;(try with_reducible rfl)
      try simp only[Av,Aj,Ax,Az]
      refine kW (by kernel_rfl) ?_ _;go_wp2_with fail;go_ret;refine⟨false,rfl,⟨fun h=>(by cases h),fun h=>?_⟩,W.out.trans (aw.out.mono W.out.size)⟩;have h1:=(h.row k r HR.out).2;rw[show p.env.imports.toNat=M by rw[N.out];rfl,aA.out]at h1;injection h1 with h1;rw[bVc.2 h1.symm]at hq;cases hq
     ·as_aux_lemma=>
      refine gQ (i:=27) (v:=?vd127) rfl (by kernel_rfl) (by kernel_rfl) (by kernel_rfl) (fun _ _ _ h=>h) rfl (Or.inl ⟨by rfl,?hyd127⟩) c (fun c=>?_)
      case hyd127=>intro g e;go_simp;(try with_reducible rfl)
      try simp only[Av,Aj,Ax,Az]
      refine gQ (i:=28) (v:=?vd128) rfl (by kernel_rfl) (by kernel_rfl) (by kernel_rfl) (fun _ _ _ h=>h) rfl (Or.inl ⟨by rfl,?hyd128⟩) c (fun c=>?_)
      case hyd128=>intro g e;go_simp;(try with_reducible rfl)
      try simp only[Av,Aj,Ax,Az]
      refine kW (by kernel_rfl) ?_ _;go_wp2_with fail;have aD:=bVc.1 hq
      with_reducible exact⟨⟨k+1,by omega,by simp,fQ (I.out.step HR.out aA.out (by rw[<-aD]) (by rw[<-aD]) (aC.out.1 rfl) aw.out)⟩,by simp[intOf];omega⟩
   ·as_aux_lemma=>
    have t1:decide ((k:Int)<n)=false:=(by simp;omega);go_wp2_with fail;go_ret;refine⟨true,rfl,⟨fun _=>⟨aG.out,?_,fun i r hi=>?_⟩,fun _=>rfl⟩,H.out.trans (I.out.1.mono H.out.size)⟩
    ·have:=N.out;have:=U.out;have:=V.out;have:=O.out;omega
    ·rw[show p.env.imports.toNat=M by rw[N.out];rfl];exact I.out.2 i r (by have:=(List.getElem?_eq_some_iff.1 hi).1;have:=U.out;omega) hi
 ·have q0:((n:Int) != (S:Int))=true:=(by simp;omega);go_wp2_with fail;go_ret;refine⟨false,rfl,⟨fun h=>(by cases h),fun h=>?_⟩,H.out⟩;have:=h.len;have:=N.out;have:=U.out;have:=V.out;have:=O.out;omega
def eZw(p:RowsD)(s:RawS)(n:Int)(l:List Nat)(w:Ag)(en:Ending)(w':Ag):Prop:=∃ e:Int,en = .returned (.int .i64 e)/\Ai w.heap.size w w'/\(¬(ProgP p/\FitP p.env s)->e=6)/\(ProgP p->FitP p.env s->¬cJi p n l->e=1)/\(ProgP p->FitP p.env s->cJi p n l->e=0)
theorem aKk(Q vs va:Ah)(p:RowsD)(s:RawS)(n:Int)(l:List Nat)(w:Ag)(hp:RowsV w Q p)(hs:StV w vs s)(ha:UR w va l):Bj fZ 8 #[Q,vs,.int .i64 n,va] w (eZw p s n l w):=by
 have R:=hp;have S:=hs;have T:=ha;obtain⟨a,b,d,f,rfl,t,U,V,r4⟩:=hp;obtain⟨a1,g1,i1,l1,rfl,W,X,Y,Z⟩:=hs;obtain⟨z,A,rfl⟩:=W.shape;obtain⟨B,C,rfl⟩:=X.shape;obtain⟨D,E,rfl⟩:=Y.shape;obtain⟨F,G,rfl⟩:=Z.shape;obtain⟨j,m,rfl,_,aG,_⟩:=t.len;obtain⟨A9,z9,rfl⟩:=ha.shape;have HE:=fQ (show EnvV w (.agg #[.slice j p.env.sigs.length m,.int .i64 p.env.imports,b,d,.bool p.env.mem]) p.env from⟨_,_,_,rfl,t,U,V⟩);have HP:=fQ R;have HS:=fQ S;have HA:=fQ T;have aH:=fQ t;have H:=fQ (((Aw w.heap.size w).alloc (Ak _) (.cells #[.slice j p.env.sigs.length m,.int .i64 p.env.imports,b,d,.bool p.env.mem,f] 29)).alloc (by first | (simp;done) | (simp;omega)) (.cells #[.slice z s.mem.length A,.int .i64 s.most,.slice B s.globals.length C,.int .i64 s.fuel,.slice D s.input.length E,.slice F s.log.length G] 33));have KP:=fQ ((Blk.new w 29 #[.slice j p.env.sigs.length m,.int .i64 p.env.imports,b,d,.bool p.env.mem,f]).alloc (.cells #[.slice z s.mem.length A,.int .i64 s.most,.slice B s.globals.length C,.int .i64 s.fuel,.slice D s.input.length E,.slice F s.log.length G] 33));have KS:=fQ (Blk.newAt (w.alloc (.cells #[.slice j p.env.sigs.length m,.int .i64 p.env.imports,b,d,.bool p.env.mem,f] 29)) (N:=w.heap.size+1) 33 #[.slice z s.mem.length A,.int .i64 s.most,.slice B s.globals.length C,.int .i64 s.fuel,.slice D s.input.length E,.slice F s.log.length G] (by simp));clear R S T ha t U V r4 W X Y Z;go_in;go_wp2_with fail;refine(cKe p _ _ (HP.out.below H.out (Ak _))).mono ?_;rintro en w4 ⟨bb,rfl,au,u⟩;have I:=fQ au;have v:=fQ (KP.out.below u KP.out.lt);have aw:=fQ (KS.out.below u KS.out.lt);have o:=fQ (H.out.trans (u.mono H.out.size));clear u au
 cases bb with
 | false=>
  go_wp2;go_ret;exact⟨6,rfl,o.out,fun _=>rfl,fun h=>absurd (I.out.2 h) (by decide),fun h=>absurd (I.out.2 h) (by decide)⟩
 | true=>
  have ax:ProgP p:=I.out.1 rfl;have i:=fQ ax;clear ax;obtain⟨p0,p1,p2,p3,p4,p5⟩:=rX v.out;obtain⟨s0,s1,s2,s3,s4,s5⟩:=iZ aw.out;have yP:=v.out.lt;have yS:=aw.out.lt;go_wp2_with fail;refine(dQw _ _ p.env s _ (HE.out.below o.out (Ak _)) (HS.out.below o.out (Ak _)) (aZb i.out.env)).mono ?_;rintro en w5 ⟨b2,rfl,ay,J⟩;have K:=fQ ay;have az:=fQ (v.out.below J v.out.lt);have c:=fQ (o.out.trans (J.mono o.out.size));clear J ay p0 p1 p2 p3 p4 p5 s0 s1 s2 s3 s4 s5 yP yS
  cases b2 with
  | false=>
   go_wp2;go_ret;exact⟨6,rfl,c.out,fun _=>rfl,fun _ h=>absurd (K.out.2 h) (by decide),fun _ h=>absurd (K.out.2 h) (by decide)⟩
  | true=>
   have aA:FitP p.env s:=K.out.1 rfl;have y:=fQ aA;clear aA;obtain⟨p0,p1,p2,p3,p4,p5⟩:=rX az.out;have yP:=az.out.lt;by_cases c1:n<0
   ·have u1:decide (n<0)=true:=(by simp[c1]);have C1:=fQ c1;clear c1;go_wp2;go_ret;exact⟨1,rfl,c.out,fun h=>absurd ⟨i.out,y.out⟩ h,fun _ _ _=>rfl,fun _ _ ⟨k,_,h,_⟩=>(by have:=C1.out;omega)⟩
   have u1:decide (n<0)=false:=(by simp;omega);obtain⟨k,rfl⟩:=Int.eq_ofNat_of_zero_le (show 0<=n by omega);obtain⟨L,M⟩:=fX p.env.sigs.length;have aB:=fQ M;rw[M]at p0;clear M;by_cases O:L<=k
   ·have u2:decide ((L:Int)<=(k:Int))=true:=(by simp;omega);have u3:decide (L<=k)=true:=(by simpa using O);have C2:=fQ O;clear O;go_wp2;go_ret;exact⟨1,rfl,c.out,fun h=>absurd ⟨i.out,y.out⟩ h,fun _ _ _=>rfl,fun _ _ ⟨q,g,h,hg,_⟩=>(by have h1:=(List.getElem?_eq_some_iff.1 hg).1;have h2:=C2.out;have P:=aB.out;omega)⟩
   have u2:decide ((L:Int)<=(k:Int))=false:=(by simp;omega);have u3:decide (L<=k)=false:=(by simp;omega);have c3:(k:Int)<(L:Int):=(by omega);have c4:k<L:=(by omega);obtain⟨g,hg⟩:∃ g,p.env.sigs[k]? = some g:=⟨_,AX (by rw[aB.out];exact c4)⟩;obtain⟨sb,so,sp,sq,e1,x0,x1,x2,x3,x4⟩:=(show Structs 2 SigC w5 (.slice j p.env.sigs.length m) p.env.sigs from aH.out.below c.out (Ak _) (fun r x q=>q.below c.out (Ak _))).sig hg;subst e1;obtain⟨Aq,zq,rfl⟩:=x3.shape;have aI:=(wQ i.out.env hg).1;have aJ:=fQ (show IR w5 (.slice Aq g.inn.length zq) g.inn from x3.ir);have HG:=fQ hg;clear hg x4 x3;go_wp2_with fail;refine(dQu _ _ g.inn l _ aJ.out (HA.out.below c.out (Ak _)) (by omega)).mono ?_;rintro en w6 ⟨b3,rfl,aC,b6⟩;have aD:=fQ aC;have aE:=fQ (c.out.trans (b6.mono c.out.size));clear b6 aC
   cases b3 with
   | false=>
    go_wp2;go_ret;refine⟨1,rfl,aE.out,fun h=>absurd ⟨i.out,y.out⟩ h,fun _ _ _=>rfl,fun _ _ h=>?_⟩;obtain⟨q,g',h1,h2,P⟩:=h;have e:k=q:=(by omega);rw[<-e,HG.out]at h2;injection h2 with h2;rw[<-h2]at P;have:=aD.out.2 P;cases this
   | true=>
    have aF:GivP g.inn l:=aD.out.1 rfl;have aK:=fQ aF;clear aF;go_wp2;go_ret;exact⟨0,rfl,aE.out,fun h=>absurd ⟨i.out,y.out⟩ h,fun _ _ h=>absurd ⟨k,g,rfl,HG.out,aK.out⟩ h,fun _ _ _=>rfl⟩
end Go.Proofs.YtabibkpfgmolkaaGreatDoor

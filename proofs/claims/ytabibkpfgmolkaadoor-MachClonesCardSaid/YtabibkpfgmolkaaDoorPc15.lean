/- Lemmas for the claim, part 15. Conditions: none. -/
import Derived.Test.YtabibkpfgmolkaaDoorPc14
import Derived.Deep.CutBlock
set_option maxRecDepth 100000
set_option maxHeartbeats 16000000
set_option linter.unusedVariables false
set_option linter.unusedSimpArgs false
open Go.Lib renaming hid→cQ
open Go.Proofs.Tryd renaming prog→cZ
open Go.Proofs.Tryd
open Go.RowKit
open Nat renaming le_refl→Aj,zero_le→Ay,add_sub_cancel_left→AZ,le_trans→AK,sub_self→Ac
open List renaming getElem?_append_right→Ax,getElem?_append_left→Az,length_reverse→Av,setIfInBounds_toArray→Aw,set_cons_zero→AJ,set_cons_succ→AQ,getElem?_eq_getElem→AX,take_of_length_le→AV,reverse_cons→AW,not_mem_nil→AY,length_cons→Aa,mem_cons→Ab
open Go.RowKit.Below renaming refl→Ak
open Go renaming World→Ad,Value→Ae
namespace Go.Proofs.YtabibkpfgmolkaaDoor
variable {w:Ad}{l o:List Nat}{k n dc wd g:Nat}{v:Ae}{e2:Int}
def sX(g:Nat):Ae:=.slice (some ⟨g,0,none⟩) 0 0
theorem tZ(h:(sX g).ownBlock=some k):k=g:=by
 injection h with h;exact h.symm
def KaC.first(C:KaC)(fv:Ae)(nb ab:Nat)(av:Ae):KaC:=⟨C.w0,C.a,C.b,C.d,C.f,C.p,C.mm,C.cb,C.gv,fv,nb,ab,av,C.zf,C.of_⟩
theorem bQs{C:KaC}{X:KaS}{c:Ad}(h:KRef C X c)(hn:X.x.first=none)(nb ab k:Nat)(av:Ae)(d:List Nat)(fv:Ae)(r:∃ f ca,fv = .func f #[] ca)(g:Blk c nb 3 #[.int .i64 (k:Int)])(i:Blk c ab 30 #[av])(s:UR c av d)(m:nb≠ab)
  (n:X.lab nb=0/\C.w0.heap.size<=nb) (o:X.lab ab=0/\C.w0.heap.size<=ab) (lv:∀ j,av.ownBlock=some j->X.lab j=0/\C.w0.heap.size<=j/\j<c.heap.size) (p:av.ownBlock≠some nb) (va:av.ownBlock≠some ab) :
  KRef (KaC.first C fv nb ab av) { X with lab:=eK (eK (eK X.lab (sX nb) 9) (sX ab) 9) av 9,x:={ X.x with first:=some (k,d) } } (c.setCell ⟨C.cb,17,none⟩ fv):=by
 have h1:=KRef.cWw h (sX nb) 9 (fun j b=>by rw[tZ b];exact⟨n.1,n.2,g.lt⟩)
 have h2:=KRef.cWw h1 (sX ab) 9 (fun j b=>by
  rw[tZ b];refine⟨?_,o.2,i.lt⟩;show eK X.lab (sX nb) 9 ab=0;rw[hJ (fun e=>m (tZ e).symm)]
  exact o.1)
 have a:=KRef.cWw h2 av 9 (fun j b=>by
  refine⟨?_,(lv j b).2⟩;show eK (eK X.lab (sX nb) 9) (sX ab) 9 j=0;rw[hJ (fun e=>va (by rw[b,tZ e])),hJ (fun e=>p (by rw[b,tZ e]))]
  exact(lv j b).1)
 have t:eK (eK (eK X.lab (sX nb) 9) (sX ab) 9) av 9 nb=9:=by
  rw[hJ p,hJ (fun e=>m (tZ e)),lZ rfl]
 have u:eK (eK (eK X.lab (sX nb) 9) (sX ab) 9) av 9 ab=9:=by
  rw[hJ va,lZ rfl]
 have w:KRest (KaC.first C fv nb ab av) { X with lab:=eK (eK (eK X.lab (sX nb) 9) (sX ab) 9) av 9,x:={ X.x with first:=some (k,d) } } c:=
  { bel:=a.bel,lb:=a.lb,cl:=a.cl,mm:=a.mm,ml:=a.ml,glo:=a.glo,l3:=a.l3,log:=a.log,l4:=a.l4,inp:=a.inp,l5:=a.l5,mem:=a.mem,l6:=a.l6,stk:=by have hs:stCells (KaC.first C fv nb ab av) X.x.st X.ps=stCells C X.x.st X.ps:=by { generalize X.x.st=L;generalize X.ps=P;induction L generalizing P with | nil=>cases P <;> rfl | cons f l y=>cases P with | nil=>rfl | cons v vs=>simp only[stCells,y vs];rfl };have q:=a.stk;rw[<-hs]at q;exact q,l7:=a.l7,out:=a.out,l8:=a.l8,fst:=⟨r,g,i,s,t,u,fun j b=>lZ b⟩,pls:=a.pls }
 exact KRest.cYg w a.cb 17 fv rfl
@[go_sem] theorem run_store_func {P:Program} (w:Ad) (a:Addr) (m:Mode) (fn:Fn) (fi b:Array Ae):(store a (.func fn fi b) m).run P w=stored P w a (.func fn fi b) m:=run_store P w a _ m rfl
theorem cQb(vp vs va:Ae)(p:RowsD)(s:RawS)(n:Int)(l:List Nat)(w:Ad)(hp:RowsV w vp p)(hs:StV w vs s)(ha:UR w va l)(ay:FitP p.env s)(br:ProgP p)(sd:StD)(aP:s=RawS.of sd)(k:Nat)(g:SigD)(hn:n=(k:Int))(hg:p.env.sigs[k]? = some g)(bs:GivP g.inn l)(bt:(k:Int)<p.env.imports):Calls cZ 6 #[vp,vs,.int .i64 n,va] w (aXh p sd k l w):=by
 have bu:=hp;have bw:=hs;have bx:=ha;obtain⟨a,b,d,f,rfl,r1,r2,r3,r4⟩:=hp;obtain⟨a1,g1,i1,l1,rfl,ba,bz,bc,bA⟩:=hs;obtain⟨A1,z1,rfl⟩:=ba.shape;obtain⟨A2,z2,rfl⟩:=bz.shape;obtain⟨A3,z3,rfl⟩:=bc.shape;obtain⟨A4,z4,rfl⟩:=bA.shape;obtain⟨A5,H,rfl,_,bO,_⟩:=r1.len;obtain⟨M,O,rfl⟩:=r2.shape;obtain⟨I,G,rfl,_⟩:=r4.len;obtain⟨A9,z9,rfl⟩:=ha.shape;have he:EnvV w (.agg #[.slice A5 p.env.sigs.length H,.int .i64 p.env.imports,.slice M p.env.globals.length O,d,.bool p.env.mem]) p.env:=⟨_,_,_,rfl,r1,r2,r3⟩;have HE:=cQ he;have HP:=cQ bu;have HS:=cQ bw;have HA:=cQ bx;have bP:=cQ r1;have bQ:=cQ bc.all;have bT:=cQ ba.len.2.2.2.2.2;have bU:=cQ r4;have az:=cQ (((((Ak w.heap.size w).alloc (Aj _) (.cells #[.slice A5 p.env.sigs.length H,.int .i64 p.env.imports,.slice M p.env.globals.length O,d,.bool p.env.mem,.slice I p.fns.length G] 29)).alloc (by first | (simp;done) | (simp;omega)) (.cells #[.slice A1 s.mem.length z1,.int .i64 s.most,.slice A2 s.globals.length z2,.int .i64 s.fuel,.slice A3 s.input.length z3,.slice A4 s.log.length z4] 33)).alloc (by first | (simp;done) | (simp;omega)) (.cells #[.int .i64 n] 3)).alloc (by first | (simp;done) | (simp;omega)) (.cells #[.slice A9 l.length z9] 30));have ak:=cQ ((((Blk.new w 29 #[.slice A5 p.env.sigs.length H,.int .i64 p.env.imports,.slice M p.env.globals.length O,d,.bool p.env.mem,.slice I p.fns.length G]).alloc (.cells #[.slice A1 s.mem.length z1,.int .i64 s.most,.slice A2 s.globals.length z2,.int .i64 s.fuel,.slice A3 s.input.length z3,.slice A4 s.log.length z4] 33)).alloc (.cells #[.int .i64 n] 3)).alloc (.cells #[.slice A9 l.length z9] 30));have al:=cQ (((Blk.newAt (w.alloc (.cells #[.slice A5 p.env.sigs.length H,.int .i64 p.env.imports,.slice M p.env.globals.length O,d,.bool p.env.mem,.slice I p.fns.length G] 29)) (N:=w.heap.size+1) 33 #[.slice A1 s.mem.length z1,.int .i64 s.most,.slice A2 s.globals.length z2,.int .i64 s.fuel,.slice A3 s.input.length z3,.slice A4 s.log.length z4] (by simp)).alloc (.cells #[.int .i64 n] 3)).alloc (.cells #[.slice A9 l.length z9] 30));have an:=cQ ((Blk.newAt ((w.alloc (.cells #[.slice A5 p.env.sigs.length H,.int .i64 p.env.imports,.slice M p.env.globals.length O,d,.bool p.env.mem,.slice I p.fns.length G] 29)).alloc (.cells #[.slice A1 s.mem.length z1,.int .i64 s.most,.slice A2 s.globals.length z2,.int .i64 s.fuel,.slice A3 s.input.length z3,.slice A4 s.log.length z4] 33)) (N:=w.heap.size+2) 3 #[.int .i64 n] (by simp)).alloc (.cells #[.slice A9 l.length z9] 30));have ao:=cQ (Blk.newAt (((w.alloc (.cells #[.slice A5 p.env.sigs.length H,.int .i64 p.env.imports,.slice M p.env.globals.length O,d,.bool p.env.mem,.slice I p.fns.length G] 29)).alloc (.cells #[.slice A1 s.mem.length z1,.int .i64 s.most,.slice A2 s.globals.length z2,.int .i64 s.fuel,.slice A3 s.input.length z3,.slice A4 s.log.length z4] 33)).alloc (.cells #[.int .i64 n] 3)) (N:=w.heap.size+3) 30 #[.slice A9 l.length z9] (by simp));have af:=cQ ay;have bd:=cQ br;have bB:=cQ hn;have bC:=cQ aP;have bD:=cQ bt;clear he bu bw bx ha r1 r2 r3 r4 ba bz bc bA ay br hn aP bt
 go_in;go_upto_region 1 with fail;obtain⟨w4,bE⟩:=cX ((((w.alloc (.cells #[.slice A5 p.env.sigs.length H,.int .i64 p.env.imports,.slice M p.env.globals.length O,d,.bool p.env.mem,.slice I p.fns.length G] 29)).alloc (.cells #[.slice A1 s.mem.length z1,.int .i64 s.most,.slice A2 s.globals.length z2,.int .i64 s.fuel,.slice A3 s.input.length z3,.slice A4 s.log.length z4] 33)).alloc (.cells #[.int .i64 n] 3)).alloc (.cells #[.slice A9 l.length z9] 30));rw[bE]at az ak al an ao ⊢;clear bE;obtain⟨m,p1,p2,v,y,z⟩:=lX ak.out;obtain⟨C,s1,s2,D,E,F⟩:=eX al.out;have R:=an.out.cell 0;have S:=ao.out.cell 0;have T:=ak.out.lt;have yS:=al.out.lt;have U:=an.out.lt;have V:=ao.out.lt;go_wp2_with fail;refine(aJx _ _ p.env s _ (HE.out.below az.out (Aj _)) (HS.out.below az.out (Aj _))).mono ?_;rintro en w5 ⟨bb,rfl,bF,aq⟩;obtain rfl:bb=true:=bF.2 af.out;have be:=cQ (az.out.trans (aq.mono az.out.size));have aA:=cQ (ak.out.below aq ak.out.lt);have aB:=cQ (al.out.below aq al.out.lt);have aC:=cQ (an.out.below aq an.out.lt);have aD:=cQ (ao.out.below aq ao.out.lt);clear aq m p1 p2 v y z C s1 s2 D E F R S T yS U V ak al an ao;clear bF;obtain⟨m,p1,p2,v,y,z⟩:=lX aA.out;obtain⟨C,s1,s2,D,E,F⟩:=eX aB.out;have R:=aC.out.cell 0;have S:=aD.out.cell 0;have T:=aA.out.lt;have yS:=aB.out.lt;have U:=aC.out.lt;have V:=aD.out.lt;go_wp2_with fail;refine(vK p _ _ (HP.out.below be.out (Aj _))).mono ?_;rintro en w6 ⟨b2,rfl,aE,ar⟩;obtain rfl:b2=true:=aE.2 bd.out;have aF:=cQ (be.out.trans (ar.mono be.out.size));have au:=cQ (aA.out.below ar aA.out.lt);have aG:=cQ (aB.out.below ar aB.out.lt);have aH:=cQ (aC.out.below ar aC.out.lt);have aI:=cQ (aD.out.below ar aD.out.lt);clear ar m p1 p2 v y z C s1 s2 D E F R S T yS U V aA aB aC aD;clear aE;obtain⟨m,p1,p2,v,y,z⟩:=lX au.out;obtain⟨C,s1,s2,D,E,F⟩:=eX aG.out;have R:=aH.out.cell 0;have S:=aI.out.cell 0;have T:=au.out.lt;have yS:=aG.out.lt;have U:=aH.out.lt;have V:=aI.out.lt;have hn:=bB.out;clear bB;subst hn;have bG:=cQ (bP.out.below aF.out (Aj _) (fun r x q=>q.below aF.out (Aj _)));obtain⟨L,hL⟩:=cX p.env.sigs.length;have bV:=cQ hL;have ca:k<L:=(by rw[<-hL];exact(List.getElem?_eq_some_iff.1 hg).1);rw[hL]at m bG au;clear hL;have u1:decide ((k:Int)<0)=false:=(by first | (simp;done) | (simp;omega));have u2:decide ((L:Int)<=(k:Int))=false:=(by first | (simp;done) | (simp;omega));have c3:(k:Int)<(L:Int):=(by omega);obtain⟨sb,so,sp,sq,e1,x0,x1,x2,x3,x4⟩:=(show Structs 2 SigC w6 (.slice A5 L H) p.env.sigs from bG.out).sig hg;subst e1;obtain⟨Aq,zq,rfl⟩:=x3.shape;have bW:=(nY bd.out.env hg).1;have bH:=cQ (show IR w6 (.slice Aq g.inn.length zq) g.inn from x3.ir);have bI:=cQ (HA.out.below aF.out (Aj _));have bJ:=cQ bs;have HG:=cQ hg;clear bs hg x4 x3;go_wp2_with fail;go_quiet ((go_at_call 19;exact Calls.quiet_of_same ((aZh (.slice Aq g.inn.length zq) (.slice A9 l.length z9) g.inn l _ (bH.out.below (dV (Ak _ _) _) (Aj _)) (bI.out.below (dV (Ak _ _) _) (Aj _)) (by omega)).mono fun _ _ ⟨bb,h1,h2,h3⟩=>⟨h1.trans (by rw[show bb=true from h2.2 bJ.out]),h3.symm⟩)))
 go_upto_region 5 with fail;obtain⟨w7,bf⟩:=cX (w6.drewN nq);have aw:Below w6.heap.size w6 w7.drew:=(by rw[<-bf];exact(dV (Ak _ _) nq).drew);have ag:=cQ (aF.out.trans (aw.mono aF.out.size));have aQ:=cQ (au.out.below aw au.out.lt);have aR:=cQ (aG.out.below aw aG.out.lt);have bg:=cQ (aH.out.below aw aH.out.lt);have bh:=cQ (aI.out.below aw aI.out.lt);clear aw m p1 p2 v y z C s1 s2 D E F R S T yS U V au aG aH aI;rw[bf];clear bf bH bI;obtain⟨m,p1,p2,v,y,z⟩:=lX aQ.out;obtain⟨C,s1,s2,D,E,F⟩:=eX aR.out;refine iZ (fun w'=>w'.cell? ⟨w.heap.size,0,none⟩=some (.slice (some ⟨sb,so,none⟩) L H)/\w'.cell? ⟨w.heap.size,1,none⟩=some (.int .i64 p.env.imports)/\w'.cell? ⟨w.heap.size,2,none⟩=some (.slice M p.env.globals.length O)/\w'.cell? ⟨w.heap.size,3,none⟩=some (d)/\w'.cell? ⟨w.heap.size,4,none⟩=some (.bool p.env.mem)/\w'.cell? ⟨w.heap.size,5,none⟩=some (.slice I p.fns.length G)/\w'.cell? ⟨w.heap.size+1,0,none⟩=some (.slice A1 s.mem.length z1)/\w'.cell? ⟨w.heap.size+1,1,none⟩=some (.int .i64 s.most)/\w'.cell? ⟨w.heap.size+1,2,none⟩=some (.slice A2 s.globals.length z2)/\w'.cell? ⟨w.heap.size+1,3,none⟩=some (.int .i64 s.fuel)/\w'.cell? ⟨w.heap.size+1,4,none⟩=some (.slice A3 s.input.length z3)/\w'.cell? ⟨w.heap.size+1,5,none⟩=some (.slice A4 s.log.length z4)) (fun _=>True) 6 (by kernel_rfl) ⟨m,p1,p2,v,y,z,C,s1,s2,D,E,F⟩ trivial (fun J=>?_);clear m p1 p2 v y z C s1 s2 D E F;refine wtk 0 J (fun J=>?_);refine wtk 1 J (fun J=>?_);refine dQ (i:=2) (by kernel_rfl) rfl (fun K hK=>?_);go_simp;refine(aZg _ s _ (HS.out.below ag.out (Aj _))).mono ?_;rintro en B ⟨cc,cd,cf,ch,rfl,o1,o2,o3,o4,b8,j1,j2⟩;obtain⟨B1,d1,rfl,_⟩:=cJ o1;obtain⟨B2,d2,rfl,_⟩:=cJ o2;obtain⟨B3,d3,rfl,_⟩:=cJ o3;obtain⟨B4,d4,rfl,_⟩:=cJ o4;have O1:=cQ (eQ o1 ag.out.size);have O2:=cQ (eQ o2 ag.out.size);have O3:=cQ (eQ o3 ag.out.size);have O4:=cQ (eQ o4 ag.out.size);have J1:=cQ j1;have J2:=cQ j2;have bj:=cQ (ag.out.trans (b8.mono ag.out.size));have aS:=cQ (aQ.out.below b8 aQ.out.lt);have aT:=cQ (aR.out.below b8 aR.out.lt);have bk:=cQ (bg.out.below b8 bg.out.lt);have aU:=cQ (bh.out.below b8 bh.out.lt);obtain⟨m,p1,p2,v,y,z⟩:=lX aS.out;obtain⟨C,s1,s2,D,E,F⟩:=eX aT.out;refine hK.out _ _ ⟨⟨m,p1,p2,v,y,z,C,s1,s2,D,E,F⟩,fun _=>trivial⟩ (fun J=>?_);clear hK K o1 o2 o3 o4 b8 j1 j2 m p1 p2 v y z C s1 s2 D E F ag aQ aR bg bh
 try simp only[Act.put,Aw,AJ,AQ]
 refine wtk 3 J (fun J=>?_);refine dQ (i:=4) (by kernel_rfl) rfl (fun K hK=>?_);go_simp;have c:=(Ak B.heap.size B).alloc (Aj _) (.cells #[.slice (some ⟨sb,so,none⟩) L H,.int .i64 p.env.imports,.slice M p.env.globals.length O,d,.bool p.env.mem,.slice I p.fns.length G,.slice B1 s.mem.length d1,.int .i64 s.most,.slice B2 s.globals.length d2,.int .i64 s.fuel,.slice B3 s.input.length d3,.slice B4 s.log.length d4,.slice none 0 0,.slice none 0 0,.int .i64 0,.int .i64 0,.bool false,.nilFunc] 68);have aJ:=cQ (aS.out.below c aS.out.lt);have aK:=cQ (aT.out.below c aT.out.lt);have aV:=cQ (bk.out.below c bk.out.lt);have aW:=cQ (aU.out.below c aU.out.lt);have aX:=cQ (Blk.new B 68 #[.slice (some ⟨sb,so,none⟩) L H,.int .i64 p.env.imports,.slice M p.env.globals.length O,d,.bool p.env.mem,.slice I p.fns.length G,.slice B1 s.mem.length d1,.int .i64 s.most,.slice B2 s.globals.length d2,.int .i64 s.fuel,.slice B3 s.input.length d3,.slice B4 s.log.length d4,.slice none 0 0,.slice none 0 0,.int .i64 0,.int .i64 0,.bool false,.nilFunc]);have R1:=cQ (cK O1.out c (Aj _));have R2:=cQ (cK O2.out c (Aj _));have R3:=cQ (cK O3.out c (Aj _));have R4:=cQ (cK O4.out c (Aj _));have aY:=cQ (bj.out.trans (c.mono bj.out.size));obtain⟨w9,bm⟩:=cX (B.alloc (.cells #[.slice (some ⟨sb,so,none⟩) L H,.int .i64 p.env.imports,.slice M p.env.globals.length O,d,.bool p.env.mem,.slice I p.fns.length G,.slice B1 s.mem.length d1,.int .i64 s.most,.slice B2 s.globals.length d2,.int .i64 s.fuel,.slice B3 s.input.length d3,.slice B4 s.log.length d4,.slice none 0 0,.slice none 0 0,.int .i64 0,.int .i64 0,.bool false,.nilFunc] 68));have bX:w9.heap.size=B.heap.size+1:=(by rw[<-bm];simp);rw[bm]at aJ aK aV aW aX R1 R2 R3 R4 aY ⊢;clear bm c;obtain⟨m,p1,p2,v,y,z⟩:=lX aJ.out;obtain⟨C,s1,s2,D,E,F⟩:=eX aK.out;refine hK.out _ _ ⟨⟨m,p1,p2,v,y,z,C,s1,s2,D,E,F⟩,fun _=>trivial⟩ (fun J=>?_);have zA:=aU.out.lt;clear hK K m p1 p2 v y z C s1 s2 D E F bj aS aT bk aU
 try simp only[Act.put,Aw,AJ,AQ]
 refine wtk 5 J (fun J=>?_);refine dQ (i:=6) (by kernel_rfl) rfl (fun K hK=>?_);go_simp;have c:=(Ak w9.heap.size w9).alloc (Aj _) (.cells #[.pointer (some ⟨B.heap.size,0,none⟩)] 57);have aL:=cQ (aJ.out.below c aJ.out.lt);have bL:=cQ (aK.out.below c aK.out.lt);have aM:=cQ (aV.out.below c aV.out.lt);have ax:=cQ (aW.out.below c aW.out.lt);have aj:=cQ (aX.out.below c aX.out.lt);have bn:=cQ (Blk.new w9 57 #[.pointer (some ⟨B.heap.size,0,none⟩)]);have T1:=cQ (cK R1.out c (Aj _));have T2:=cQ (cK R2.out c (Aj _));have T3:=cQ (cK R3.out c (Aj _));have T4:=cQ (cK R4.out c (Aj _));have aZ:=cQ (aY.out.trans (c.mono aY.out.size));obtain⟨wx,bo⟩:=cX (w9.alloc (.cells #[.pointer (some ⟨B.heap.size,0,none⟩)] 57));have cj:wx.heap.size=w9.heap.size+1:=(by rw[<-bo];simp);rw[bo]at aL bL aM ax aj bn T1 T2 T3 T4 aZ ⊢;clear bo c;obtain⟨m,p1,p2,v,y,z⟩:=lX aL.out;obtain⟨C,s1,s2,D,E,F⟩:=eX bL.out;refine hK.out _ _ ⟨⟨m,p1,p2,v,y,z,C,s1,s2,D,E,F⟩,fun _=>trivial⟩ (fun J=>?_);clear hK K C s1 s2 D E F aY aJ aK aV aW aX R1 R2 R3 R4
 try simp only[Act.put,Aw,AJ,AQ]
 refine wtk 7 J (fun J=>?_);refine iX (by kernel_rfl) ?_ _;clear J;have R:=aM.out.cell 0;have S:=ax.out.cell 0;have f0:=frz ax.out 0;have T:=aL.out.lt;have U:=aM.out.lt;have V:=ax.out.lt;go_wp2_with fail;refine(kQ _ l _ (HA.out.below aZ.out (Aj _))).mono ?_;rintro en bY ⟨vr,rfl,o5,Q⟩;obtain⟨X,Y,rfl,_⟩:=cJ o5;have a6:=cQ (aL.out.below Q aL.out.lt);have a7:=cQ (aM.out.below Q aM.out.lt);have W:=cQ (ax.out.below Q ax.out.lt);have aN:=cQ (aj.out.below Q aj.out.lt);have aO:=cQ (bn.out.below Q bn.out.lt);have U1:=cQ (cK T1.out Q (Aj _));have U2:=cQ (cK T2.out Q (Aj _));have U3:=cQ (cK T3.out Q (Aj _));have U4:=cQ (cK T4.out Q (Aj _));have O5:=cQ o5;have bZ:=cQ (aZ.out.trans (Q.mono aZ.out.size));have zx:=Q.size;clear o5 Q R S f0 T U V m p1 p2 v y z;obtain⟨m,p1,p2,v,y,z⟩:=lX a6.out;have R:=a7.out.cell 0;have S:=W.out.cell 0;have f0:=frz W.out 0;have T:=a6.out.lt;have U:=a7.out.lt;have V:=W.out.lt;go_upto_region 7 with fail;obtain⟨wy,P⟩:=cX (bY.setCell ⟨w.heap.size+1+1+1,0,none⟩ (.slice X l.length Y));have a8:=cQ (show Blk wy B.heap.size 68 _ by rw[<-P];exact aN.out.setCell (p:=⟨w.heap.size+3,0,none⟩) _ (show B.heap.size≠w.heap.size+3 by omega));have bp:=cQ (show Blk wy (B.heap.size+1) 57 _ by rw[<-P,<-bX];exact aO.out.setCell (p:=⟨w.heap.size+3,0,none⟩) _ (show w9.heap.size≠w.heap.size+3 by omega));have V1:=cQ (P ▸ fX (i:=0) (u:=.slice X l.length Y) U1.out W.out (by decide));have V2:=cQ (P ▸ fX (i:=0) (u:=.slice X l.length Y) U2.out W.out (by decide));have V3:=cQ (P ▸ fX (i:=0) (u:=.slice X l.length Y) U3.out W.out (by decide));have V4:=cQ (P ▸ fX (i:=0) (u:=.slice X l.length Y) U4.out W.out (by decide));have V5:=cQ (P ▸ fX (i:=0) (u:=.slice X l.length Y) O5.out W.out (by decide));have b0:=cQ (show Below w.heap.size w wy by rw[<-P];exact bZ.out.setCell (p:=⟨w.heap.size+3,0,none⟩) (show w.heap.size<=w.heap.size+3 by omega) _);have ah:=cQ (show Blk wy (w.heap.size+2) 3 _ by rw[<-P];exact a7.out.setCell (p:=⟨w.heap.size+3,0,none⟩) _ (show w.heap.size+2≠w.heap.size+3 by omega));have bM:=cQ (show Blk wy w.heap.size 29 _ by rw[<-P];exact a6.out.setCell (p:=⟨w.heap.size+3,0,none⟩) _ (show w.heap.size≠w.heap.size+3 by omega));have ai:=cQ (show Blk wy (w.heap.size+3) 30 #[.slice X l.length Y] by rw[<-P];exact dY W.out 0 _);rw[P];clear P R S f0 T U V m p1 p2 v y z a6 a7 W aN aO U1 U2 U3 U4 O5;obtain⟨m,p1,p2,v,y,z⟩:=lX bM.out;have R:=ah.out.cell 0;have S:=ai.out.cell 0;have T:=bM.out.lt;have U:=ah.out.lt;have V:=ai.out.lt;have u7:decide ((k:Int)<p.env.imports)=true:=(by have:=bD.out;simp;omega)
 obtain⟨zf,of_,hz⟩:∃ zf of_,p.fns ≠ []->I=some ⟨zf,of_,none⟩:=by
  cases hf:p.fns with
  | nil=>exact⟨0,0,fun h=>absurd rfl h⟩
  | cons q t=>
   obtain⟨b,o,_,_,_,_,e,_⟩:=(show Structs 5 RowC w (.slice I p.fns.length G) p.fns from bU.out).row (k:=0) (x:=q) (by rw[hf];rfl);exact⟨b,o,fun _=>e⟩
 have HZ:=cQ hz;clear hz;have aP:=bC.out;clear bC;subst aP;have b1:=cQ (aVj (p:=p) (s:=sd) (a:=.slice (some ⟨sb,so,none⟩) L H) (b:=.slice M p.env.globals.length O) (d:=d) (f:=.slice I p.fns.length G) (zf:=zf) (of_:=of_) b0.out a8.out bp.out (by omega) (Nat.le_of_lt (by omega)) V2.out V4.out V3.out V1.out (mW V3.out bQ.out (AK af.out.2.il (by decide))) (aZf V1.out bT.out (by have h1:=af.out.2.le;have h2:=af.out.2.mx;show sd.mem.length<=_;have h3:((RawS.of sd).mem.length:Int)=(sd.mem.length:Int):=rfl;omega)) (fun j Z=>(O2.out.lt j Z).2) (fun j Z=>(O4.out.lt j Z).2) (fun j Z=>(O3.out.lt j Z).2) (fun j Z=>(O1.out.lt j Z).2) J1.out J2.out (aXi O3.out O1.out (by decide)));have bq:=cQ (show KC (KaC.at0 w (.slice (some ⟨sb,so,none⟩) L H) (.slice M p.env.globals.length O) d (.slice I p.fns.length G) p (B.heap.size+1) B.heap.size (.slice B2 (RawS.of sd).globals.length d2) zf of_)from⟨by have h1:=HP.out;rw[bV.out]at h1;exact h1,bd.out,fun b3=>⟨p.fns.length,G,congrArg (fun A=>Value.slice A p.fns.length G) (HZ.out b3)⟩⟩);have b4:=cQ (mW V5.out HA.out.all (AK (Nat.le_of_eq bJ.out.1.symm) (by omega)))
 have b5:=cQ (show oQ B.heap.size (B.heap.size+1) (.slice B2 (RawS.of sd).globals.length d2) (.slice B4 (RawS.of sd).log.length d4) (.slice B3 (RawS.of sd).input.length d3) (.slice B1 (RawS.of sd).mem.length d1) (w.heap.size+1+1)=0 by
  unfold oQ
  rw[if_neg (by omega),if_neg (by omega),if_neg (fV V2.out ah.out (by decide)),if_neg (fV V4.out ah.out (by decide)),if_neg (fV V3.out ah.out (by decide)),if_neg (fV V1.out ah.out (by decide))])
 have b6:=cQ (show oQ B.heap.size (B.heap.size+1) (.slice B2 (RawS.of sd).globals.length d2) (.slice B4 (RawS.of sd).log.length d4) (.slice B3 (RawS.of sd).input.length d3) (.slice B1 (RawS.of sd).mem.length d1) (w.heap.size+1+1+1)=0 by
  unfold oQ
  rw[if_neg (by omega),if_neg (by omega),if_neg (fV V2.out ai.out (by decide)),if_neg (fV V4.out ai.out (by decide)),if_neg (fV V3.out ai.out (by decide)),if_neg (fV V1.out ai.out (by decide))])
 have b7:=cQ (show ∀ j,(Value.slice X l.length Y).ownBlock=some j->oQ B.heap.size (B.heap.size+1) (.slice B2 (RawS.of sd).globals.length d2) (.slice B4 (RawS.of sd).log.length d4) (.slice B3 (RawS.of sd).input.length d3) (.slice B1 (RawS.of sd).mem.length d1) j=0/\w.heap.size<=j/\j<wy.heap.size from fun j Z=>by
  have h5:=V5.out.lt j Z;refine⟨?_,by omega,h5.2⟩;unfold oQ
  rw[if_neg (by omega),if_neg (by omega),if_neg (fun e=>by have:=(O2.out.lt j e).2;omega),if_neg (fun e=>by have:=(O4.out.lt j e).2;omega),if_neg (fun e=>by have:=(O3.out.lt j e).2;omega),if_neg (fun e=>by have:=(O1.out.lt j e).2;omega)])
 have bN:=cQ (bQs b1.out rfl (w.heap.size+1+1) (w.heap.size+1+1+1) k (.slice X l.length Y) l (.func (.func 23) #[] #[.pointer (some ⟨w.heap.size+1+1,0,none⟩),.pointer (some ⟨w.heap.size+1+1+1,0,none⟩)]) ⟨_,_,rfl⟩ ah.out ai.out b4.out (by omega) ⟨b5.out,by show w.heap.size<=_;omega⟩ ⟨b6.out,by show w.heap.size<=_;omega⟩ b7.out (fV V5.out ah.out (by decide)) (fV V5.out ai.out (by decide)));have mc:=bp.out.cell 0;have ym:=bp.out.lt;have yc:=a8.out.lt;have cm:wy.cell? ⟨B.heap.size,17,none⟩=some .nilFunc:=a8.out.cell 17;have f17:=frz a8.out 17;go_wp2;go_ret2;exact⟨_,_,rfl,rfl,rfl,bN.out,⟨bq.out.rows,bq.out.ok,bq.out.adr⟩,by unfold eV;rw[if_pos (show(k:Int)<p.env.imports from bD.out)];rfl,fun _=>rfl,bN.out.bel⟩
theorem aYk(a vs va:Ae)(p:RowsD)(sd:StD)(l:List Nat)(k:Nat)(g:SigD)(w:Ad)(hp:RowsV w a p)(hs:StV w vs (RawS.of sd))(ha:UR w va l)(b:FitP p.env (RawS.of sd))(c:ProgP p)(hg:p.env.sigs[k]? = some g)(d:GivP g.inn l):Calls cZ 6 #[a,vs,.int .i64 (k:Int),va] w (aXh p sd k l w):=by
 by_cases h:(k:Int)<p.env.imports
 ·exact cQb a vs va p _ _ l w hp hs ha b c sd rfl k g rfl hg d h
 ·exact cJq a vs va p _ _ l w hp hs ha b c sd rfl k g rfl hg d h
theorem aKb(C:KaC){w:Ad}{base:Nat}{lab:Nat->Nat}:∀ (st:List FrD) (ps:List Ae),PlsV w base lab st ps->∀ i,i<st.length->∃ (f:FrD) (A:Option Addr) (c:Nat),st.reverse[i]? = some f/\(stCells C st ps)[i*3]? = some (.pointer (some ⟨C.zf,C.of_+f.fi*5,none⟩))/\(stCells C st ps)[i*3+1]? = some (.int .i64 (f.k:Int))/\(stCells C st ps)[i*3+2]? = some (.slice A f.V.length c)
 | [],_,_,i,hi=>by simp at hi
 | _ :: _,[],h,_,_=>h.elim
 | f :: l,v :: vs,h,i,hi=>by
  have a:=nJ C h.2.len;rcases Nat.lt_or_ge i l.length with b | ad
  ·obtain⟨q,A,c,h1,h2,d,g⟩:=aKb C l vs h.2 i b;refine⟨q,A,c,?_,?_,?_,?_⟩
   ·rw[AW,Az (by rw[Av];exact b)];exact h1
   ·show(stCells C l vs++iK C f v)[_]? = _;rw[Az (by omega)];exact h2
   ·show(stCells C l vs++iK C f v)[_]? = _;rw[Az (by omega)];exact d
   ·show(stCells C l vs++iK C f v)[_]? = _;rw[Az (by omega)];exact g
  ·have e:i=l.length:=(by simp at hi;omega);subst e;obtain⟨A,c,hv,_⟩:=cJ h.1.1;refine⟨f,A,c,?_,?_,?_,?_⟩
   ·rw[AW,Ax (by rw[Av];exact Aj _),Av,Ac];rfl
   ·show(stCells C l vs++iK C f v)[_]? = _;rw[<-a,Ax (by omega),Ac];rfl
   ·show(stCells C l vs++iK C f v)[_]? = _;rw[<-a,Ax (by omega),AZ];rfl
   ·show(stCells C l vs++iK C f v)[_]? = _;rw[<-a,Ax (by omega),AZ,hv];rfl
def tK(st:List FrD)(i:Nat):Nat:=((st.reverse.take i).map fun f=>f.V.length).sum
theorem bVl{st:List FrD}{i:Nat}{f:FrD}(h:st.reverse[i]? = some f):tK st (i+1)=tK st i+f.V.length:=by
 unfold tK;rw[List.take_add_one,h];simp
theorem aYm(x:MaD):tK x.st x.st.length=wdM x:=by
 unfold tK wdM;rw[AV (by rw[Av];exact Aj _),List.map_reverse,List.sum_reverse]
theorem bJd(C:KaC)(X:KaS)(w:Ad)(h:KRef C X w)(s:∀ i,i<=X.x.st.length->tK X.x.st i<=1000000000)(hd:X.x.st.length<=16):Calls cZ 10 #[.pointer (some ⟨C.mm,0,none⟩)] w fun e w'=>e = .returned (.int .i64 (wdM X.x:Int))/\Below w.heap.size w w':=by
 obtain⟨A,c,g⟩:=h.cYp;obtain⟨n,hn⟩:=cX X.x.st.length;rw[hn]at g hd;have m0:=h.cWt;have ym:=h.mm.lt;have yb:=h.cb.lt;have an:w.cell? ⟨C.cb,12,none⟩=some (.slice A n c):=(by rw[h.cell 12,<-g];rfl);have H:=cQ h;have a:=cQ hn;have B:=cQ s;have t:=cQ g;have u:=cQ h.pls;have D:=cQ h.stk;clear h g hn s;go_in;go_wp2_with fail;refine(vY C X _ H.out).mono ?_;rintro e w1 ⟨rfl,rfl⟩;go_wp2_with fail;go_loopw [3,16] (fun v i wx=>∃ j:Nat,j<=n/\i = .int .i64 (j:Int)/\v = .int .i64 (tK X.x.st j:Int)/\Hid (Below w.heap.size w wx)) (fun _ i _=>n - (intOf i).toNat)
 case atStart=>exact⟨0,by omega,rfl,rfl,cQ (Ak _ _)⟩
 case round=>
  obtain⟨j,hj,rfl,rfl,b⟩:=hrel;by_cases E:j<n
  ·have F:decide ((j:Int)<n)=true:=(by simp;omega);have t2:(j:Int)<n:=(by omega);obtain⟨f,G,I,h1,h2,y,z⟩:=aKb C X.x.st X.ps u.out j (by rw[a.out];exact E);have d:=D.out;rw[a.out]at d;rcases d.2 with⟨_,e⟩ | ⟨l,cc,cur,e,_,hg,hc,r⟩
   ·exact absurd e (by omega)
   rw[t.out]at e;injection e with e _ _;subst e;rw[t.out]at d;have o:l<w.heap.size:=(Array.getElem?_eq_some_iff.1 hg).1;have hlen:=nJ C u.out.len;rw[a.out]at hlen;have m:∀ q,q<3->wr.cell? ⟨l,j*3+q,none⟩=(stCells C X.x.st X.ps)[j*3+q]?:=fun q hq=>(b.out.cell (p:=⟨l,j*3+q,none⟩) o).trans (d.cellAt (j*3+q) (by omega));have J:=(m 0 (by omega)).trans h2;have d1:=(m 1 (by omega)).trans y;have d2:=(m 2 (by omega)).trans z;rw[Nat.add_zero]at J;have ao:l<wr.heap.size:=Nat.lt_of_lt_of_le o b.out.size;have K:=bVl h1;have L:=B.out (j+1) (by rw[a.out];omega);have aq:IntKind.i64.wrap ((tK X.x.st j:Int)+(f.V.length:Int))=((tK X.x.st (j+1):Nat):Int):=(by rw[show(tK X.x.st j:Int)+(f.V.length:Int)=((tK X.x.st (j+1):Nat):Int) by omega];exact IntWalk.i64_in _ (by omega));have M:=cQ (b.out.alloc b.out.size (.cells #[.pointer (some ⟨C.zf,C.of_+f.fi*5,none⟩),.int .i64 (f.k:Int),.slice G f.V.length I] 77));clear h1 h2 y z d hg hc r o hlen m K L;go_wp2;exact⟨⟨j+1,by omega,by simp,by first | rfl | simp,M⟩,by simp[intOf];omega⟩
  ·have F:decide ((j:Int)<n)=false:=(by simp;omega);obtain rfl:j=n:=(by omega);go_wp2;go_ret;exact⟨by rw[<-aYm,a.out];rfl,b.out⟩
end Go.Proofs.YtabibkpfgmolkaaDoor
namespace Go.Proofs.YtabibkpfgmolkaaDoor
variable {w:Ad}{l o:List Nat}{k n dc wd g:Nat}{v:Ae}{e2:Int}
def wY:RowD:=⟨⟨[],[127]⟩,1,[],[⟨258,0,[],[],[]⟩,⟨256,5,[],[0],[]⟩,⟨276,0,[0],[],[]⟩]⟩
def iQ:RowsD:=⟨⟨[⟨[],[127]⟩],0,[],[],false⟩,[wY]⟩
def zZ:StD:=⟨[],0,[],1,[],[]⟩
theorem aYl{i:Nat}{c:CodeD}(h:wY.code[i]? = some c){x:Int}(a:x∈nextOf c i):x=(i:Int)+1/\i<2:=by
 match i,h with
 | 0,h=>injection h with h;subst h;simp[nextOf]at a;exact⟨a,by omega⟩
 | 1,h=>injection h with h;subst h;simp[nextOf]at a;exact⟨by omega,by omega⟩
 | 2,h=>injection h with h;subst h;simp[nextOf]at a
 | n+3,h=>simp[wY]at h
theorem bQv:CheckP iQ.env wY where
 env:=by decide
 sig:=by decide
 n1:=by decide
 n2:=by decide
 p1:=by decide
 p2:=by decide
 par:=rfl
 pin:=rfl
 pun:=by simp[wY]
 code c hc:=by
  simp only[wY,Ab,AY,or_false]at hc;rcases hc with rfl | rfl | rfl <;> rfl
 first c hc:=by injection hc with hc;subst hc;rfl
 last c hc:=by injection hc with hc;subst hc;decide
 rank:=⟨fun i=>3 - i,fun i c k hc _ a=>by
  obtain⟨h1,h2⟩:=aYl hc a;show 3 - k<3 - i
  omega⟩
theorem xQ:ProgP iQ where
 env:=by decide
 len:=by decide
 row i r h:=by
  match i,h with
  | 0,h=>injection h with h;subst h;exact⟨bQv,rfl⟩
  | n+1,h=>simp[iQ]at h
theorem bVg:∀ (i:Nat) q,iQ.fns[i]? = Option.some q->∀ c∈q.code,c.n<18446744073709551616:=by
 intro i q h c hc
 match i,h with
 | 0,h=>
  injection h with h;subst h;simp only[wY,Ab,AY,or_false]at hc;rcases hc with rfl | rfl | rfl <;> decide
 | n+1,h=>simp[iQ]at h
theorem bJb:StOk iQ.env zZ where
 memB:=fun _ h=>by cases h
 memL:=by decide
 most:=by decide
 glen:=rfl
 g64:=fun _ h=>by cases h
 l64:=fun _ h=>by cases h
 i64:=fun _ h=>by cases h
 ilen:=by decide
 fuel:=by decide
theorem aJz(i:Nat):MOk iQ (stN iQ i (eV iQ 0 [] zZ)):=
 aYi xQ bVg i (aYg (g:=⟨[],[127]⟩) xQ bJb rfl rfl (fun _ h=>by cases h) (by decide))
theorem bQw:FitP iQ.env (RawS.of zZ):=⟨by decide,{ pg:=rfl,le:=by decide,mx:=by decide,no:=fun _=>rfl,gl:=rfl,f0:=by decide,f1:=by decide,il:=by decide,ll:=by decide,ft:=fun k t n h=>by simp[iQ]at h }⟩
theorem cQf(C:KaC)(X:KaS)(w:Ad)(h:KRef C X w)(a:X.x.over=true):Calls cZ 12 #[.pointer (some ⟨C.mm,0,none⟩)] w fun e w'=>e = .returned (.bool false)/\w=w':=by
 have H:=cQ h;have b:=cQ a;clear h a;go_in;go_wp2_with fail;refine(qK C X _ H.out).mono ?_;rintro e w1 ⟨rfl,rfl⟩;rw[b.out];go_wp2;go_ret;exact⟨rfl,rfl⟩
theorem vQ{cs:Array Ae}{l:List Int}(h:Blk w g 3 cs)(a:l.length=n)(e:i64s l=cs.toList)(hn:n<=100):Ints w (.slice (some ⟨g,0,none⟩) n n) l:=by
 subst a;exact⟨_,_,rfl,by rw[e];exact Blk.cWx h (by have:=congrArg List.length e;simpa[i64s]using this.symm),Aj _,(fun e=>by cases e),by omega⟩
def cQg(w:Ad)(en:Ending)(w':Ad):Prop:=∃ v,en = .returned v/\RowsV w' v iQ/\Below w.heap.size w w'
theorem bQx(w:Ad):Calls cZ 27 #[] w (cQg w):=by
 go_in;go_wp2;refine bodyPost_ret (v:=.agg #[.slice (some ⟨w.heap.size+1+1+1+1+1+1+1,0,none⟩) 1 1,.int .i64 0,.slice none 0 0,.slice none 0 0,.bool false,.slice (some ⟨w.heap.size+1+1+1+1+1+1+1+1,0,none⟩) 1 1]) (by simp[results,results27,go_sem]) rfl ⟨_,rfl,⟨_,_,_,_,rfl,?_,Ints.nil _,?_,?_⟩,?_⟩
 ·refine⟨_,_,[[.slice none 0 0,.slice (some ⟨w.heap.size+1,0,none⟩) 1 1]],rfl,by decide,(fun e=>by cases e),by decide,rfl,by simp,?_,Blk.cWx (Blk.alloc (Blk.newAt _ _ _ (by simp)) _) rfl⟩;intro i u x h1 h2
  match i,h1,h2 with
  | 0,h1,h2=>
   injection h1 with h1;injection h2 with h2;subst h1;subst h2;exact⟨_,_,rfl,Ints.nil _,vQ (cs:=#[.int .i64 127]) (Blk.alloc (Blk.alloc (Blk.alloc (Blk.alloc (Blk.alloc (Blk.alloc (Blk.alloc (Blk.newAt _ _ _ (by simp)) _) _) _) _) _) _) _) rfl rfl (by decide)⟩
  | n+1,h1,h2=>simp at h1
 ·exact⟨none,0,rfl,Src.nil _ _,Aj _,fun _=>rfl,by decide⟩
 ·refine⟨_,_,[[.slice none 0 0,.slice (some ⟨w.heap.size+1,0,none⟩) 1 1,.int .i64 1,.slice none 0 0,.slice (some ⟨w.heap.size+1+1+1+1+1,0,none⟩) 3 3]],rfl,by decide,(fun e=>by cases e),by decide,rfl,by simp,?_,Blk.cWx (Blk.newAt _ _ _ (by simp)) rfl⟩;intro i u x h1 h2
  match i,h1,h2 with
  | 0,h1,h2=>
   injection h1 with h1;injection h2 with h2;subst h1;subst h2;refine⟨_,_,_,_,rfl,Ints.nil _,vQ (cs:=#[.int .i64 127]) (Blk.alloc (Blk.alloc (Blk.alloc (Blk.alloc (Blk.alloc (Blk.alloc (Blk.alloc (Blk.newAt _ _ _ (by simp)) _) _) _) _) _) _) _) rfl rfl (by decide),Ints.nil _,?_⟩;refine⟨_,_,[[.int .i64 258,.int .u64 0,.slice none 0 0,.slice none 0 0,.slice none 0 0],[.int .i64 256,.int .u64 5,.slice none 0 0,.slice (some ⟨w.heap.size+1+1+1,0,none⟩) 1 1,.slice none 0 0],[.int .i64 276,.int .u64 0,.slice (some ⟨w.heap.size+1+1+1+1,0,none⟩) 1 1,.slice none 0 0,.slice none 0 0]],rfl,by decide,(fun e=>by cases e),by decide,rfl,by simp,?_,Blk.cWx (Blk.alloc (Blk.alloc (Blk.alloc (Blk.newAt _ _ _ (by simp)) _) _) _) rfl⟩;intro i u x h1 h2
   match i,h1,h2 with
   | 0,h1,h2=>
    injection h1 with h1;injection h2 with h2;subst h1;subst h2;exact⟨_,_,_,rfl,by simp[CodeD.ok],Ints.nil _,Ints.nil _,Ints.nil _⟩
   | 1,h1,h2=>
    injection h1 with h1;injection h2 with h2;subst h1;subst h2;exact⟨_,_,_,rfl,by simp[CodeD.ok],Ints.nil _,vQ (cs:=#[.int .i64 0]) (Blk.alloc (Blk.alloc (Blk.alloc (Blk.alloc (Blk.alloc (Blk.newAt _ _ _ (by simp)) _) _) _) _) _) rfl rfl (by decide),Ints.nil _⟩
   | 2,h1,h2=>
    injection h1 with h1;injection h2 with h2;subst h1;subst h2;exact⟨_,_,_,rfl,by simp[CodeD.ok],vQ (cs:=#[.int .i64 0]) (Blk.alloc (Blk.alloc (Blk.alloc (Blk.alloc (Blk.newAt _ _ _ (by simp)) _) _) _) _) rfl rfl (by decide),Ints.nil _,Ints.nil _⟩
   | n+3,h1,h2=>simp at h1
  | n+1,h1,h2=>simp at h1
 ·exact(((((((((Ak _ _).alloc (Aj _) _).alloc (by simp) _).alloc (by simp;omega) _).alloc (by simp;omega) _).alloc (by simp;omega) _).alloc (by simp;omega) _).alloc (by simp;omega) _).alloc (by simp;omega) _).alloc (by simp;omega) _
def smX(i:Nat):MaD:=stN iQ i (eV iQ 0 [] zZ)
def smE:MaD:=⟨[],⟨[],0,[],0,[],[]⟩,[5],0,3,true,none⟩
theorem aXd:smX 3=smE:=by rfl
theorem bYh:∀ i,i<3->(smX i).over=false
 | 0,_=>rfl
 | 1,_=>rfl
 | 2,_=>rfl
 | n+3,h=>by omega
theorem bKi:∀ i,i<4->(smX i).steps=i
 | 0,_=>rfl
 | 1,_=>rfl
 | 2,_=>rfl
 | 3,_=>rfl
 | n+4,h=>by omega
theorem aZz:(smX 0).over=false/\(smX 0).st.length=1/\wdM (smX 0)=1:=⟨rfl,rfl,rfl⟩
theorem bKj:∀ i,i<4->(smX i).first=none
 | 0,_=>rfl
 | 1,_=>rfl
 | 2,_=>rfl
 | 3,_=>rfl
 | n+4,h=>by omega
theorem aQe(w:Ad):UR w (.slice none 0 0) []:=⟨none,0,rfl,Src.nil _ _,Aj _,fun _=>rfl,⟨Ay _,by omega⟩,fun _ h=>by cases h⟩
theorem bYi(w:Ad):BR w (.slice none 0 0) []:=⟨none,0,rfl,Src.nil _ _,Aj _,fun _=>rfl,⟨Ay _,by omega⟩,fun _ h=>by cases h⟩
theorem bYj{x:Nat}(h:Blk w g 62 #[.int .u64 (x:Int)])(a:x<18446744073709551616):UR w (.slice (some ⟨g,0,none⟩) 1 1) [x]:=
 ⟨_,_,rfl,Blk.cWx h rfl,Aj _,(fun e=>by cases e),⟨by simp,by omega⟩,fun y b=>by rw[List.mem_singleton.1 b];exact a⟩
theorem bKk(a:Ae)(w:Ad)(hp:RowsV w a iQ):Calls cZ 6 #[a,.agg #[.slice none 0 0,.int .i64 0,.slice none 0 0,.int .i64 1,.slice none 0 0,.slice none 0 0],.int .i64 0,.slice none 0 0] w (aXh iQ zZ 0 [] w):=
 aYk a _ _ iQ zZ [] 0 ⟨[],[127]⟩ w hp ⟨_,_,_,_,rfl,bYi w,aQe w,aQe w,aQe w⟩ (aQe w) bQw xQ rfl ⟨rfl,fun k t n h=>by simp at h⟩
theorem bKl(C:KaC)(X:KaS)(w:Ad)(h:KRef C X w)(hp:C.p=iQ)(a:X.x=smX 3):Calls cZ 11 #[.pointer (some ⟨C.mm,0,none⟩)] w (aJy [5] ⟨[],0,[],0,[],[]⟩ 0 w):=by
 have hs:=(aJz 3).st;have h1:StOk C.p.env X.x.s:=(by rw[hp,a];exact hs);rw[aXd]at a;have:=aKu C X w h h1 (by rw[a];decide) (by rw[a];decide);rw[a]at this;exact this
theorem cXs(x:MaD)(i:Nat):tK x.st i<=wdM x:=by
 rw[<-aYm];unfold tK;rw[AV (l:=x.st.reverse) (i:=x.st.length) (by rw[Av];exact Aj _)];have h:=congrArg (fun l:List FrD=>(l.map fun f=>f.V.length).sum) (List.take_append_drop i x.st.reverse);simp only[List.map_append,List.sum_append]at h;omega
def SmI(C:KaC)(i:Nat)(wx:Ad):Prop:=∃ X:KaS,KRef C X wx/\X.x=smX i
theorem yK(w:Ad)(N:Tabs w):Calls cZ 7 #[] w fun en w'=>en = .returned (.bool true)/\Below w.heap.size w w':=by
 have O:=cQ N;clear N;go_in;go_wp2_with fail;refine(bQx _).mono ?_;rintro en w1 ⟨v1,rfl,P,Q⟩;have an:=cQ P;have D:=cQ Q;clear P Q;go_wp2_with fail;refine(bKk _ _ an.out).mono ?_;rintro en w2 ⟨C,X,rfl,E,R,q1,S,f,q4,q5⟩;have E0:=cQ E;have F:=cQ R;have l:=cQ q1;have RC:=cQ S;have RX:=cQ (show X.x=smX 0 from f);have TT:=cQ (show Tabs C.w0 by rw[E];exact O.out.below D.out O.out.2.2);have x1:X.x.over=false:=(by rw[f];exact aZz.1);have x2:X.x.st.length=1:=(by rw[f];exact aZz.2.1);have x3:wdM X.x=1:=(by rw[f];exact aZz.2.2);have X1:=cQ x1;have T:=cQ x2;have U:=cQ x3;clear q1 S f q4 q5 E R x1 x2 x3;go_wp2_with fail;refine(qK C X _ l.out).mono ?_;rintro e G ⟨rfl,rfl⟩;rw[X1.out];go_wp2_with fail;refine(bJc C X _ l.out).mono ?_;rintro e G ⟨rfl,rfl⟩;rw[T.out];go_wp2_with fail;refine(bJd C X _ l.out (fun i _=>AK (cXs X.x i) (by rw[U.out];decide)) (by rw[T.out];decide)).mono ?_;rintro e G ⟨rfl,V⟩;rw[U.out];have R1:=cQ (show SmI C 0 G from⟨X,l.out.below V,RX.out⟩);clear V;go_wp2_with fail;go_loopw [32] (fun v wx=>∃ i:Nat,i<=3/\v = .int .i64 (i:Int)/\Hid (SmI C i wx)) (fun v _=>3 - (intOf v).toNat)
 case atStart=>exact⟨0,by omega,rfl,R1⟩
 case round=>
  obtain⟨i,hi,rfl,I⟩:=hrel;by_cases m:i<3
  ·have t1:decide ((i:Int)<3)=true:=(by simp;omega);obtain⟨Y,j,k⟩:=I.out;have n:=cQ j;have b:=cQ k;clear j k;have H:=bYh i m;rw[<-b.out]at H;have HO:=cQ H;have o:=cQ m;clear H m;go_wp2_with fail;refine(wW C Y _ n.out RC.out TT.out (by rw[F.out,b.out];exact aJz i) (fun h=>absurd (by rw[b.out];exact bKj i (by have:=o.out;omega)) h) (by rw[b.out,bKi i (by have:=o.out;omega)];omega)).mono ?_;rintro en w5 ⟨rfl,Z,m1,m2,W⟩;rw[HO.out];have IZ:=cQ (show SmI C (i+1) w5 from⟨Z,m1,by rw[W,F.out,b.out];show dK iQ (stN iQ i _)=stN iQ (i+1) _;rw[qZ];rfl⟩);clear m1 m2 W;go_wp2;exact⟨⟨i+1,by have:=o.out;omega,by simp,IZ⟩,by have:=o.out;simp[intOf];omega⟩
  ·have t1:decide ((i:Int)<3)=false:=(by simp;omega);obtain rfl:i=3:=(by omega);obtain⟨Y,j,k⟩:=I.out;have n:=cQ j;have b:=cQ k;clear j k m I;go_wp2_with fail;refine(bKl C Y _ n.out F.out b.out).mono ?_;rintro en c ⟨v,a,g,i6,l6,rfl,o1,o2,o3,o4,o5,J,j1,j2,j3⟩;have U1:=cQ (show UR c v [5]from mW o1 (fun x hx=>by rw[List.mem_singleton.1 hx];decide) (by decide));obtain⟨B1,d1,rfl,_⟩:=cJ o1;obtain⟨p,q,rfl,_⟩:=cJ o2;obtain⟨r,s,rfl,_⟩:=cJ o3;obtain⟨t,u,rfl,_⟩:=cJ o4;obtain⟨y,z,rfl,_⟩:=cJ o5;have RB:=cQ (J.trans (((Ak c.heap.size c).alloc (Aj _) (.cells #[.slice p 0 q,.int .i64 0,.slice r 0 s,.int .i64 0,.slice t 0 u,.slice y 0 z] 33)).mono J.size));have K:=cQ (U1.out.below ((Ak c.heap.size c).alloc (Aj _) (.cells #[.slice p 0 q,.int .i64 0,.slice r 0 s,.int .i64 0,.slice t 0 u,.slice y 0 z] 33)) (Aj _));have A:=cQ (Blk.new c 33 #[.slice p 0 q,.int .i64 0,.slice r 0 s,.int .i64 0,.slice t 0 u,.slice y 0 z]);have d:=cQ (n.out.below RB.out);have ai:Y.x.over=true:=(by rw[b.out,aXd];rfl);have aj:(Y.x.steps:Int)=3:=(by rw[b.out,aXd];rfl);have ak:=cQ ai;have ao:=cQ aj;clear o1 o2 o3 o4 o5 J j1 j2 j3 aj ai U1;go_upto_region 10 with fail;obtain⟨w7,al⟩:=cX (c.alloc (.cells #[.slice p 0 q,.int .i64 0,.slice r 0 s,.int .i64 0,.slice t 0 u,.slice y 0 z] 33))
   try dsimp only[List.length_nil,Aa]
   rw[al]at d K A ⊢;clear al RB;go_wp2_with fail;refine(qK C Y _ d.out).mono ?_;rintro e w8 ⟨rfl,rfl⟩;rw[ak.out];go_wp2_with fail;refine(cQf C Y _ d.out ak.out).mono ?_;rintro e w8 ⟨rfl,rfl⟩;go_wp2_with fail;refine(sZ C Y _ d.out).mono ?_;rintro e w8 ⟨rfl,rfl⟩;rw[ao.out];go_wp2_with fail;have B:=(Ak w7.heap.size w7).alloc (Aj _) (.cells #[.int .u64 5] 62);have U3:=cQ (K.out.below B (Aj _));have L:=cQ (A.out.below B A.out.lt);have RW:=cQ (d.out.below B);clear B;refine(rX _ _ [5] [5] _ U3.out (bYj (Blk.new _ _ _) (by decide))).mono ?_;rintro en w9 ⟨rfl,M,rfl⟩;rw[decide_eq_true (rfl:([5]:List Nat) = [5])];obtain⟨k0,k1,k2,k3,k4,k5⟩:=eX (L.out.drewN M);have yk:=(L.out.drewN M).lt;have RL:=cQ (RW.out.drewN M);clear U3 L RW d A K;go_wp2;go_ret;refine⟨rfl,?_⟩;have h1:=RL.out.bel;rw[E0.out]at h1;exact D.out.trans (h1.mono D.out.size)
end Go.Proofs.YtabibkpfgmolkaaDoor
namespace Go.Proofs.YtabibkpfgmolkaaDoor
variable {w:Ad}{l o:List Nat}{k n dc wd g:Nat}{v:Ae}{e2:Int}
theorem aYp{s:SigD}(h:sigOk s=true):s.inn.length<=8/\s.out.length<=8:=by
 unfold sigOk hZ at h;simp only[Bool.and_eq_true,decide_eq_true_eq]at h;exact⟨h.1.1,h.2.1⟩
theorem cJx{base c:Nat}{A:Option Addr}(h:w.ownsRow base 62 1 (.slice A n c) n (u64V l))(d:n<=17592186043904)(f:All64 l):UR w (.slice A n c) l:=by
 have e:l.length=n:=(by have:=h.1;simpa[u64V]using this);subst e;refine⟨A,c,rfl,Src.cYa h,?_⟩;rcases h.2 with⟨h1,h2⟩ | ⟨g,cap,cur,h1,_,_,i,j,_⟩
 ·injection h1 with a e2 b;subst a;subst b;exact⟨by omega,fun _=>rfl,⟨d,by omega⟩,f⟩
 ·injection h1 with a e2 b;subst b;exact⟨i,(fun e=>by rw[e]at a;cases a),⟨d,by unfold maxLen at j;omega⟩,f⟩
theorem bVt:∀ (a:List Int) (l:List Nat),lowL a (lowL a l)=lowL a l
 | [],l=>by cases l <;> rfl
 | t :: a,[]=>rfl
 | t :: a,n :: l=>by
  show jW t (jW t n) :: lowL a (lowL a l)=_;rw[bVt a l]
  congr 1
  unfold jW
  split <;> simp
theorem sJ{base:Nat}(h:w.ownsRow base 62 1 v n (u64V l))(a:n<=17592186043904)(b:All64 l):UR w v l:=by
 obtain⟨A,c,rfl,_⟩:=cJ h;exact cJx h a b
theorem cJs{e:EnvD}{g:SigD}(h:envOk e=true)(hg:e.sigs[n]? = some g):g.inn.length<=8/\g.out.length<=8:=by
 unfold envOk at h;simp only[Bool.and_eq_true,decide_eq_true_eq]at h;have h2:=h.2;have:=List.mem_of_getElem? hg;exact aYp (by first | exact List.all_eq_true.1 h.2.2 g this | exact List.all_eq_true.1 h.2.1 g this | exact List.all_eq_true.1 h.2.1.1 g this | exact List.all_eq_true.1 h.2 g this | exact List.all_eq_true.1 h.2.2.2 g this)
theorem bQy{l:List RowD}(h:Structs 5 RowC w v l){x:RowD}(a:l[k]? = some x):
  ∃ b o p q r s,(∃ c,v = .slice (some ⟨b,o,none⟩) l.length c)/\b<w.heap.size/\w.cell? ⟨b,o+k*5,none⟩=some p/\w.cell? ⟨b,o+k*5+1,none⟩=some q/\w.cell? ⟨b,o+k*5+2,none⟩=some (.int .i64 x.places)/\w.cell? ⟨b,o+k*5+3,none⟩=some r/\w.cell? ⟨b,o+k*5+4,none⟩=some s /\
   Ints w p x.sig.inn/\Ints w q x.sig.out/\Ints w r x.params/\Structs 5 CodeC w s x.code:=by
 obtain⟨A,c,rfl,_⟩:=h.len;obtain⟨b,o,p,q,r,s,rfl,d⟩:=h.row a;exact⟨b,o,p,q,r,s,⟨c,rfl⟩,d⟩
theorem aXp:∀ (a:List Int) (l:List Nat),(lowL a l).length<=l.length
 | [],l=>by cases l <;> exact Ay _
 | t :: a,[]=>Ay _
 | t :: a,x :: l=>by simp only[lowL,Aa];have:=aXp a l;omega
theorem bJg{p:RowsD}{lost d:Nat}{r:RowD}{V:List Nat}{s:StD}{R:ResD}(h:Ev p lost d r k V s R)(a:R.e≠0):R.out = []:=by
 induction h with
 | ret hc ha=>exact absurd rfl a
 | trap hc ha=>rfl
 | go hc ha hn b=>exact b a
 | vals hc ha hn b=>exact b a
 | call hc ha hd hq hg h1 he h2 ih1 ih2=>exact ih2 a
 | callT hc ha hd hq hg h1 he ih1=>rfl
 | deep hc ha hd=>rfl
def aYs(p:RowsD)(n:Int)(args:List Nat):Prop:=0<=n/\n<p.env.sigs.length/\∀ g,p.env.sigs[n.toNat]? = some g->GivP g.inn args
def stD(s:RawS):StD:=⟨s.mem,s.most,s.globals,s.fuel.toNat,s.input,s.log⟩
theorem cJz{ks:List Int}{m:Bool}{s:RawS}(h:HoldsP ks m s):RawS.of (stD s)=s:=by
 have:=h.f0;show RawS.mk s.mem s.most s.globals ((s.fuel.toNat:Nat):Int) s.input s.log=s;rw[Int.toNat_of_nonneg this]
theorem cKa{e:EnvD}{s:RawS}(h:HoldsP e.globals e.mem s)(h1:AllB s.mem)(h2:All64 s.globals)(a:All64 s.input)(b:All64 s.log):StOk e (stD s):=
 ⟨h1,h.le,h.mx,h.gl,h2,b,a,(by show s.input.length<=_;have:=h.il;omega),(by show s.fuel.toNat<=_;have:=h.f1;omega)⟩
theorem cKb{p:RowsD}(h:Structs 5 RowC w v p.fns):∀ (i:Nat) q,p.fns[i]? = Option.some q->∀ c∈q.code,c.n<18446744073709551616:=by
 intro i q hq c hc;obtain⟨b,o,p',q',r,s,_,_,_,_,_,_,_,_,_,_,a⟩:=bQy h hq;obtain⟨j,d⟩:=List.mem_iff_getElem?.1 hc;obtain⟨A,c',rfl,_⟩:=a.len;obtain⟨_,_,_,_,_,_,_,_,_,_,_,_,e,_⟩:=a.code d;exact e.1
theorem bVw{p:RowsD}(hp:ProgP p)(lost n:Nat){g:SigD}(a:List Nat)(s:StD)(hg:p.env.sigs[n]? = some g):∃ s2 e2 dc wd l,CDid p lost 0 n g a s s2 e2 dc wd l:=by
 by_cases hi:(n:Int)<p.env.imports
 ·exact⟨_,_,_,_,_,.host hi⟩
 ·have h1:=(List.getElem?_eq_some_iff.1 hg).1;have h2:=kX hp.env;have h3:=hp.len;obtain⟨q,hq⟩:∃ q,p.fns[n - p.env.imports.toNat]? = Option.some q:=⟨_,AX (by omega)⟩;have hc:=(hp.row _ q hq).1;obtain⟨R,b⟩:=Ev.some hp lost hc (0+1) 0 (initV q (lowL g.inn a)) s (by have:=hc.n1;omega);exact⟨_,_,_,_,_,.call hi (by omega) hq b⟩
theorem bXa{p:RowsD}(hp:ProgP p){lost d:Nat}{g:SigD}{a:List Nat}{s s2:StD}(h:CDid p lost d n g a s s2 e2 dc wd l)(ha:a.length<=8):dc<=4098*s.fuel+1/\s2.log.length<=s.log.length+9*(dc+1)/\l.length<=s.input.length+8:=by
 cases h with
 | host hi=>
  have c:(lowL g.inn a).length<=8:=AK (aXp _ _) ha;have h1:=aXo (n:=n) (outs:=g.out) (s:=s) c;refine⟨by omega,by omega,?_⟩;unfold hostV
  split
  ·rename_i h2;show(lowL g.out (s.input.take g.out.length)).length<=_;have:=aXp g.out (s.input.take g.out.length);rw[List.length_take]at this;omega
  ·exact Ay _
 | deep hi hd=>exact⟨by omega,by omega,Ay _⟩
 | @call q R hi hd hq h1=>
  have hc:=(hp.row _ q hq).1;refine⟨h1.dQj hp hc,?_,?_⟩
  ·have:=h1.log hp hc;omega
  ·by_cases b:R.e=0
   ·have h2:=h1.dQk hc b;have h3:=(aYp hc.sig).2;omega
   ·rw[bJg h1 b];exact Ay _
theorem cZl{s:RawS}(h:StV w v s):AllB s.mem/\All64 s.globals/\All64 s.input/\All64 s.log:=by
 obtain⟨a,g,i,l,_,⟨_,_,_,_,_,_,_,h1⟩,⟨_,_,_,_,_,_,_,h2⟩,⟨_,_,_,_,_,_,_,b⟩,⟨_,_,_,_,_,_,_,c⟩⟩:=h;exact⟨h1,h2,b,c⟩
end Go.Proofs.YtabibkpfgmolkaaDoor
namespace Go.Proofs.YtabibkpfgmolkaaDoor
variable {w:Ad}{l o:List Nat}{k n dc wd g:Nat}{v:Ae}{e2:Int}
theorem bXn{p:RowsD}{n:Int}:aYs p n l↔cJp p n l:=by
 constructor
 ·rintro⟨h1,h2,b⟩;obtain⟨k,rfl⟩:=Int.eq_ofNat_of_zero_le h1;have a:p.env.sigs[k]? = some (p.env.sigs[k]'(by omega)):=AX (by omega);exact⟨k,_,rfl,a,b _ a⟩
 ·rintro⟨k,g,rfl,hg,hv⟩;refine⟨by omega,by have:=(List.getElem?_eq_some_iff.1 hg).1;omega,fun c d=>?_⟩;have h1:p.env.sigs[k]? = some c:=d;rw[hg]at h1;cases h1;exact hv
theorem cQe{sd:StD}{s:RawS}(h:RawS.of sd=s):sd=stD s:=by
 subst h;cases sd;simp[stD,RawS.of]
structure GoodD (p:RowsD) (s:RawS) (k:Nat) (l:List Nat) (sd:StD) (g:SigD) (s2:StD) (e2:Int) (dc wd:Nat) (o:List Nat):Prop where
 hp:ProgP p
 hf:FitP p.env s
 hs:RawS.of sd=s
 hg:p.env.sigs[k]? = some g
 hv:GivP g.inn l
 hd:CDid p 8 0 k g l sd s2 e2 dc wd o
theorem GoodD.of{p:RowsD}{s:RawS}{n:Int}(hp:ProgP p)(hf:FitP p.env s)(ha:aYs p n l):∃ (k:Nat) (g:SigD) (s2:StD) (e2:Int) (dc wd:Nat) (o:List Nat),n=(k:Int)/\GoodD p s k l (stD s) g s2 e2 dc wd o:=by
 obtain⟨k,g,hn,hg,hv⟩:=bXn.1 ha;obtain⟨s2,e2,dc,wd,o,hd⟩:=bVw hp 8 k l (stD s) hg;exact⟨k,g,s2,e2,dc,wd,o,hn,hp,hf,cJz hf.2,hg,hv,hd⟩
theorem GoodD.bounds{p:RowsD}{s:RawS}{sd:StD}{g:SigD}{s2:StD}(h:GoodD p s k l sd g s2 e2 dc wd o):gX p k dc<=4196353:=by
 have h1:=cJs h.hp.env h.hg;have h2:=h.hv.1;have h3:=(bXa h.hp h.hd (by omega)).1
 have h4:sd.fuel<=1024:=by
  have:=h.hf.2.f1;rw[<-h.hs]at this;have h5:(sd.fuel:Int)<=1024:=this;omega
 unfold gX
 split <;> omega
theorem GoodD.hyps{p:RowsD}{s:RawS}{sd:StD}{g:SigD}{s2:StD}(h:GoodD p s k l sd g s2 e2 dc wd o){e vs va:Ae}(hp:RowsV w e p)(hs:StV w vs s)(ha:UR w va l):
  (∀ i,i<=gX p k dc->MOk p (stN p i (eV p k l sd)))/\(∀ i,i<gX p k dc->(stN p i (eV p k l sd)).over=false)/\(stN p (gX p k dc) (eV p k l sd)).over=true/\(∀ i,i<=gX p k dc->(stN p i (eV p k l sd)).steps=i)/\(∀ i,(stN p i (eV p k l sd)).first≠none->(eV p k l sd).first≠none):=by
 obtain⟨a,b,d,f,rfl,r1,r2,r3,j⟩:=hp;have c:=cZl hs;have h1:=cKa h.hf.2 c.1 c.2.1 c.2.2.1 c.2.2.2;rw[<-cQe h.hs]at h1;obtain⟨_,_,_,_,_,_,_,m⟩:=ha;refine bYz h.hp (cKb j) h1 h.hg h.hv.1.symm m ?_ h.hd;have:=h.hf.2.ll;rw[<-h.hs]at this;exact this
theorem GoodD.cYo{p:RowsD}{s:RawS}{sd:StD}{g:SigD}{s2:StD}(h:GoodD p s k l sd g s2 e2 dc wd o):stN p (gX p k dc) (eV p k l sd)=⟨[],s2,if e2=0 then o else[],e2,gX p k dc,true,(eV p k l sd).first⟩:=(aXj h.hg h.hd).1
end Go.Proofs.YtabibkpfgmolkaaDoor

/- Lemmas for the claim, part 9. Conditions: none. -/
import Derived.Test.YtabibkpfgmolkaaGreatDoorPm08
import Derived.Deep.Cut
set_option maxRecDepth 100000
set_option maxHeartbeats 16000000
set_option linter.unusedVariables false
set_option linter.unusedSimpArgs false
open Go.Lib renaming hid→fQ
open Go.Proofs.Tryz renaming prog→fZ
open Go.Proofs.Tryz
open Go.RowKit
open Go.IntKind renaming wrap_u64→Aj,wrap_u32→Aw,signed→Ac,wrap→Bz
open List renaming setIfInBounds_toArray→Aq,set_cons_zero→Ax,set_cons_succ→Az,getElem?_eq_getElem→AX,map_cons→Bx,map_nil→Bk,toArray→Bv
open Nat renaming le_refl→Ak,mod_eq_of_lt→Ay,lt_of_le_of_lt→AZ,le_trans→AV,mod_lt→AW,div_le_self→AY,two_pow_add_eq_or_of_lt→Ab,div_div_eq_div_mul→Ad,mul_le_mul_right→Ae,add_mul→Af,lt_of_lt_of_le→Ag,mul_comm→Ah,div_eq_of_lt→Ai,zero_le→Bj,two_pow_pos→Bq,pow_succ→Bw,pow_add→By,pow_pos→BJ,pow_one→BQ
open Go.Value renaming slice→Av
open Go.World renaming setCell→AJ,ownsRow_nil→AQ
open Go.Act renaming put→AK
open Array renaming getD_eq_getD_getElem?→Aa
open Go renaming World→BX,Value→BZ,Calls→BK
namespace Go.Proofs.YtabibkpfgmolkaaGreatDoor
variable {a b n W g k base vb rb x:Nat}{w wr w' wB:BX}{v x0 x1 x2 x3 x4 x5 p q s:BZ}{t e:TypeId}{V:List Nat}
theorem bYa:(fZ.info? 5).map (fun i=>(i.zero,i.size,i.bytes))=some (some (.int .u8 0),1,1):=by kernel_rfl
theorem aWq:(fZ.info? 52).map (fun i=>(i.zero,i.size,i.bytes))=some (some (.int .u64 0),1,8):=by kernel_rfl
structure CpB (w:BX) (x0 x1 x2 x3 x4 x5:BZ) (wr:BX):Prop where
 k:Blk wr w.heap.size 33 #[x0,x1,x2,x3,x4,x5]
 z:Blk wr (w.heap.size+1) 33 #[.slice none 0 0,.int .i64 0,.slice none 0 0,.int .i64 0,.slice none 0 0,.slice none 0 0]
 b:Below w.heap.size w wr
theorem CpB.next{y0 y1 y2 y3 y4 y5:BZ}(h:CpB w x0 x1 x2 x3 x4 x5 wr)(hg:wr.grownBy w' none)(i:Nat)(v:BZ)(hi:(#[x0,x1,x2,x3,x4,x5]:Array BZ).setIfInBounds i v=#[y0,y1,y2,y3,y4,y5]):CpB w y0 y1 y2 y3 y4 y5 (w'.setCell ⟨w.heap.size,i,none⟩ v):=by
 have a:=gZ (h.k.grown hg (by intro h;cases h)) i v;rw[hi]at a;have hs:=h.b.size;refine⟨a,aJx (h.z.grown hg (by intro h;cases h)) (by omega),?_⟩;exact(wV h.b hg hs (fun j c=>by cases c)).setCell (p:=⟨w.heap.size,i,none⟩) (Ak _) _
theorem bZa{B N:Nat}(e:v.ownBlock=(Av none 0 0).ownBlock\/v.ownBlock=some B)(h:v.ownBlock=some k)(hB:N<=B):N<=k:=by
 rcases e with e | e
 ·rw[h]at e;cases e
 ·rw[h]at e;injection e with e;omega
theorem mX{i:Nat}{u:BZ}{a:List BZ}{cs:Array BZ}(h:w.ownsRow base e 1 v n a)(b:Blk w g t cs)(c:e≠t):(w.setCell ⟨g,i,none⟩ u).ownsRow base e 1 v n a:=kQ h (jV h b c)
theorem aKv{i:Nat}{u:BZ}{a:List BZ}{cs:Array BZ}(h:wr.ownsRow base e 1 v n a)(hg:wr.grownBy w' none)(b:Blk w' g t cs)(c:e≠t):(w'.setCell ⟨g,i,none⟩ u).ownsRow base e 1 v n a:=by
 have h1:w'.ownsRow base e 1 v n a:=xZ h (fun k _ b=>hg.block k b (by simp));exact kQ h1 (jV h1 b c)
def dQt(s:RawS)(w:BX)(en:Ending)(w':BX):Prop:=∃ a g i l,en = .returned (.agg #[a,.int .i64 s.most,g,.int .i64 s.fuel,i,l])/\w'.ownsRow w.heap.size 5 1 a s.mem.length (bys s.mem)/\w'.ownsRow w.heap.size 52 1 g s.globals.length (u64V s.globals)/\w'.ownsRow w.heap.size 52 1 i s.input.length (u64V s.input)/\w'.ownsRow w.heap.size 52 1 l s.log.length (u64V s.log)/\Below w.heap.size w w' /\
 (∀ k,g.ownBlock=some k->l.ownBlock≠some k/\i.ownBlock≠some k/\a.ownBlock≠some k)/\(∀ k,l.ownBlock=some k->i.ownBlock≠some k/\a.ownBlock≠some k)
theorem bYb(g:Array BZ)(W:BX)(h:Nat)(a b c d e f:BZ)(h2:g.getD 2 undef = .pointer (some ⟨h,0,none⟩))(k:Blk W h 33 #[a,b,c,d,e,f]):
  (results Tryz.f18 g).run fZ W = .ok (.agg #[a,b,c,d,e,f]) W:=by
 obtain⟨i,j,l,m,n,o⟩:=iZ k;simp only[Aa]at h2;simp[results,results18,go_sem,h2,i,j,l,m,n,o]
theorem aJp(i:Blk w g t #[x0,x1,x2,x3,x4,x5])(a b c d e f:BZ):Blk ((((((w.setCell ⟨g,0,none⟩ a).setCell ⟨g,1,none⟩ b).setCell ⟨g,2,none⟩ c).setCell ⟨g,3,none⟩ d).setCell ⟨g,4,none⟩ e).setCell ⟨g,5,none⟩ f) g t #[a,b,c,d,e,f]:=by
 have h:=gZ (gZ (gZ (gZ (gZ (gZ i 0 a) 1 b) 2 c) 3 d) 4 e) 5 f
 simpa using h
theorem aXq{B:Nat}(h:Below B w w')(hg:B<=g)(a b c d e f:BZ):Below B w ((((((w'.setCell ⟨g,0,none⟩ a).setCell ⟨g,1,none⟩ b).setCell ⟨g,2,none⟩ c).setCell ⟨g,3,none⟩ d).setCell ⟨g,4,none⟩ e).setCell ⟨g,5,none⟩ f):=
 (((((h.setCell (p:=⟨g,0,none⟩) hg _).setCell (p:=⟨g,1,none⟩) hg _).setCell (p:=⟨g,2,none⟩) hg _).setCell (p:=⟨g,3,none⟩) hg _).setCell (p:=⟨g,4,none⟩) hg _).setCell (p:=⟨g,5,none⟩) hg _
theorem nZ{i:List BZ}(h:w.ownsRow base e 1 v n i)(j:Blk w g t #[x0,x1,x2,x3,x4,x5])(k:e≠t)(a b c d e' f:BZ):((((((w.setCell ⟨g,0,none⟩ a).setCell ⟨g,1,none⟩ b).setCell ⟨g,2,none⟩ c).setCell ⟨g,3,none⟩ d).setCell ⟨g,4,none⟩ e').setCell ⟨g,5,none⟩ f).ownsRow base e 1 v n i:=by
 have q:=jV h j k;exact kQ (kQ (kQ (kQ (kQ (kQ h q) q) q) q) q) q
theorem aKd(va:BZ)(s:RawS)(w:BX)(h:StV w va s):BK fZ 18 #[va] w (dQt s w):=by
 obtain⟨a,g,i,l,rfl,h1,h2,U,V⟩:=h;obtain⟨W,c1,rfl⟩:=h1.shape;obtain⟨J,K,rfl⟩:=h2.shape;obtain⟨L,M,rfl⟩:=U.shape;obtain⟨N,O,rfl⟩:=V.shape;have s1:=h1.len.2.1;have z1:=h1.len.2.2.2.2.1.1;have s2:=h2.len.2.1;have z2:=h2.len.2.2.2.2.1.1;have s3:=U.len.2.1;have z3:=U.len.2.2.2.2.1.1;have s4:=V.len.2.1;have z4:=V.len.2.2.2.2.1.1;obtain⟨n1,X⟩:∃ n,s.mem.length=n:=⟨_,rfl⟩;obtain⟨n2,Y⟩:∃ n,s.globals.length=n:=⟨_,rfl⟩;obtain⟨e,Z⟩:∃ n,s.input.length=n:=⟨_,rfl⟩;obtain⟨c,ar⟩:∃ n,s.log.length=n:=⟨_,rfl⟩;rw[X]at s1 z1;rw[Y]at s2 z2;rw[Z]at s3 z3;rw[ar]at s4 z4;rw[X,Y,Z,ar];obtain⟨xo,aw⟩:∃ o,Obj.cells #[.slice W n1 c1,.int .i64 s.most,.slice J n2 K,.int .i64 s.fuel,.slice L e M,.slice N c O] 33=o:=⟨_,rfl⟩
 have P:=fQ (show CpB w (.slice W n1 c1) (.int .i64 s.most) (.slice J n2 K) (.int .i64 s.fuel) (.slice L e M) (.slice N c O) ((w.alloc (.cells #[.slice W n1 c1,.int .i64 s.most,.slice J n2 K,.int .i64 s.fuel,.slice L e M,.slice N c O] 33)).alloc (.cells #[.slice none 0 0,.int .i64 0,.slice none 0 0,.int .i64 0,.slice none 0 0,.slice none 0 0] 33))from
  ⟨Blk.alloc (Blk.new w _ _) _,Blk.newAt _ _ _ (by simp),rY w _ _⟩)
 have S1:=fQ (fun(w':BX) (D:Below w.heap.size w w')=>s1.below D (Ak _));have S2:=fQ (fun(w':BX) (D:Below w.heap.size w w')=>s2.below D (Ak _));have S3:=fQ (fun(w':BX) (D:Below w.heap.size w w')=>s3.below D (Ak _));have S4:=fQ (fun(w':BX) (D:Below w.heap.size w w')=>s4.below D (Ak _));have q0:(Av none 0 0).ownBlock=none:=rfl;have N1:=fQ X;have N2:=fQ Y;have N3:=fQ Z;have N4:=fQ ar;clear h1 h2 U V s1 s2 s3 s4 X Y Z ar aw xo;have HQ:=fQ q0;clear q0;go_in;go_wp2_with (at_builtin;refine oY _ rfl _ (.tmp 4) 31 rfl w.heap.size 5 (.int .u8 0) 1 1 underlying31 bYa rfl (by omega) (.slice none 0 0) 0 [] rfl (AQ _ _ _ _) W n1 c1 (bys s.mem) rfl (by simpa using S1.out _ P.out.b) (aQh _) (by unfold maxLen;omega) (by omega) P.out.b.size ?_);rintro v Q o1 g1 e1 _;obtain⟨x,y,rfl,_⟩:=fJ o1;have G:=P.out.k.grown g1 (by intro h;cases h);have R:=fQ (P.out.next g1 0 (.slice x n1 y) rfl);have ag:=fQ (mX (i:=0) (g:=w.heap.size) (u:=(.slice x n1 y)) o1 G (by decide));have E1:=fQ (show ∀ k,(Av x n1 y).ownBlock=some k->w.heap.size<=k/\k<Q.heap.size from fun k d=>⟨bZa e1 d (by first | (simp[AJ];done) | omega),(o1.lt k d).2⟩);have f1:=frz G 0;obtain⟨u1,k1⟩:∃ u,Q.cell? ⟨w.heap.size,0,none⟩=some u:=⟨_,by rw[G.cell 0];rfl⟩;have y1:=G.lt;have m1:Q.cell? ⟨w.heap.size,2,none⟩=some (.slice J n2 K):=(by rw[G.cell 2];rfl);clear o1 g1 e1 G P;go_wp2_with (at_builtin;refine oY _ rfl _ (.tmp 8) 30 rfl w.heap.size 52 (.int .u64 0) 1 8 underlying30 aWq rfl (by omega) (.slice none 0 0) 0 [] rfl (AQ _ _ _ _) J n2 K (u64V s.globals) rfl (by simpa using S2.out _ R.out.b) (aZe _) (by unfold maxLen;omega) (by omega) R.out.b.size ?_);rintro v w2 o2 H e2 _;obtain⟨r,t,rfl,_⟩:=fJ o2;have E:=R.out.k.grown H (by intro h;cases h);have S:=fQ (R.out.next H 2 (.slice r n2 t) rfl);have ah:=fQ (aKv (i:=2) (g:=w.heap.size) (u:=(.slice r n2 t)) ag.out H E (by decide));have ai:=fQ (mX (i:=2) (g:=w.heap.size) (u:=(.slice r n2 t)) o2 E (by decide));have E2:=fQ (show ∀ k,(Av r n2 t).ownBlock=some k->Q.heap.size<=k/\k<w2.heap.size from fun k d=>⟨bZa e2 d (by first | (simp[AJ];done) | omega),(o2.lt k d).2⟩);have Z2:Q.heap.size<=w2.heap.size:=(by have:=H.size;simpa[AJ]using this);have f2:=frz E 2;obtain⟨u2,k2⟩:∃ u,w2.cell? ⟨w.heap.size,2,none⟩=some u:=⟨_,by rw[E.cell 2];rfl⟩;have y2:=E.lt;have m2:w2.cell? ⟨w.heap.size,4,none⟩=some (.slice L e M):=(by rw[E.cell 4];rfl);clear o2 H e2 E R ag f1 k1 y1 m1 u1;go_wp2_with (at_builtin;refine oY _ rfl _ (.tmp 12) 30 rfl w.heap.size 52 (.int .u64 0) 1 8 underlying30 aWq rfl (by omega) (.slice none 0 0) 0 [] rfl (AQ _ _ _ _) L e M (u64V s.input) rfl (by simpa using S3.out _ S.out.b) (aZe _) (by unfold maxLen;omega) (by omega) S.out.b.size ?_);rintro v I o3 F e3 _;obtain⟨p,q,rfl,_⟩:=fJ o3;have A:=S.out.k.grown F (by intro h;cases h);have T:=fQ (S.out.next F 4 (.slice p e q) rfl);have aj:=fQ (aKv (i:=4) (g:=w.heap.size) (u:=(.slice p e q)) ah.out F A (by decide))
 have ak:=fQ (aKv (i:=4) (g:=w.heap.size) (u:=(.slice p e q)) ai.out F A (by decide));have al:=fQ (mX (i:=4) (g:=w.heap.size) (u:=(.slice p e q)) o3 A (by decide));have E3:=fQ (show ∀ k,(Av p e q).ownBlock=some k->w2.heap.size<=k/\k<I.heap.size from fun k d=>⟨bZa e3 d (by first | (simp[AJ];done) | omega),(o3.lt k d).2⟩);have Z3:w2.heap.size<=I.heap.size:=(by have:=F.size;simpa[AJ]using this);have f3:=frz A 4;obtain⟨u3,k3⟩:∃ u,I.cell? ⟨w.heap.size,4,none⟩=some u:=⟨_,by rw[A.cell 4];rfl⟩;have y3:=A.lt;have m3:I.cell? ⟨w.heap.size,5,none⟩=some (.slice N c O):=(by rw[A.cell 5];rfl);clear o3 F e3 A S ah ai f2 k2 y2 m2 u2;go_wp2_with (at_builtin;refine oY _ rfl _ (.tmp 16) 30 rfl w.heap.size 52 (.int .u64 0) 1 8 underlying30 aWq rfl (by omega) (.slice none 0 0) 0 [] rfl (AQ _ _ _ _) N c O (u64V s.log) rfl (by simpa using S4.out _ T.out.b) (aZe _) (by unfold maxLen;omega) (by omega) T.out.b.size ?_);rintro v w4 o4 B e4 _;obtain⟨j,m,rfl,_⟩:=fJ o4;have C:=T.out.k.grown B (by intro h;cases h);have f:=fQ (T.out.next B 5 (.slice j c m) rfl);have aa:=fQ (aKv (i:=5) (g:=w.heap.size) (u:=(.slice j c m)) aj.out B C (by decide));have ad:=fQ (aKv (i:=5) (g:=w.heap.size) (u:=(.slice j c m)) ak.out B C (by decide));have ae:=fQ (aKv (i:=5) (g:=w.heap.size) (u:=(.slice j c m)) al.out B C (by decide));have af:=fQ (mX (i:=5) (g:=w.heap.size) (u:=(.slice j c m)) o4 C (by decide));have E4:=fQ (show ∀ k,(Av j c m).ownBlock=some k->I.heap.size<=k/\k<w4.heap.size from fun k d=>⟨bZa e4 d (by first | (simp[AJ];done) | omega),(o4.lt k d).2⟩);have Z4:I.heap.size<=w4.heap.size:=(by have:=B.size;simpa[AJ]using this);have f4:=frz C 5;obtain⟨u4,k4⟩:∃ u,w4.cell? ⟨w.heap.size,5,none⟩=some u:=⟨_,by rw[C.cell 5];rfl⟩;have y4:=C.lt;clear o4 B e4 C T aj ak al f3 k3 y3 m3 u3;obtain⟨wx,au⟩:=fX (w4.setCell ⟨w.heap.size,5,none⟩ (.slice j c m));rw[au]at f aa ad ae af;have HW:=fQ au;obtain⟨r0,r1,r2,r3,r4,r5⟩:=iZ f.out.k;have g0:=frz f.out.z 0;have g1:=frz f.out.z 1;have H:=frz f.out.z 2;have F:=frz f.out.z 3;have B:=frz f.out.z 4;have g5:=frz f.out.z 5;obtain⟨p0,p1,p2,p3,p4,p5⟩:=iZ f.out.z;have yz:=f.out.z.lt;have ax:=fQ (aJp f.out.z (.slice x n1 y) (.int .i64 s.most) (.slice r n2 t) (.int .i64 s.fuel) (.slice p e q) (.slice j c m));have ay:=fQ (aXq f.out.b (show w.heap.size<=w.heap.size+1 by omega) (.slice x n1 y) (.int .i64 s.most) (.slice r n2 t) (.int .i64 s.fuel) (.slice p e q) (.slice j c m));have H1:=fQ (nZ aa.out f.out.z (by decide) (.slice x n1 y) (.int .i64 s.most) (.slice r n2 t) (.int .i64 s.fuel) (.slice p e q) (.slice j c m));have H2:=fQ (nZ ad.out f.out.z (by decide) (.slice x n1 y) (.int .i64 s.most) (.slice r n2 t) (.int .i64 s.fuel) (.slice p e q) (.slice j c m));have H3:=fQ (nZ ae.out f.out.z (by decide) (.slice x n1 y) (.int .i64 s.most) (.slice r n2 t) (.int .i64 s.fuel) (.slice p e q) (.slice j c m));have H4:=fQ (nZ af.out f.out.z (by decide) (.slice x n1 y) (.int .i64 s.most) (.slice r n2 t) (.int .i64 s.fuel) (.slice p e q) (.slice j c m))
 clear f aa ad ae af;go_upto_region 5 with fail;clear f4 k4 y4 au;go_wp2_with fail;refine bodyPost_ret (bYb _ _ (w.heap.size+1) _ _ _ _ _ _ rfl ax.out) rfl ?_
 exact⟨.slice x n1 y,.slice r n2 t,.slice p e q,.slice j c m,rfl,by rw[N1.out];exact H1.out,by rw[N2.out];exact H2.out,by rw[N3.out];exact H3.out,by rw[N4.out];exact H4.out,ay.out,
  fun k d=>⟨fun h=>by have:=E2.out k d;have:=E4.out k h;omega,fun h=>by have:=E2.out k d;have:=E3.out k h;omega,fun h=>by have:=E2.out k d;have:=E1.out k h;omega⟩,
  fun k d=>⟨fun h=>by have:=E4.out k d;have:=E3.out k h;omega,fun h=>by have:=E4.out k d;have:=E1.out k h;omega⟩⟩
theorem cJd(v:BZ)(l:List Nat)(w:BX)(h:BR w v l):BK fZ 47 #[v] w fun e w'=>∃ v',e = .returned v'/\w'.ownsRow w.heap.size 5 1 v' l.length (bys l)/\Below w.heap.size w w':=by
 obtain⟨A,c,rfl,hs,hc,f,hn,_⟩:=h;have ae:∀ (w:BX) (a:Option Addr) (n c g i:Nat),(binOp .eql 31 (.slice a n c) (.slice none g i)).run fZ w = .ok (.bool a.isNone) w:=fun w a n c g i=>Lib.run_eql_slice_nil w 31 5 a n c g i underlying31;obtain⟨n,d⟩:=fX l.length;rw[d]at hs hc hn ⊢;rcases A with _ | ⟨b,o,sp⟩
 ·have m:c=0:=f rfl;subst m;have p:n=0:=(by omega);subst p;have q:l = []:=List.eq_nil_of_length_eq_zero d;subst q;clear f hs hc hn d;go_in;go_wp2;go_ret;exact⟨_,rfl,AQ _ _ _ _,Below.refl _ _⟩
 ·have r:=fQ (hs.below (w':=w.alloc (.cells #[] 5)) ((Below.refl _ _).alloc (Ak _) _) (Ak _));have af:=hn.1;clear hs f hn d;go_in;go_wp2_with (at_builtin;refine aXh _ rfl _ (.tmp 6) 31 rfl w.heap.size 5 _ 1 underlying31 bYa rfl _ 0 [] rfl (World.ownsRow_lit w #[] 0 (Ak _) (by unfold maxLen;omega) rfl) _ n c _ rfl r.out (aQh _) (by unfold maxLen;omega) (by omega) (by simp) ?_);rintro v' w' j k;have s:=fQ (by simpa using j:w'.ownsRow w.heap.size 5 1 v' n (bys l));have t:=fQ k;clear j k;go_wp2;go_ret;exact⟨v',rfl,s.out,((Below.refl _ _).alloc (Ak _) _).trans t.out⟩
theorem cQu(g:Array BZ)(W:BX)(h:Nat)(a b c d e f:BZ)(h2:g.getD 2 undef = .pointer (some ⟨h,0,none⟩))(k:Blk W h 33 #[a,b,c,d,e,f]):
  (results Tryz.f26 g).run fZ W = .ok (.agg #[a,b,c,d,e,f]) W:=by
 obtain⟨i,j,l,m,n,o⟩:=iZ k;simp only[Aa]at h2;simp[results,results26,go_sem,h2,i,j,l,m,n,o]
theorem aYm(va:BZ)(s:RawS)(w:BX)(h:StV w va s):BK fZ 26 #[va] w (dQt s w):=by
 obtain⟨a,g,i,l,rfl,h1,h2,h3,h4⟩:=h;obtain⟨A1,c1,rfl⟩:=h1.shape;obtain⟨W,X,rfl⟩:=h2.shape;obtain⟨O,P,rfl⟩:=h3.shape;obtain⟨I,J,rfl⟩:=h4.shape;obtain⟨m1,ai⟩:∃ k,s.mem.length=k:=⟨_,rfl⟩;obtain⟨m2,aj⟩:∃ k,s.globals.length=k:=⟨_,rfl⟩;obtain⟨f,ak⟩:∃ k,s.input.length=k:=⟨_,rfl⟩;obtain⟨m,al⟩:∃ k,s.log.length=k:=⟨_,rfl⟩;rw[ai]at h1;rw[aj]at h2;rw[ak]at h3;rw[al]at h4;have an:=fQ ai;have ao:=fQ aj;have aq:=fQ ak;have ar:=fQ al;rw[ai,aj,ak,al];have L:=fQ (show CpB w (.slice A1 m1 c1) (.int .i64 s.most) (.slice W m2 X) (.int .i64 s.fuel) (.slice O f P) (.slice I m J) ((w.alloc (.cells #[.slice A1 m1 c1,.int .i64 s.most,.slice W m2 X,.int .i64 s.fuel,.slice O f P,.slice I m J] 33)).alloc (.cells #[.slice none 0 0,.int .i64 0,.slice none 0 0,.int .i64 0,.slice none 0 0,.slice none 0 0] 33))from⟨(Blk.new _ _ _).alloc _,Blk.newAt _ (N:=w.heap.size+1) _ _ (by simp),rY _ _ _⟩);have az:=fQ h1;have aA:=fQ h2;have aB:=fQ h3;have aC:=fQ h4;clear h1 h2 h3 h4 ai aj ak al;go_in;go_upto_region 1 with fail;obtain⟨w1,au⟩:=fX ((w.alloc (.cells #[.slice A1 m1 c1,.int .i64 s.most,.slice W m2 X,.int .i64 s.fuel,.slice O f P,.slice I m J] 33)).alloc (.cells #[.slice none 0 0,.int .i64 0,.slice none 0 0,.int .i64 0,.slice none 0 0,.slice none 0 0] 33));rw[au]at L ⊢;clear au;have c:=fQ (show CpB w _ _ _ _ _ _ w1.drew from⟨L.out.k.drew,L.out.z.drew,L.out.b.drew⟩);obtain⟨n,r1,o,r3,p,q⟩:=iZ c.out.k;refine mQ (fun _=>True) (fun w'=>w'.cell? ⟨w.heap.size,0,none⟩=some (.slice A1 m1 c1)/\w'.cell? ⟨w.heap.size,2,none⟩=some (.slice W m2 X)/\w'.cell? ⟨w.heap.size,4,none⟩=some (.slice O f P)/\w'.cell? ⟨w.heap.size,5,none⟩=some (.slice I m J)) 13 (by kernel_rfl) trivial ⟨n,o,p,q⟩ (fun d=>?_);clear n r1 o r3 p q;refine wtk 0 d (fun d=>?_);refine vX (i:=1) (v:=?v1) rfl (by kernel_rfl) (by kernel_rfl) (by kernel_rfl) (fun _ _ _ h=>h) rfl (by kernel_rfl) (by kernel_rfl) (Or.inl ⟨by rfl,?hy1⟩) d (fun d=>?_)
 case hy1=>intro w Q;(try dsimp only at Q);go_simp;(try with_reducible rfl)
 try simp only[AK,Aq,Ax,Az]
 refine wtk 3 d (fun d=>?_);refine vX (i:=4) (v:=?v4) rfl (by kernel_rfl) (by kernel_rfl) (by kernel_rfl) (fun _ _ _ h=>h) rfl (by kernel_rfl) (by kernel_rfl) (Or.inl ⟨by rfl,?hy4⟩) d (fun d=>?_)
 case hy4=>intro w Q;(try dsimp only at Q);go_simp;(try with_reducible rfl)
 try simp only[AK,Aq,Ax,Az]
 refine wtk 6 d (fun d=>?_);refine vX (i:=7) (v:=?v7) rfl (by kernel_rfl) (by kernel_rfl) (by kernel_rfl) (fun _ _ _ h=>h) rfl (by kernel_rfl) (by kernel_rfl) (Or.inl ⟨by rfl,?hy7⟩) d (fun d=>?_)
 case hy7=>intro w Q;(try dsimp only at Q);go_simp;(try with_reducible rfl)
 try simp only[AK,Aq,Ax,Az]
 refine wtk 9 d (fun d=>?_);refine vX (i:=10) (v:=?v10) rfl (by kernel_rfl) (by kernel_rfl) (by kernel_rfl) (fun _ _ _ h=>h) rfl (by kernel_rfl) (by kernel_rfl) (Or.inl ⟨by rfl,?hy10⟩) d (fun d=>?_)
 case hy10=>intro w Q;(try dsimp only at Q);go_simp;(try with_reducible rfl)
 try simp only[AK,Aq,Ax,Az]
 refine gY (i:=2) (by kernel_rfl) rfl (fun K e=>?_);go_simp;refine(cJd (.slice A1 m1 c1) s.mem _ (az.out.below c.out.b (Ak _))).mono ?_;rintro en wa ⟨v1,rfl,o1,b1⟩;rw[an.out]at o1;obtain⟨r,t,rfl,_⟩:=fJ o1;have u:=fQ o1;have E1:=fQ (fun(j:Nat) (x:(Av r m1 t).ownBlock=some j)=>(o1.lt j x).2);have F1:=fQ (fun(j:Nat) (x:(Av r m1 t).ownBlock=some j)=>(o1.lt j x).1);have P1:=fQ b1;have c:=fQ (show CpB w _ _ _ _ _ _ wa from⟨c.out.k.below b1 c.out.k.lt,c.out.z.below b1 c.out.z.lt,c.out.b.trans (b1.mono c.out.b.size)⟩);obtain⟨n,_,o,_,p,q⟩:=iZ c.out.k;refine e.out _ _ ⟨trivial,fun _=>⟨n,o,p,q⟩⟩ (fun d=>?_);clear e K o1 b1 n o p q
 try simp only[AK,Aq,Ax,Az]
 refine wtk 12 d (fun d=>?_);refine gY (i:=5) (by kernel_rfl) rfl (fun K e=>?_);go_simp;refine(wY (.slice W m2 X) s.globals _ (aA.out.below c.out.b (Ak _))).mono ?_;rintro en wb ⟨v2,rfl,o2,Y⟩;rw[ao.out]at o2;obtain⟨y,A,rfl,_⟩:=fJ o2;have u:=fQ (iW u.out Y (Ak _));have B:=fQ o2;have E2:=fQ (fun(j:Nat) (x:(Av y m2 A).ownBlock=some j)=>(o2.lt j x).2);have F2:=fQ (fun(j:Nat) (x:(Av y m2 A).ownBlock=some j)=>(o2.lt j x).1);have P2:=fQ Y;have c:=fQ (show CpB w _ _ _ _ _ _ wb from⟨c.out.k.below Y c.out.k.lt,c.out.z.below Y c.out.z.lt,c.out.b.trans (Y.mono c.out.b.size)⟩);obtain⟨n,_,o,_,p,q⟩:=iZ c.out.k;refine e.out _ _ ⟨trivial,fun _=>⟨n,o,p,q⟩⟩ (fun d=>?_);clear e K o2 Y n o p q
 try simp only[AK,Aq,Ax,Az]
 refine gY (i:=8) (by kernel_rfl) rfl (fun K e=>?_);go_simp;refine(wY (.slice O f P) s.input _ (aB.out.below c.out.b (Ak _))).mono ?_;rintro en wc ⟨v3,rfl,o3,R⟩;rw[aq.out]at o3;obtain⟨C,D,rfl,_⟩:=fJ o3;have u:=fQ (iW u.out R (Ak _));have B:=fQ (iW B.out R (Ak _));have G:=fQ o3;have E3:=fQ (fun(j:Nat) (x:(Av C f D).ownBlock=some j)=>(o3.lt j x).2);have F3:=fQ (fun(j:Nat) (x:(Av C f D).ownBlock=some j)=>(o3.lt j x).1);have P3:=fQ R;have c:=fQ (show CpB w _ _ _ _ _ _ wc from⟨c.out.k.below R c.out.k.lt,c.out.z.below R c.out.z.lt,c.out.b.trans (R.mono c.out.b.size)⟩);obtain⟨n,_,o,_,p,q⟩:=iZ c.out.k;refine e.out _ _ ⟨trivial,fun _=>⟨n,o,p,q⟩⟩ (fun d=>?_);clear e K o3 R n o p q
 try simp only[AK,Aq,Ax,Az]
 refine gY (i:=11) (by kernel_rfl) rfl (fun K e=>?_);go_simp;refine(wY (.slice I m J) s.log _ (aC.out.below c.out.b (Ak _))).mono ?_;rintro en wd ⟨v4,rfl,o4,M⟩;rw[ar.out]at o4;obtain⟨E,F,rfl,_⟩:=fJ o4;have u:=fQ (iW u.out M (Ak _));have B:=fQ (iW B.out M (Ak _));have G:=fQ (iW G.out M (Ak _));have H:=fQ o4;have E4:=fQ (fun(j:Nat) (x:(Av E m F).ownBlock=some j)=>(o4.lt j x).2);have F4:=fQ (fun(j:Nat) (x:(Av E m F).ownBlock=some j)=>(o4.lt j x).1);have P4:=fQ M;have c:=fQ (show CpB w _ _ _ _ _ _ wd from⟨c.out.k.below M c.out.k.lt,c.out.z.below M c.out.z.lt,c.out.b.trans (M.mono c.out.b.size)⟩);obtain⟨n,_,o,_,p,q⟩:=iZ c.out.k;refine e.out _ _ ⟨trivial,fun _=>⟨n,o,p,q⟩⟩ (fun d=>?_);clear e K o4 M n o p q
 try simp only[AK,Aq,Ax,Az]
 have q0:=(iZ c.out.k).1;have f0:=frz c.out.k 0;refine gY (i:=13) (by kernel_rfl) rfl (fun K e=>?_);go_simp;obtain⟨aw,S⟩:=fX (wd.setCell ⟨w.heap.size,0,none⟩ (.slice r m1 t));have u:=fQ (S ▸ mX u.out c.out.k (by decide));have B:=fQ (S ▸ mX B.out c.out.k (by decide));have G:=fQ (S ▸ mX G.out c.out.k (by decide));have H:=fQ (S ▸ mX H.out c.out.k (by decide));have c:=fQ (show CpB w (.slice r m1 t) (.int .i64 s.most) (.slice W m2 X) (.int .i64 s.fuel) (.slice O f P) (.slice I m J) aw from S ▸ c.out.next (World.grownBy.refl _ _) 0 (.slice r m1 t) rfl);rw[S];refine e.out _ _ (SD.after trivial (by rfl)) (fun d=>?_);clear e K S q0 f0
 try simp only[AK,Aq,Ax,Az]
 refine wtk 14 d (fun d=>?_);have q1:=(iZ c.out.k).2.2.1;have f1:=frz c.out.k 2;refine gY (i:=15) (by kernel_rfl) rfl (fun K e=>?_);go_simp;obtain⟨ax,T⟩:=fX (aw.setCell ⟨w.heap.size,2,none⟩ (.slice y m2 A));have u:=fQ (T ▸ mX u.out c.out.k (by decide));have B:=fQ (T ▸ mX B.out c.out.k (by decide));have G:=fQ (T ▸ mX G.out c.out.k (by decide));have H:=fQ (T ▸ mX H.out c.out.k (by decide));have c:=fQ (show CpB w (.slice r m1 t) (.int .i64 s.most) (.slice y m2 A) (.int .i64 s.fuel) (.slice O f P) (.slice I m J) ax from T ▸ c.out.next (World.grownBy.refl _ _) 2 (.slice y m2 A) rfl);rw[T];refine e.out _ _ (SD.after trivial (by rfl)) (fun d=>?_);clear e K T q1 f1
 try simp only[AK,Aq,Ax,Az]
 refine wtk 16 d (fun d=>?_);have q2:=(iZ c.out.k).2.2.2.2.1;have f2:=frz c.out.k 4;refine gY (i:=17) (by kernel_rfl) rfl (fun K e=>?_);go_simp;obtain⟨ay,U⟩:=fX (ax.setCell ⟨w.heap.size,4,none⟩ (.slice C f D));have u:=fQ (U ▸ mX u.out c.out.k (by decide));have B:=fQ (U ▸ mX B.out c.out.k (by decide));have G:=fQ (U ▸ mX G.out c.out.k (by decide));have H:=fQ (U ▸ mX H.out c.out.k (by decide));have c:=fQ (show CpB w (.slice r m1 t) (.int .i64 s.most) (.slice y m2 A) (.int .i64 s.fuel) (.slice C f D) (.slice I m J) ay from U ▸ c.out.next (World.grownBy.refl _ _) 4 (.slice C f D) rfl);rw[U];refine e.out _ _ (SD.after trivial (by rfl)) (fun d=>?_);clear e K U q2 f2
 try simp only[AK,Aq,Ax,Az]
 refine wtk 18 d (fun d=>?_);have q3:=(iZ c.out.k).2.2.2.2.2;have f3:=frz c.out.k 5;refine gY (i:=19) (by kernel_rfl) rfl (fun K e=>?_);go_simp;obtain⟨aD,V⟩:=fX (ay.setCell ⟨w.heap.size,5,none⟩ (.slice E m F));have u:=fQ (V ▸ mX u.out c.out.k (by decide));have B:=fQ (V ▸ mX B.out c.out.k (by decide));have G:=fQ (V ▸ mX G.out c.out.k (by decide));have H:=fQ (V ▸ mX H.out c.out.k (by decide));have c:=fQ (show CpB w (.slice r m1 t) (.int .i64 s.most) (.slice y m2 A) (.int .i64 s.fuel) (.slice C f D) (.slice E m F) aD from V ▸ c.out.next (World.grownBy.refl _ _) 5 (.slice E m F) rfl);rw[V];refine e.out _ _ (SD.after trivial (by rfl)) (fun d=>?_);clear e K V q3 f3
 try simp only[AK,Aq,Ax,Az]
 refine kW (by kernel_rfl) ?_ _;clear d;obtain⟨n,r1,o,r3,p,q⟩:=iZ c.out.k;have g0:=frz c.out.z 0;have g1:=frz c.out.z 1;have g2:=frz c.out.z 2;have g3:=frz c.out.z 3;have g4:=frz c.out.z 4;have g5:=frz c.out.z 5;obtain⟨p0,p1,p2,p3,p4,p5⟩:=iZ c.out.z;have yz:=c.out.z.lt;have aE:=fQ (aJp c.out.z (.slice r m1 t) (.int .i64 s.most) (.slice y m2 A) (.int .i64 s.fuel) (.slice C f D) (.slice E m F));have aF:=fQ (aXq c.out.b (show w.heap.size<=w.heap.size+1 by omega) (.slice r m1 t) (.int .i64 s.most) (.slice y m2 A) (.int .i64 s.fuel) (.slice C f D) (.slice E m F));have H1:=fQ (nZ u.out c.out.z (by decide) (.slice r m1 t) (.int .i64 s.most) (.slice y m2 A) (.int .i64 s.fuel) (.slice C f D) (.slice E m F));have H2:=fQ (nZ B.out c.out.z (by decide) (.slice r m1 t) (.int .i64 s.most) (.slice y m2 A) (.int .i64 s.fuel) (.slice C f D) (.slice E m F));have H3:=fQ (nZ G.out c.out.z (by decide) (.slice r m1 t) (.int .i64 s.most) (.slice y m2 A) (.int .i64 s.fuel) (.slice C f D) (.slice E m F));have H4:=fQ (nZ H.out c.out.z (by decide) (.slice r m1 t) (.int .i64 s.most) (.slice y m2 A) (.int .i64 s.fuel) (.slice C f D) (.slice E m F));go_wp2_with fail;have z1:=P1.out.size;have z2:=P2.out.size;have z3:=P3.out.size;have z4:=P4.out.size;refine bodyPost_ret (cQu _ _ (w.heap.size+1) _ _ _ _ _ _ rfl aE.out) rfl ?_
 exact⟨.slice r m1 t,.slice y m2 A,.slice C f D,.slice E m F,rfl,by rw[an.out];exact jQ H1.out L.out.b.size,by rw[ao.out];exact jQ H2.out (AV L.out.b.size P1.out.size),by rw[aq.out];exact jQ H3.out (AV L.out.b.size (AV P1.out.size P2.out.size)),by rw[ar.out];exact jQ H4.out (AV L.out.b.size (AV P1.out.size (AV P2.out.size P3.out.size))),aF.out,
  fun k Z=>⟨fun h=>by have:=E2.out k Z;have:=F4.out k h;omega,fun h=>by have:=E2.out k Z;have:=F3.out k h;omega,fun h=>by have:=E1.out k h;have:=F2.out k Z;omega⟩,
  fun k Z=>⟨fun h=>by have:=E3.out k h;have:=F4.out k Z;omega,fun h=>by have:=E1.out k h;have:=F4.out k Z;omega⟩⟩
theorem bWo{p:RowsD}{l:List Nat}{s:StD}{g:SigD}(hp:ProgP p)(hs:StOk p.env s)(hg:p.env.sigs[n]? = some g)(c:l.length=g.inn.length)(b:All64 l)(ad:s.log.length<=4096):MOk p (jW p n l s):=by
 unfold jW;by_cases hi:(n:Int)<p.env.imports
 ·rw[if_pos hi];exact { frs:=fun f hf=>(by cases hf),chain:=trivial,depth:=Bj _,st:=hs,o64:=nW,olen:=Bj _,live:=fun _ h=>(by cases h),nf:=fun _=>rfl,fst:=fun d a h=>(by injection h with h;injection h with h1 h2;subst h1;subst h2;exact⟨hi,b,g,hg,c⟩),fin:=fun h=>(by cases h),go:=fun _=>⟨rfl,rfl⟩,log:=(by show s.log.length<=4096+9*0;omega) }
 ·rw[if_neg hi];have h1:=(List.getElem?_eq_some_iff.1 hg).1;have h2:=hp.len;have h3:=mV hp.env;obtain⟨q,hq⟩:∃ q,p.fns[n - p.env.imports.toNat]? = some q:=⟨_,AX (by omega)⟩;have e:=(hp.row _ _ hq).1;simp only[hq,hg];exact { frs:=fun f hf=>(by rw[List.mem_singleton.1 hf];exact⟨hq,Ag Nat.one_pos e.n1,aQk _ _,xQ _ (oV _ _ b)⟩),chain:=trivial,depth:=(by simp),st:=hs,o64:=nW,olen:=Bj _,live:=fun _ _ h=>(by cases h),nf:=fun h=>absurd rfl h,fst:=fun d a h=>(by cases h),fin:=fun h=>(by cases h),go:=fun _=>⟨rfl,rfl⟩,log:=(by show s.log.length<=4096+9*0;omega) }
theorem cYu{p:RowsD}{x:MaD}{f:FrD}{rest:List FrD}{c:CodeD}(A:ActD):(doM p x f rest c A).first=x.first:=by
 cases A with
 | go k=>rfl
 | vals l s=>rfl
 | trap e s=>rfl
 | ret l=>cases rest <;> rfl
 | call n=>
  unfold doM;by_cases h:16<=rest.length+1
  ·simp only[if_pos h,sV]
  ·simp only[if_neg h]
   cases p.fns[n - p.env.imports.toNat]? with
   | none=>rfl
   | some q=>cases p.env.sigs[n]? <;> rfl
theorem cQv{p:RowsD}(x:MaD):(jY p x).first=x.first:=by
 unfold jY
 split
 ·rfl
 ·unfold goM
  cases hf:x.first with
  | some q=>obtain⟨n,a⟩:=q;rfl
  | none=>
   simp only[hf]
   cases hs:x.st with
   | nil=>first | (simp only;done) | rfl
   | cons f rest=>
    simp only
    cases hc:f.r.code[f.k]? with
    | none=>first | exact hf | rfl
    | some c=>exact cYu _
theorem bJz{p:RowsD}:∀ (i:Nat) (x:MaD),(stN p i x).first=x.first
 | 0,_=>rfl
 | i+1,x=>(bJz i (jY p x)).trans (cQv x)
theorem bWp(p:RowsD)(n:Nat)(l:List Nat)(s:StD):(jW p n l s).steps=0:=by
 unfold jW
 split
 ·rfl
 ·split <;> rfl
theorem dKx{p:RowsD}{dc wd:Nat}{g:SigD}{a l:List Nat}{s s2:StD}{e2:Int}(hp:ProgP p)(b:∀ (i:Nat) q,p.fns[i]? = Option.some q->∀ c∈q.code,c.n<18446744073709551616)(hs:StOk p.env s)(hg:p.env.sigs[n]? = some g)(d:a.length=g.inn.length)(e:All64 a)(f:s.log.length<=4096)(h:CDid p 8 0 n g a s s2 e2 dc wd l):
  (∀ i,i<=lX p n dc->MOk p (stN p i (jW p n a s)))/\(∀ i,i<lX p n dc->(stN p i (jW p n a s)).over=false)/\(stN p (lX p n dc) (jW p n a s)).over=true/\(∀ i,i<=lX p n dc->(stN p i (jW p n a s)).steps=i)/\(∀ i,(stN p i (jW p n a s)).first≠none->(jW p n a s).first≠none):=by
 obtain⟨h1,h2,_⟩:=aWm hg h;refine⟨fun i _=>bWq hp b i (bWo hp hs hg d e f),h2,by rw[h1],fun i hi=>?_,fun i hf=>by rw[bJz]at hf;exact hf⟩;rw[bKe i (fun j k=>h2 j (Ag k hi)),bWp,Nat.zero_add]
def RunR(C:MaC)(x:MaS)(s2:StD)(e2:Int)(dc wd:Nat)(l:List Nat)(w:BX)(en:Ending)(w':BX):Prop:=
 ∃ (v:BZ) (x':MaS),en = .returned v/\MRef C x' w'/\MK C x x' w w'/\x'.s=s2/\x'.e=e2/\x'.cnt=x.cnt+dc/\x'.wmax=max x.wmax (x.wcur+wd)/\x'.wcur=x.wcur/\x'.d=x.d/\(∃ A n c,v = .slice A n c) /\
  (e2=0->w'.ownsRow w.heap.size 52 1 v l.length (u64V l)/\All64 l)
structure MRunB (x:MaS) (n:Nat):Prop where
 cnt:x.cnt+n<=1000000000000
 log:x.s.log.length+9*n<=1000000000
 wle:x.wcur<=x.wmax
 wmx:x.wmax<=1000000
 wcr:x.wcur<=4096*x.d
 dle:x.d<=16
structure RowI (C:MaC) (x0:MaS) (r:RowD) (R:ResD) (wB:BX) (vb rb:Nat) (p q t s:BZ) (k:Nat) (x1:MaS) (V:List Nat) (R':ResD) (wr:BX):Prop where
 m:MRef C x1 wr
 mq:MK C x0 x1 wB wr
 ev:Ev C.p C.lost x0.d r k V x1.s R'
 tc:x1.cnt+R'.cnt=x0.cnt+R.cnt
 ts:R'.s=R.s
 te:R'.e=R.e
 tou:R'.out=R.out
 tw:max x1.wmax (x1.wcur+R'.wds)=max x0.wmax (x0.wcur+R.wds)
 e0:x1.e=0
 d:x1.d=x0.d
 wc:x1.wcur=x0.wcur
 b:MRunB x1 R'.cnt
 vk:Blk wr vb 52 (u64V V).toArray
 vl:V.length=r.places.toNat
 v64:All64 V
 vo:¬MOwn C x1 vb
 vlo:C.w0.heap.size<=vb
 rk:Blk wr rb 89 #[p,q,.int .i64 r.places,t,s]
 ro:¬MOwn C x1 rb
 ok:StOk C.p.env x1.s
 k:k<r.code.length
theorem RowI.pos{C:MaC}{x0:MaS}{r:RowD}{R:ResD}{t:BZ}{x1:MaS}{R':ResD}(h:RowI C x0 r R wB vb rb p q t s k x1 V R' wr):1<=R'.cnt:=by
 cases h.ev <;> simp <;> omega
theorem bJj{C:MaC}{x0 x1 x2:MaS}{r:RowD}{R R':ResD}{t v:BZ}(I:RowI C x0 r R wB vb rb p q t s k x1 V R' wr)(M:MRef C x2 w')(K:MK C x0 x2 wB w')(hs:R'.s=x2.s)(he:R'.e=x2.e)(hc:x2.cnt=x1.cnt+R'.cnt)(a:x2.wmax=max x1.wmax (x1.wcur+R'.wds))(b:x2.wcur=x1.wcur)(hd:x2.d=x1.d)
  (hv:∃ A n c,v = .slice A n c) (f:R'.e=0->w'.ownsRow wB.heap.size 52 1 v R'.out.length (u64V R'.out)/\All64 R'.out):RunR C x0 R.s R.e R.cnt R.wds R.out wB (.returned v) w':=by
 refine⟨v,x2,rfl,M,K,hs.symm.trans I.ts,he.symm.trans I.te,?_,?_,b.trans I.wc,hd.trans I.d,hv,fun g=>?_⟩
 ·have:=I.tc;omega
 ·rw[a];exact I.tw
 ·have:=f (I.te.trans g)
  rwa[I.tou]at this
theorem bYh{C:MaC}{x0 x1 x2:MaS}{r:RowD}{R R' R2:ResD}{k2 dc wd:Nat}{t:BZ}{c:List Nat}(I:RowI C x0 r R wB vb rb p q t s k x1 V R' wr)(M:MRef C x2 w')(K:MK C x0 x2 wB w')(ev:Ev C.p C.lost x0.d r k2 c x2.s R2)(g:R'=⟨R2.out,R2.s,R2.e,1+dc+R2.cnt,max wd R2.wds⟩)
  (hc:x2.cnt=x1.cnt+1+dc) (h:x2.wmax=max x1.wmax (x1.wcur+wd)) (f:x2.wcur=x1.wcur) (hd:x2.d=x1.d) (he:x2.e=0) (hl:x2.s.log.length<=x1.s.log.length+9*(1+dc)) (i:x2.wmax<=1000000) (j:Blk w' vb 52 (u64V c).toArray) (l:c.length=r.places.toNat) (m:All64 c) (n:¬MOwn C x2 vb) (o:Blk w' rb 89 #[p,q,.int .i64 r.places,t,s]) (u:¬MOwn C x2 rb) (v:StOk C.p.env x2.s) (w:k2<r.code.length) :
  RowI C x0 r R wB vb rb p q t s k2 x2 c R2 w':=by
 have t:=I.tc;have a:=I.b;rw[g]at t a;have t:x1.cnt+(1+dc+R2.cnt)=x0.cnt+R.cnt:=t;have a:MRunB x1 (1+dc+R2.cnt):=a;have tw:=I.tw;rw[g]at tw;have tw:max x1.wmax (x1.wcur+max wd R2.wds)=max x0.wmax (x0.wcur+R.wds):=tw;have ts:=I.ts;have te:=I.te;have tou:=I.tou;rw[g]at ts te tou;refine⟨M,K,ev,by omega,ts,te,tou,?_,he,hd.trans I.d,f.trans I.wc,⟨?_,?_,?_,i,?_,?_⟩,j,l,m,n,I.vlo,o,u,v,w⟩
 ·rw[h,f];omega
 ·have:=a.cnt;omega
 ·have:=a.log;omega
 ·have:=a.wle;rw[h,f];omega
 ·have:=a.wcr;rw[f,hd];exact this
 ·have:=a.dle;rw[hd];exact this
theorem nY(t:Int)(n:Nat)(w:BX):BK fZ 53 #[.int .i64 t,.int .u64 n] w fun e w'=>e = .returned (.bool (iX t n))/\w=w':=by
 by_cases h1:t=126
 ·have c:(t == 126)=true:=(by simp[h1]);have a:=fQ (show iX t n=true by simp[iX,h1]);clear h1;go_in;go_wp2;go_ret;rw[a.out];exact⟨rfl,rfl⟩
 ·have c:(t == 126)=false:=(by simp[h1]);by_cases h2:t=127
  ·have d:(t == 127)=true:=(by simp[h2]);by_cases b:n<4294967296
   ·have f:decide ((n:Int)<4294967296)=true:=(by simp;omega);have a:=fQ (show iX t n=true by simp[iX,h2,b]);clear h1 h2;go_in;go_wp2;go_ret;rw[a.out];exact⟨rfl,rfl⟩
   ·have f:decide ((n:Int)<4294967296)=false:=(by simp;omega);have a:=fQ (show iX t n=false by simp[iX,h2,b]);clear h1 h2;go_in;go_wp2;go_ret;rw[a.out];exact⟨rfl,rfl⟩
  ·have d:(t == 127)=false:=(by simp[h2]);have a:=fQ (show iX t n=false by simp[iX,h1,h2]);clear h1 h2;go_in;go_wp2;go_ret;rw[a.out];exact⟨rfl,rfl⟩
theorem aXf(w:BX):BK fZ 137 #[.int .i64 127] w fun e w'=>e = .returned (.int .i64 32)/\w=w':=by
 go_in;go_wp2;go_ret;exact⟨rfl,rfl⟩
theorem aXg(w:BX):BK fZ 137 #[.int .i64 126] w fun e w'=>e = .returned (.int .i64 64)/\w=w':=by
 go_in;go_wp2;go_ret;exact⟨rfl,rfl⟩
theorem aKi(b:Bool)(w:BX):BK fZ 138 #[.bool b] w fun e w'=>e = .returned (.int .u64 (b01 b))/\w=w':=by
 cases b with
 | true=>
  go_in;go_wp2;go_ret;exact⟨rfl,rfl⟩
 | false=>
  go_in;go_wp2;go_ret;exact⟨rfl,rfl⟩
theorem aQm(z:Int)(w:BX):BK fZ 143 #[.int .u64 z,.int .i64 64] w fun e w'=>e = .returned (.int .u64 z)/\w=w':=by
 go_in;go_wp2;go_ret;exact⟨rfl,rfl⟩
theorem eJs{z:Int}(a:0<=z)(hz:z<18446744073709551616):bits .and .u64 z 4294967295=z % 4294967296:=by
 obtain⟨x,rfl⟩:=Int.eq_ofNat_of_zero_le a;rw[show(4294967295:Int)=((2 ^ 32 - 1:Nat):Int)from rfl,bits_and_u64_nat x (2 ^ 32 - 1) (by omega) (by decide),Nat.and_two_pow_sub_one_eq_mod];simp
theorem aQn(z:Int)(w:BX)(a:0<=z)(b:z<18446744073709551616):BK fZ 143 #[.int .u64 z,.int .i64 32] w fun e w'=>e = .returned (.int .u64 (z % 4294967296))/\w=w':=by
 have c:=fQ (eJs a b);go_in;go_wp2;go_ret;rw[<-c.out];exact⟨rfl,rfl⟩
theorem eYp(z:Int):wrap64 (IntKind.u64.wrap (z*4294967296)) / 4294967296=wrap32 z:=by rw[Aj];unfold wrap64 wrap32;omega
theorem eYq(z:Int):wrap64 (IntKind.u64.wrap (z*281474976710656)) / 281474976710656=IntKind.i16.wrap z:=by
 have a:z*281474976710656 % 18446744073709551616=281474976710656*(z % 65536):=by
  rw[Int.mul_comm z 281474976710656,show(18446744073709551616:Int)=281474976710656*65536 from rfl,Int.mul_emod_mul_of_pos _ _ (by decide)]
 rw[Aj,a];have b:0<=z % 65536:=Int.emod_nonneg _ (by decide);have h1:z % 65536<65536:=Int.emod_lt_of_pos _ (by decide);unfold wrap64;simp only[Bz,show(2:Int) ^ IntKind.i16.bits=65536 from rfl,show(2:Int) ^ IntKind.i8.bits=256 from rfl,show(2:Int) ^ (IntKind.i16.bits - 1)=32768 from rfl,show(2:Int) ^ (IntKind.i8.bits - 1)=128 from rfl];generalize z % 65536=r at b h1 ⊢
 split
 ·rename_i hs;have c:32768<=r:=(by simpa[Ac]using hs);omega
 ·rename_i hs;have c:r<32768:=(by simpa[Ac]using hs);omega
theorem sg8(z:Int):wrap64 (IntKind.u64.wrap (z*72057594037927936)) / 72057594037927936=IntKind.i8.wrap z:=by
 have a:z*72057594037927936 % 18446744073709551616=72057594037927936*(z % 256):=by
  rw[Int.mul_comm z 72057594037927936,show(18446744073709551616:Int)=72057594037927936*256 from rfl,Int.mul_emod_mul_of_pos _ _ (by decide)]
 rw[Aj,a];have b:0<=z % 256:=Int.emod_nonneg _ (by decide);have h1:z % 256<256:=Int.emod_lt_of_pos _ (by decide);unfold wrap64;simp only[Bz,show(2:Int) ^ IntKind.i16.bits=65536 from rfl,show(2:Int) ^ IntKind.i8.bits=256 from rfl,show(2:Int) ^ (IntKind.i16.bits - 1)=32768 from rfl,show(2:Int) ^ (IntKind.i8.bits - 1)=128 from rfl];generalize z % 256=r at b h1 ⊢
 split
 ·rename_i hs;have c:128<=r:=(by simpa[Ac]using hs);omega
 ·rename_i hs;have c:r<128:=(by simpa[Ac]using hs);omega
theorem aZg{k:IntKind}{a b:Int}(h:a=b):Ending.returned (.int k a) = .returned (.int k b):=by rw[h]
theorem aVv(z:Int)(w:BX)(h0:0<=z)(hz:z<18446744073709551616):BK fZ 144 #[.int .u64 z,.int .i64 64] w fun e w'=>e = .returned (.int .i64 (wrap64 z))/\w=w':=by
 go_in;go_wp2;go_ret;exact⟨rfl,rfl⟩
theorem aZh(z:Int)(w:BX)(h0:0<=z)(hz:z<18446744073709551616):BK fZ 144 #[.int .u64 z,.int .i64 32] w fun e w'=>e = .returned (.int .i64 (wrap32 z))/\w=w':=by
 go_in;go_wp2;go_ret;exact⟨aZg (eYp z),rfl⟩
theorem bYs(z:Int)(w:BX)(h0:0<=z)(hz:z<18446744073709551616):BK fZ 144 #[.int .u64 z,.int .i64 16] w fun e w'=>e = .returned (.int .i64 (IntKind.i16.wrap z))/\w=w':=by
 go_in;go_wp2;go_ret;exact⟨aZg (eYq z),rfl⟩
theorem cZa(z:Int)(w:BX)(h0:0<=z)(hz:z<18446744073709551616):BK fZ 144 #[.int .u64 z,.int .i64 8] w fun e w'=>e = .returned (.int .i64 (IntKind.i8.wrap z))/\w=w':=by
 go_in;go_wp2;go_ret;exact⟨aZg (sg8 z),rfl⟩
theorem bYt{x y:Int}(hk:k<10)(c:Blk w g 4 ((rK a b x y).map Value.bool).toArray):w.cell? ⟨g,k,none⟩=some (.bool ((rK a b x y).getD k false)):=by
 rw[c.cell k];simp only[List.getElem?_toArray,List.getElem?_map];rw[AX (by simp[rK];omega),List.getD_eq_getElem?_getD,AX (by simp[rK];omega)];rfl
theorem dZp(k a b:Nat)(w:BX)(f:k<10)(ha:a<18446744073709551616)(hb:b<18446744073709551616):BK fZ 140 #[.int .i64 k,.int .u64 a,.int .u64 b,.int .i64 64] w fun e w'=>e = .returned (.int .u64 (b01 ((rK a b (wrap64 a) (wrap64 b)).getD k false)))/\Below w.heap.size w w':=by
 have hc:=fun(w:BX)=>bYt (a:=a) (b:=b) (x:=wrap64 a) (y:=wrap64 b) f (Blk.new w 4 _);have g:=fQ hc;have ad:(k:Int)<10:=(by omega);have ae:k<10:=f;clear hc;go_in;go_wp2_with fail;refine(aVv (a:Int) _ (by omega) (by omega)).mono ?_;rintro e h ⟨rfl,rfl⟩;go_wp2_with fail;refine(aVv (b:Int) _ (by omega) (by omega)).mono ?_;rintro e h ⟨rfl,rfl⟩;obtain⟨r,d⟩:=fX ((rK a b (wrap64 a) (wrap64 b)).getD k false);have c:=g.out w;rw[d]at c;have i:=fQ d;generalize j:wrap64 (a:Int)=x at c ⊢;generalize l:wrap64 (b:Int)=y at c ⊢;simp only[rK,Bx,Bk,Bv]at c;clear j l g d;go_wp2_with fail;refine(aKi r _).mono ?_;rintro e h ⟨rfl,rfl⟩;go_wp2;go_ret;exact⟨aZg (by rw[i.out]),(Below.refl _ _).alloc (Ak _) _⟩
theorem dZq(k a b:Nat)(w:BX)(f:k<10)(ha:a<18446744073709551616)(hb:b<18446744073709551616):BK fZ 140 #[.int .i64 k,.int .u64 a,.int .u64 b,.int .i64 32] w fun e w'=>e = .returned (.int .u64 (b01 ((rK a b (wrap32 a) (wrap32 b)).getD k false)))/\Below w.heap.size w w':=by
 have hc:=fun(w:BX)=>bYt (a:=a) (b:=b) (x:=wrap32 a) (y:=wrap32 b) f (Blk.new w 4 _);have g:=fQ hc;have ad:(k:Int)<10:=(by omega);have ae:k<10:=f;clear hc;go_in;go_wp2_with fail;refine(aZh (a:Int) _ (by omega) (by omega)).mono ?_;rintro e h ⟨rfl,rfl⟩;go_wp2_with fail;refine(aZh (b:Int) _ (by omega) (by omega)).mono ?_;rintro e h ⟨rfl,rfl⟩;obtain⟨r,d⟩:=fX ((rK a b (wrap32 a) (wrap32 b)).getD k false);have c:=g.out w;rw[d]at c;have i:=fQ d;generalize j:wrap32 (a:Int)=x at c ⊢;generalize l:wrap32 (b:Int)=y at c ⊢;simp only[rK,Bx,Bk,Bv]at c;clear j l g d;go_wp2_with fail;refine(aKi r _).mono ?_;rintro e h ⟨rfl,rfl⟩;go_wp2;go_ret;exact⟨aZg (by rw[i.out]),(Below.refl _ _).alloc (Ak _) _⟩
theorem aXd:wrap64 9223372036854775808 = -9223372036854775808:=by unfold wrap64;omega
theorem aXe:wrap32 2147483648 = -2147483648:=by unfold wrap32;omega
theorem jJ(z x:Int)(w:BX)(a:0<=z)(b:z<18446744073709551616)(c:wrap64 z=x):BK fZ 144 #[.int .u64 z,.int .i64 64] w fun e w'=>e = .returned (.int .i64 x)/\w=w':=by
 subst c;exact aVv z w a b
theorem jK(z x:Int)(w:BX)(a:0<=z)(b:z<18446744073709551616)(c:wrap32 z=x):BK fZ 144 #[.int .u64 z,.int .i64 32] w fun e w'=>e = .returned (.int .i64 x)/\w=w':=by
 subst c;exact aZh z w a b
theorem nQ(z:Int):IntKind.u64.wrap (wrap64 z) % 4294967296=z % 4294967296:=by rw[oX];omega
theorem mY(z:Int):IntKind.u64.wrap z % 4294967296=z % 4294967296:=by rw[Aj];omega
theorem nJ(z:Int):0<=IntKind.u64.wrap z/\IntKind.u64.wrap z<18446744073709551616:=by rw[Aj];omega
theorem bZh(k a b:Nat)(w:BX)(m:k=0\/k=1\/k=2\/k=3)(ha:a<18446744073709551616)(hb:b<18446744073709551616):BK fZ 163 #[.int .i64 k,.int .u64 a,.int .u64 b,.int .i64 64] w fun e w'=>e = .returned (.tuple #[.int .u64 (hJ 18446744073709551616 (-9223372036854775808) k a b (wrap64 a) (wrap64 b)).1,.int .i64 (hJ 18446744073709551616 (-9223372036854775808) k a b (wrap64 a) (wrap64 b)).2])/\w=w':=by
 have n : -9223372036854775808<=wrap64 (a:Int)/\wrap64 (a:Int)<=9223372036854775807:=(by unfold wrap64;omega);have o : -9223372036854775808<=wrap64 (b:Int)/\wrap64 (b:Int)<=9223372036854775807:=(by unfold wrap64;omega);have j:wrap64 (b:Int)=0->b=0:=(by unfold wrap64;omega);obtain⟨x,g⟩:=fX (wrap64 (a:Int));obtain⟨y,h⟩:=fX (wrap64 (b:Int));rw[g]at n;rw[h]at o j;rw[g,h];replace g:=fQ g;replace h:=fQ h;obtain⟨ag,ah⟩:=n;obtain⟨hy1,ai⟩:=o;have aj:a<18446744073709551616:=(by omega);have ak:b<18446744073709551616:=(by omega);by_cases d:b=0
 ·have p:((b:Int) == 0)=true:=(by simp[d]);have f:=fQ (show hJ 18446744073709551616 (-9223372036854775808) k a b x y=(0,33) by simp[hJ,d]);clear d j m;go_in;go_wp2_with fail;refine(jJ (a:Int) x _ (by omega) (by omega) g.out).mono ?_;rintro e c ⟨rfl,rfl⟩;go_wp2_with fail;refine(jJ (b:Int) y _ (by omega) (by omega) h.out).mono ?_;rintro e c ⟨rfl,rfl⟩;go_wp2;go_ret2;rw[f.out];exact⟨rfl,rfl⟩
 have p:((b:Int) == 0)=false:=(by simp;omega);have al:(y == 0)=false:=(by simp;intro e;exact d (j e));have af:¬y=0:=fun e=>d (j e);have an:0<b:=(by omega);by_cases i:y = -1
 ·have y1:(y == -1)=true:=(by simp[i]);by_cases l:x = -9223372036854775808
  ·have x1:(x == -9223372036854775808)=true:=(by simp[l]);rcases m with rfl | rfl | rfl | rfl
   ·have f:=fQ (show hJ 18446744073709551616 (-9223372036854775808) ((0:Nat):Int) a b x y=(0,34)from by simp[hJ,d,i,l]);clear d j i l;go_in;go_wp2_with fail;refine(jJ (a:Int) x _ (by omega) (by omega) g.out).mono ?_;rintro e c ⟨rfl,rfl⟩;go_wp2_with fail;refine(jJ (b:Int) y _ (by omega) (by omega) h.out).mono ?_;rintro e c ⟨rfl,rfl⟩;go_wp2_with fail;refine(jJ 9223372036854775808 (-9223372036854775808) _ (by omega) (by omega) aXd).mono ?_;rintro e c ⟨rfl,rfl⟩;go_wp2;go_ret2;rw[f.out];exact⟨rfl,rfl⟩
   ·have f:=fQ (show hJ 18446744073709551616 (-9223372036854775808) ((1:Nat):Int) a b x y=((a:Int) / b,0)from by unfold hJ;rw[if_neg d,if_neg (by decide),if_pos (by rfl)]);clear d j i l;go_in;go_wp2_with fail;refine(jJ (a:Int) x _ (by omega) (by omega) g.out).mono ?_;rintro e c ⟨rfl,rfl⟩;go_wp2_with fail;refine(jJ (b:Int) y _ (by omega) (by omega) h.out).mono ?_;rintro e c ⟨rfl,rfl⟩;go_wp2_with fail;refine(jJ 9223372036854775808 (-9223372036854775808) _ (by omega) (by omega) aXd).mono ?_;rintro e c ⟨rfl,rfl⟩;go_wp2;go_ret2;rw[f.out];exact⟨gW (by first | rfl | (rw[Aj];exact uJ (by omega))),rfl⟩
   ·have f:=fQ (show hJ 18446744073709551616 (-9223372036854775808) ((2:Nat):Int) a b x y=(0,0)from by unfold hJ;rw[if_neg d,if_neg (by decide),if_neg (by decide),if_pos (by rfl),i,Int.tmod_neg,Int.tmod_one];rfl);clear d j i l;go_in;go_wp2_with fail;refine(jJ (a:Int) x _ (by omega) (by omega) g.out).mono ?_;rintro e c ⟨rfl,rfl⟩;go_wp2_with fail;refine(jJ (b:Int) y _ (by omega) (by omega) h.out).mono ?_;rintro e c ⟨rfl,rfl⟩;go_wp2_with fail;refine(jJ 9223372036854775808 (-9223372036854775808) _ (by omega) (by omega) aXd).mono ?_;rintro e c ⟨rfl,rfl⟩;go_wp2;go_ret2;rw[f.out];exact⟨rfl,rfl⟩
   ·have f:=fQ (show hJ 18446744073709551616 (-9223372036854775808) ((3:Nat):Int) a b x y=((a:Int) % b,0)from by unfold hJ;rw[if_neg d,if_neg (by decide),if_neg (by decide),if_neg (by decide)]);clear d j i l;go_in;go_wp2_with fail;refine(jJ (a:Int) x _ (by omega) (by omega) g.out).mono ?_;rintro e c ⟨rfl,rfl⟩;go_wp2_with fail;refine(jJ (b:Int) y _ (by omega) (by omega) h.out).mono ?_;rintro e c ⟨rfl,rfl⟩;go_wp2_with fail;refine(jJ 9223372036854775808 (-9223372036854775808) _ (by omega) (by omega) aXd).mono ?_;rintro e c ⟨rfl,rfl⟩;go_wp2;go_ret2;rw[f.out];exact⟨gW (by first | rfl | (rw[Aj];exact uK (by omega))),rfl⟩
  ·have x1:(x == -9223372036854775808)=false:=(by simp[l]);rcases m with rfl | rfl | rfl | rfl
   ·have f:=fQ (show hJ 18446744073709551616 (-9223372036854775808) ((0:Nat):Int) a b x y=((x.tdiv y) % 18446744073709551616,0)from by unfold hJ;rw[if_neg d,if_pos (by rfl),if_neg (by simp[l])]);clear d j i l;go_in;go_wp2_with fail;refine(jJ (a:Int) x _ (by omega) (by omega) g.out).mono ?_;rintro e c ⟨rfl,rfl⟩;go_wp2_with fail;refine(jJ (b:Int) y _ (by omega) (by omega) h.out).mono ?_;rintro e c ⟨rfl,rfl⟩;go_wp2_with fail;refine(jJ 9223372036854775808 (-9223372036854775808) _ (by omega) (by omega) aXd).mono ?_;rintro e c ⟨rfl,rfl⟩;go_wp2_with fail;refine(aQm _ _).mono ?_;rintro e c ⟨rfl,rfl⟩;go_wp2;go_ret2;rw[f.out];exact⟨gW (by first | exact oX _ | exact Aj _ | exact nQ _ | exact mY _),rfl⟩
   ·have f:=fQ (show hJ 18446744073709551616 (-9223372036854775808) ((1:Nat):Int) a b x y=((a:Int) / b,0)from by unfold hJ;rw[if_neg d,if_neg (by decide),if_pos (by rfl)]);clear d j i l;go_in;go_wp2_with fail;refine(jJ (a:Int) x _ (by omega) (by omega) g.out).mono ?_;rintro e c ⟨rfl,rfl⟩;go_wp2_with fail;refine(jJ (b:Int) y _ (by omega) (by omega) h.out).mono ?_;rintro e c ⟨rfl,rfl⟩;go_wp2_with fail;refine(jJ 9223372036854775808 (-9223372036854775808) _ (by omega) (by omega) aXd).mono ?_;rintro e c ⟨rfl,rfl⟩;go_wp2;go_ret2;rw[f.out];exact⟨gW (by first | rfl | (rw[Aj];exact uJ (by omega))),rfl⟩
   ·have f:=fQ (show hJ 18446744073709551616 (-9223372036854775808) ((2:Nat):Int) a b x y=((x.tmod y) % 18446744073709551616,0)from by unfold hJ;rw[if_neg d,if_neg (by decide),if_neg (by decide),if_pos (by rfl)]);clear d j i l;go_in;go_wp2_with fail;refine(jJ (a:Int) x _ (by omega) (by omega) g.out).mono ?_;rintro e c ⟨rfl,rfl⟩;go_wp2_with fail;refine(jJ (b:Int) y _ (by omega) (by omega) h.out).mono ?_;rintro e c ⟨rfl,rfl⟩;go_wp2_with fail;refine(jJ 9223372036854775808 (-9223372036854775808) _ (by omega) (by omega) aXd).mono ?_;rintro e c ⟨rfl,rfl⟩;go_wp2_with fail;refine(aQm _ _).mono ?_;rintro e c ⟨rfl,rfl⟩;go_wp2;go_ret2;rw[f.out];exact⟨gW (by first | exact oX _ | exact Aj _ | exact nQ _ | exact mY _),rfl⟩
   ·have f:=fQ (show hJ 18446744073709551616 (-9223372036854775808) ((3:Nat):Int) a b x y=((a:Int) % b,0)from by unfold hJ;rw[if_neg d,if_neg (by decide),if_neg (by decide),if_neg (by decide)]);clear d j i l;go_in;go_wp2_with fail;refine(jJ (a:Int) x _ (by omega) (by omega) g.out).mono ?_;rintro e c ⟨rfl,rfl⟩;go_wp2_with fail;refine(jJ (b:Int) y _ (by omega) (by omega) h.out).mono ?_;rintro e c ⟨rfl,rfl⟩;go_wp2_with fail;refine(jJ 9223372036854775808 (-9223372036854775808) _ (by omega) (by omega) aXd).mono ?_;rintro e c ⟨rfl,rfl⟩;go_wp2;go_ret2;rw[f.out];exact⟨gW (by first | rfl | (rw[Aj];exact uK (by omega))),rfl⟩
 ·have y1:(y == -1)=false:=(by simp[i]);rcases m with rfl | rfl | rfl | rfl
  ·have f:=fQ (show hJ 18446744073709551616 (-9223372036854775808) ((0:Nat):Int) a b x y=((x.tdiv y) % 18446744073709551616,0)from by unfold hJ;rw[if_neg d,if_pos (by rfl),if_neg (by simp[i])]);clear d j i;go_in;go_wp2_with fail;refine(jJ (a:Int) x _ (by omega) (by omega) g.out).mono ?_;rintro e c ⟨rfl,rfl⟩;go_wp2_with fail;refine(jJ (b:Int) y _ (by omega) (by omega) h.out).mono ?_;rintro e c ⟨rfl,rfl⟩;go_wp2_with fail;refine(aQm _ _).mono ?_;rintro e c ⟨rfl,rfl⟩;go_wp2;go_ret2;rw[f.out];exact⟨gW (by first | exact oX _ | exact Aj _ | exact nQ _ | exact mY _),rfl⟩
  ·have f:=fQ (show hJ 18446744073709551616 (-9223372036854775808) ((1:Nat):Int) a b x y=((a:Int) / b,0)from by unfold hJ;rw[if_neg d,if_neg (by decide),if_pos (by rfl)]);clear d j i;go_in;go_wp2_with fail;refine(jJ (a:Int) x _ (by omega) (by omega) g.out).mono ?_;rintro e c ⟨rfl,rfl⟩;go_wp2_with fail;refine(jJ (b:Int) y _ (by omega) (by omega) h.out).mono ?_;rintro e c ⟨rfl,rfl⟩;go_wp2;go_ret2;rw[f.out];exact⟨gW (by first | rfl | (rw[Aj];exact uJ (by omega))),rfl⟩
  ·have f:=fQ (show hJ 18446744073709551616 (-9223372036854775808) ((2:Nat):Int) a b x y=((x.tmod y) % 18446744073709551616,0)from by unfold hJ;rw[if_neg d,if_neg (by decide),if_neg (by decide),if_pos (by rfl)]);clear d j i;go_in;go_wp2_with fail;refine(jJ (a:Int) x _ (by omega) (by omega) g.out).mono ?_;rintro e c ⟨rfl,rfl⟩;go_wp2_with fail;refine(jJ (b:Int) y _ (by omega) (by omega) h.out).mono ?_;rintro e c ⟨rfl,rfl⟩;go_wp2_with fail;refine(aQm _ _).mono ?_;rintro e c ⟨rfl,rfl⟩;go_wp2;go_ret2;rw[f.out];exact⟨gW (by first | exact oX _ | exact Aj _ | exact nQ _ | exact mY _),rfl⟩
  ·have f:=fQ (show hJ 18446744073709551616 (-9223372036854775808) ((3:Nat):Int) a b x y=((a:Int) % b,0)from by unfold hJ;rw[if_neg d,if_neg (by decide),if_neg (by decide),if_neg (by decide)]);clear d j i;go_in;go_wp2_with fail;refine(jJ (a:Int) x _ (by omega) (by omega) g.out).mono ?_;rintro e c ⟨rfl,rfl⟩;go_wp2_with fail;refine(jJ (b:Int) y _ (by omega) (by omega) h.out).mono ?_;rintro e c ⟨rfl,rfl⟩;go_wp2;go_ret2;rw[f.out];exact⟨gW (by first | rfl | (rw[Aj];exact uK (by omega))),rfl⟩
theorem bZi(k a b:Nat)(w:BX)(m:k=0\/k=1\/k=2\/k=3)(ha:a<4294967296)(hb:b<4294967296):BK fZ 163 #[.int .i64 k,.int .u64 a,.int .u64 b,.int .i64 32] w fun e w'=>e = .returned (.tuple #[.int .u64 (hJ 4294967296 (-2147483648) k a b (wrap32 a) (wrap32 b)).1,.int .i64 (hJ 4294967296 (-2147483648) k a b (wrap32 a) (wrap32 b)).2])/\w=w':=by
 have n : -2147483648<=wrap32 (a:Int)/\wrap32 (a:Int)<=2147483647:=(by unfold wrap32;omega);have o : -2147483648<=wrap32 (b:Int)/\wrap32 (b:Int)<=2147483647:=(by unfold wrap32;omega);have j:wrap32 (b:Int)=0->b=0:=(by unfold wrap32;omega);obtain⟨x,g⟩:=fX (wrap32 (a:Int));obtain⟨y,h⟩:=fX (wrap32 (b:Int));rw[g]at n;rw[h]at o j;rw[g,h];replace g:=fQ g;replace h:=fQ h;obtain⟨ag,ah⟩:=n;obtain⟨hy1,ai⟩:=o;have aj:a<18446744073709551616:=(by omega);have ak:b<18446744073709551616:=(by omega);by_cases d:b=0
 ·have p:((b:Int) == 0)=true:=(by simp[d]);have f:=fQ (show hJ 4294967296 (-2147483648) k a b x y=(0,33) by simp[hJ,d]);clear d j m;go_in;go_wp2_with fail;refine(jK (a:Int) x _ (by omega) (by omega) g.out).mono ?_;rintro e c ⟨rfl,rfl⟩;go_wp2_with fail;refine(jK (b:Int) y _ (by omega) (by omega) h.out).mono ?_;rintro e c ⟨rfl,rfl⟩;go_wp2;go_ret2;rw[f.out];exact⟨rfl,rfl⟩
 have p:((b:Int) == 0)=false:=(by simp;omega);have al:(y == 0)=false:=(by simp;intro e;exact d (j e));have af:¬y=0:=fun e=>d (j e);have an:0<b:=(by omega);by_cases i:y = -1
 ·have y1:(y == -1)=true:=(by simp[i]);by_cases l:x = -2147483648
  ·have x1:(x == -2147483648)=true:=(by simp[l]);rcases m with rfl | rfl | rfl | rfl
   ·have f:=fQ (show hJ 4294967296 (-2147483648) ((0:Nat):Int) a b x y=(0,34)from by simp[hJ,d,i,l]);clear d j i l;go_in;go_wp2_with fail;refine(jK (a:Int) x _ (by omega) (by omega) g.out).mono ?_;rintro e c ⟨rfl,rfl⟩;go_wp2_with fail;refine(jK (b:Int) y _ (by omega) (by omega) h.out).mono ?_;rintro e c ⟨rfl,rfl⟩;go_wp2_with fail;refine(jK 2147483648 (-2147483648) _ (by omega) (by omega) aXe).mono ?_;rintro e c ⟨rfl,rfl⟩;go_wp2;go_ret2;rw[f.out];exact⟨rfl,rfl⟩
   ·have f:=fQ (show hJ 4294967296 (-2147483648) ((1:Nat):Int) a b x y=((a:Int) / b,0)from by unfold hJ;rw[if_neg d,if_neg (by decide),if_pos (by rfl)]);clear d j i l;go_in;go_wp2_with fail;refine(jK (a:Int) x _ (by omega) (by omega) g.out).mono ?_;rintro e c ⟨rfl,rfl⟩;go_wp2_with fail;refine(jK (b:Int) y _ (by omega) (by omega) h.out).mono ?_;rintro e c ⟨rfl,rfl⟩;go_wp2_with fail;refine(jK 2147483648 (-2147483648) _ (by omega) (by omega) aXe).mono ?_;rintro e c ⟨rfl,rfl⟩;go_wp2;go_ret2;rw[f.out];exact⟨gW (by first | rfl | (rw[Aj];exact uJ (by omega))),rfl⟩
   ·have f:=fQ (show hJ 4294967296 (-2147483648) ((2:Nat):Int) a b x y=(0,0)from by unfold hJ;rw[if_neg d,if_neg (by decide),if_neg (by decide),if_pos (by rfl),i,Int.tmod_neg,Int.tmod_one];rfl);clear d j i l;go_in;go_wp2_with fail;refine(jK (a:Int) x _ (by omega) (by omega) g.out).mono ?_;rintro e c ⟨rfl,rfl⟩;go_wp2_with fail;refine(jK (b:Int) y _ (by omega) (by omega) h.out).mono ?_;rintro e c ⟨rfl,rfl⟩;go_wp2_with fail;refine(jK 2147483648 (-2147483648) _ (by omega) (by omega) aXe).mono ?_;rintro e c ⟨rfl,rfl⟩;go_wp2;go_ret2;rw[f.out];exact⟨rfl,rfl⟩
   ·have f:=fQ (show hJ 4294967296 (-2147483648) ((3:Nat):Int) a b x y=((a:Int) % b,0)from by unfold hJ;rw[if_neg d,if_neg (by decide),if_neg (by decide),if_neg (by decide)]);clear d j i l;go_in;go_wp2_with fail;refine(jK (a:Int) x _ (by omega) (by omega) g.out).mono ?_;rintro e c ⟨rfl,rfl⟩;go_wp2_with fail;refine(jK (b:Int) y _ (by omega) (by omega) h.out).mono ?_;rintro e c ⟨rfl,rfl⟩;go_wp2_with fail;refine(jK 2147483648 (-2147483648) _ (by omega) (by omega) aXe).mono ?_;rintro e c ⟨rfl,rfl⟩;go_wp2;go_ret2;rw[f.out];exact⟨gW (by first | rfl | (rw[Aj];exact uK (by omega))),rfl⟩
  ·have x1:(x == -2147483648)=false:=(by simp[l]);rcases m with rfl | rfl | rfl | rfl
   ·have f:=fQ (show hJ 4294967296 (-2147483648) ((0:Nat):Int) a b x y=((x.tdiv y) % 4294967296,0)from by unfold hJ;rw[if_neg d,if_pos (by rfl),if_neg (by simp[l])]);clear d j i l;go_in;go_wp2_with fail;refine(jK (a:Int) x _ (by omega) (by omega) g.out).mono ?_;rintro e c ⟨rfl,rfl⟩;go_wp2_with fail;refine(jK (b:Int) y _ (by omega) (by omega) h.out).mono ?_;rintro e c ⟨rfl,rfl⟩;go_wp2_with fail;refine(jK 2147483648 (-2147483648) _ (by omega) (by omega) aXe).mono ?_;rintro e c ⟨rfl,rfl⟩;go_wp2_with fail;refine(aQn _ _ (nJ _).1 (nJ _).2).mono ?_;rintro e c ⟨rfl,rfl⟩;go_wp2;go_ret2;rw[f.out];exact⟨gW (by first | exact oX _ | exact Aj _ | exact nQ _ | exact mY _),rfl⟩
   ·have f:=fQ (show hJ 4294967296 (-2147483648) ((1:Nat):Int) a b x y=((a:Int) / b,0)from by unfold hJ;rw[if_neg d,if_neg (by decide),if_pos (by rfl)]);clear d j i l;go_in;go_wp2_with fail;refine(jK (a:Int) x _ (by omega) (by omega) g.out).mono ?_;rintro e c ⟨rfl,rfl⟩;go_wp2_with fail;refine(jK (b:Int) y _ (by omega) (by omega) h.out).mono ?_;rintro e c ⟨rfl,rfl⟩;go_wp2_with fail;refine(jK 2147483648 (-2147483648) _ (by omega) (by omega) aXe).mono ?_;rintro e c ⟨rfl,rfl⟩;go_wp2;go_ret2;rw[f.out];exact⟨gW (by first | rfl | (rw[Aj];exact uJ (by omega))),rfl⟩
   ·have f:=fQ (show hJ 4294967296 (-2147483648) ((2:Nat):Int) a b x y=((x.tmod y) % 4294967296,0)from by unfold hJ;rw[if_neg d,if_neg (by decide),if_neg (by decide),if_pos (by rfl)]);clear d j i l;go_in;go_wp2_with fail;refine(jK (a:Int) x _ (by omega) (by omega) g.out).mono ?_;rintro e c ⟨rfl,rfl⟩;go_wp2_with fail;refine(jK (b:Int) y _ (by omega) (by omega) h.out).mono ?_;rintro e c ⟨rfl,rfl⟩;go_wp2_with fail;refine(jK 2147483648 (-2147483648) _ (by omega) (by omega) aXe).mono ?_;rintro e c ⟨rfl,rfl⟩;go_wp2_with fail;refine(aQn _ _ (nJ _).1 (nJ _).2).mono ?_;rintro e c ⟨rfl,rfl⟩;go_wp2;go_ret2;rw[f.out];exact⟨gW (by first | exact oX _ | exact Aj _ | exact nQ _ | exact mY _),rfl⟩
   ·have f:=fQ (show hJ 4294967296 (-2147483648) ((3:Nat):Int) a b x y=((a:Int) % b,0)from by unfold hJ;rw[if_neg d,if_neg (by decide),if_neg (by decide),if_neg (by decide)]);clear d j i l;go_in;go_wp2_with fail;refine(jK (a:Int) x _ (by omega) (by omega) g.out).mono ?_;rintro e c ⟨rfl,rfl⟩;go_wp2_with fail;refine(jK (b:Int) y _ (by omega) (by omega) h.out).mono ?_;rintro e c ⟨rfl,rfl⟩;go_wp2_with fail;refine(jK 2147483648 (-2147483648) _ (by omega) (by omega) aXe).mono ?_;rintro e c ⟨rfl,rfl⟩;go_wp2;go_ret2;rw[f.out];exact⟨gW (by first | rfl | (rw[Aj];exact uK (by omega))),rfl⟩
 ·have y1:(y == -1)=false:=(by simp[i]);rcases m with rfl | rfl | rfl | rfl
  ·have f:=fQ (show hJ 4294967296 (-2147483648) ((0:Nat):Int) a b x y=((x.tdiv y) % 4294967296,0)from by unfold hJ;rw[if_neg d,if_pos (by rfl),if_neg (by simp[i])]);clear d j i;go_in;go_wp2_with fail;refine(jK (a:Int) x _ (by omega) (by omega) g.out).mono ?_;rintro e c ⟨rfl,rfl⟩;go_wp2_with fail;refine(jK (b:Int) y _ (by omega) (by omega) h.out).mono ?_;rintro e c ⟨rfl,rfl⟩;go_wp2_with fail;refine(aQn _ _ (nJ _).1 (nJ _).2).mono ?_;rintro e c ⟨rfl,rfl⟩;go_wp2;go_ret2;rw[f.out];exact⟨gW (by first | exact oX _ | exact Aj _ | exact nQ _ | exact mY _),rfl⟩
  ·have f:=fQ (show hJ 4294967296 (-2147483648) ((1:Nat):Int) a b x y=((a:Int) / b,0)from by unfold hJ;rw[if_neg d,if_neg (by decide),if_pos (by rfl)]);clear d j i;go_in;go_wp2_with fail;refine(jK (a:Int) x _ (by omega) (by omega) g.out).mono ?_;rintro e c ⟨rfl,rfl⟩;go_wp2_with fail;refine(jK (b:Int) y _ (by omega) (by omega) h.out).mono ?_;rintro e c ⟨rfl,rfl⟩;go_wp2;go_ret2;rw[f.out];exact⟨gW (by first | rfl | (rw[Aj];exact uJ (by omega))),rfl⟩
  ·have f:=fQ (show hJ 4294967296 (-2147483648) ((2:Nat):Int) a b x y=((x.tmod y) % 4294967296,0)from by unfold hJ;rw[if_neg d,if_neg (by decide),if_neg (by decide),if_pos (by rfl)]);clear d j i;go_in;go_wp2_with fail;refine(jK (a:Int) x _ (by omega) (by omega) g.out).mono ?_;rintro e c ⟨rfl,rfl⟩;go_wp2_with fail;refine(jK (b:Int) y _ (by omega) (by omega) h.out).mono ?_;rintro e c ⟨rfl,rfl⟩;go_wp2_with fail;refine(aQn _ _ (nJ _).1 (nJ _).2).mono ?_;rintro e c ⟨rfl,rfl⟩;go_wp2;go_ret2;rw[f.out];exact⟨gW (by first | exact oX _ | exact Aj _ | exact nQ _ | exact mY _),rfl⟩
  ·have f:=fQ (show hJ 4294967296 (-2147483648) ((3:Nat):Int) a b x y=((a:Int) % b,0)from by unfold hJ;rw[if_neg d,if_neg (by decide),if_neg (by decide),if_neg (by decide)]);clear d j i;go_in;go_wp2_with fail;refine(jK (a:Int) x _ (by omega) (by omega) g.out).mono ?_;rintro e c ⟨rfl,rfl⟩;go_wp2_with fail;refine(jK (b:Int) y _ (by omega) (by omega) h.out).mono ?_;rintro e c ⟨rfl,rfl⟩;go_wp2;go_ret2;rw[f.out];exact⟨gW (by first | rfl | (rw[Aj];exact uK (by omega))),rfl⟩
section
open Go.Lib
def rot(W a n:Nat):Nat:=a % 2 ^ (W - n)*2 ^ n+a / 2 ^ (W - n)
theorem aYe(hn:n<=W):2 ^ W=2 ^ (W - n)*2 ^ n:=by rw[<-By];congr 1;omega
theorem cQa(hn:n<=W)(ha:a<2 ^ W):a / 2 ^ (W - n)<2 ^ n:=by
 rw[Nat.div_lt_iff_lt_mul (Bq _),Ah,<-aYe hn];exact ha
theorem bZo(hn:n<=W)(ha:a<2 ^ W):(a*2 ^ n % 2 ^ W) ||| (a / 2 ^ (W - n))=rot W a n:=by
 have h1:a*2 ^ n % 2 ^ W=a % 2 ^ (W - n)*2 ^ n:=(by rw[aYe hn];exact Nat.mul_mod_mul_right ..);rw[h1,rot,Ah (a % 2 ^ (W - n)),Ab (cQa hn ha)]
theorem dJm(hn:n<=W)(ha:a<2 ^ W):(a / 2 ^ n) ||| (a*2 ^ (W - n) % 2 ^ W)=rot W a (W - n):=by
 have:=bZo (W:=W) (a:=a) (n:=W - n) (by omega) ha;rw[show W - (W - n)=n from by omega]at this;rw[Nat.or_comm];exact this
theorem dJn(hn:n<=W)(ha:a<2 ^ W):rot W a n<2 ^ W:=by
 have h1:=cQa hn ha;have h2:a % 2 ^ (W - n)<2 ^ (W - n):=AW _ (Bq _);have b:(a % 2 ^ (W - n)+1)*2 ^ n<=2 ^ (W - n)*2 ^ n:=Ae _ h2;rw[Af,Nat.one_mul,<-aYe hn]at b;unfold rot;omega
theorem cQb(ha:a<2 ^ W):rot W a 0=a:=by simp[rot,Ay ha,Ai ha]
end
theorem bYu(hn:n+1<=W)(ha:a<2 ^ W):rot W (rot W a n) 1=rot W a (n+1):=by
 have d:2 ^ (W - n)=2 ^ (W - (n+1))*2:=(by rw[<-Bw];congr 1;omega);have e2:2 ^ (W - 1)=2 ^ (W - (n+1))*2 ^ n:=(by rw[<-By];congr 1;omega);have b:=cQa (n:=n) (by omega) ha;have c:0<2 ^ (W - (n+1)):=BJ (by decide);have e:0<2 ^ n:=BJ (by decide);unfold rot;rw[e2,d,show 2 ^ (n+1)=2 ^ n*2 from Bw ..];rw[d]at b;generalize 2 ^ (W - (n+1))=P at c b ⊢;generalize 2 ^ n=Q at e b ⊢;rw[show a % (P*2)=a % P+P*(a / P % 2)from Nat.mod_mul,show a / (P*2)=a / P / 2 from(Ad ..).symm];rw[<-Ad]at b;have f:a % P<P:=AW _ c;generalize a % P=h at f ⊢;generalize a / P=t at b ⊢;have hb:t % 2<2:=AW _ (by decide)
 have g:h*Q+t / 2<P*Q:=by
  have:(h+1)*Q<=P*Q:=Ae _ f;rw[Af]at this;omega
 have i:(h+P*(t % 2))*Q+t / 2=(P*Q)*(t % 2)+(h*Q+t / 2):=by
  rw[Af,Nat.mul_right_comm P (t % 2) Q];omega
 rw[i,Nat.mul_add_mod,Ay g,Nat.mul_add_div (Nat.mul_pos c e),Ai g];rw[BQ,<-Nat.mul_assoc,Af];omega
theorem eXi(c:Nat)(hc:c<2):x*2 ||| c=x*2+c:=by
 have:=Ab (i:=1) (b:=c) (by omega) x;rw[BQ]at this;rw[Ah x 2,this]
theorem eJt(hx:x<18446744073709551616):bits .or .u64 (IntKind.u64.wrap ((x:Int)*2)) ((x:Int) / 9223372036854775808)=((rot 64 x 1:Nat):Int):=by
 rw[Aj,show((x:Int)*2) % 18446744073709551616=((x*2 % 2 ^ 64:Nat):Int) by omega,show(x:Int) / 9223372036854775808=((x / 2 ^ (64 - 1):Nat):Int) by omega];rw[bits_or_u64_nat _ _ (by omega) (by omega),<-bZo (W:=64) (by decide) (by omega)]
theorem eJu(hx:x<4294967296):bits .or .u64 ((x:Int)*2) ((x:Int) / 2147483648) % 4294967296=((rot 32 x 1:Nat):Int):=by
 rw[show((x:Int)*2)=((x*2:Nat):Int) by omega,show(x:Int) / 2147483648=((x / 2147483648:Nat):Int) by omega];rw[bits_or_u64_nat _ _ (by omega) (by omega),eXi _ (by omega)];unfold rot;omega
def dYo(W a n:Nat)(av i:BZ):Prop:=∃ k:Nat,k<=n/\i = .int .i64 k/\av = .int .u64 ((rot W a k:Nat):Int)
theorem bYv(a n:Nat)(w:BX)(hn:n<=64)(ha:a<18446744073709551616):BK fZ 162 #[.int .u64 a,.int .i64 n,.int .i64 64] w fun e w'=>e = .returned (.int .u64 ((rot 64 a n:Nat):Int))/\w=w':=by
 have b:=fQ (show a<2 ^ 64 from ha);go_in;go_wp2_with fail;go_loop [0,7] (fun av i=>dYo 64 a n av i) (fun _ i=>n+1 - (intOf i).toNat)
 case atStart=>exact⟨0,by omega,rfl,by rw[cQb b.out]⟩
 case round=>
  obtain⟨k,hk,rfl,rfl⟩:=hrel;by_cases f:k<n
  ·have g:decide ((k:Int)<(n:Int))=true:=(by simpa using f);have c:=dJn (W:=64) (n:=k) (by omega) b.out;have d:=fQ (bYu (n:=k) (W:=64) (by omega) b.out);generalize rot 64 a k=x at c d ⊢;go_wp2_with fail;refine(aQm _ _).mono ?_;rintro e w1 ⟨rfl,rfl⟩;go_wp2;refine⟨⟨k+1,by omega,by simp,?_⟩,by simp[intOf];omega⟩;rw[<-d.out,<-eJt c]
  ·obtain rfl:k=n:=(by omega);have g:decide ((k:Int)<(k:Int))=false:=(by simp);go_wp2;go_ret;exact⟨rfl,rfl⟩
theorem bYw(a n:Nat)(w:BX)(hn:n<=32)(ha:a<4294967296):BK fZ 162 #[.int .u64 a,.int .i64 n,.int .i64 32] w fun e w'=>e = .returned (.int .u64 ((rot 32 a n:Nat):Int))/\w=w':=by
 have b:=fQ (show a<2 ^ 32 from ha);go_in;go_wp2_with fail;go_loop [0,7] (fun av i=>dYo 32 a n av i) (fun _ i=>n+1 - (intOf i).toNat)
 case atStart=>exact⟨0,by omega,rfl,by rw[cQb b.out]⟩
 case round=>
  obtain⟨k,hk,rfl,rfl⟩:=hrel;by_cases f:k<n
  ·have g:decide ((k:Int)<(n:Int))=true:=(by simpa using f);have c:=dJn (W:=32) (n:=k) (by omega) b.out;have d:=fQ (bYu (n:=k) (W:=32) (by omega) b.out);generalize rot 32 a k=x at c d ⊢;go_wp2_with fail;refine(aQn _ _ ?_ ?_).mono ?_
   ·exact(aJv _ _ _).1
   ·exact(aJv _ _ _).2
   rintro e w1 ⟨rfl,rfl⟩;go_wp2;refine⟨⟨k+1,by omega,by simp,?_⟩,by simp[intOf];omega⟩;rw[<-d.out,<-eJu c]
  ·obtain rfl:k=n:=(by omega);have g:decide ((k:Int)<(k:Int))=false:=(by simp);go_wp2;go_ret;exact⟨rfl,rfl⟩
end Go.Proofs.YtabibkpfgmolkaaGreatDoor
namespace Go.Proofs.YtabibkpfgmolkaaGreatDoor
variable {a b n W g k base vb rb x:Nat}{w wr w' wB:BX}{v x0 x1 x2 x3 x4 x5 p q s:BZ}{t e:TypeId}{V:List Nat}
theorem eVf(ha:a<18446744073709551616)(c:b<18446744073709551616):bits .or .u64 (a:Int) (b:Int)=((a ||| b:Nat):Int):=bits_or_u64_nat a b ha c
theorem eWh{b:Nat}(n:Nat)(hn:n<=64)(ha:a<18446744073709551616):bits .or .u64 (IntKind.u64.wrap ((a:Int)*2 ^ n)) ((a:Int) / 2 ^ (64 - n))=((rot 64 a n:Nat):Int):=by
 have c:IntKind.u64.wrap ((a:Int)*2 ^ n)=((a*2 ^ n % 2 ^ 64:Nat):Int):=(by rw[Aj];simp);have e2:(a:Int) / 2 ^ (64 - n)=((a / 2 ^ (64 - n):Nat):Int):=(by simp);rw[c,e2,eVf (AW _ (by decide)) (AZ (AY _ _) ha),bZo hn ha]
theorem eWi{b:Nat}(n:Nat)(hn:n<=64)(ha:a<18446744073709551616):bits .or .u64 ((a:Int) / 2 ^ n) (IntKind.u64.wrap ((a:Int)*2 ^ (64 - n)))=((rot 64 a (64 - n):Nat):Int):=by
 have c:IntKind.u64.wrap ((a:Int)*2 ^ (64 - n))=((a*2 ^ (64 - n) % 2 ^ 64:Nat):Int):=(by rw[Aj];simp);have e2:(a:Int) / 2 ^ n=((a / 2 ^ n:Nat):Int):=(by simp);rw[c,e2,eVf (AZ (AY _ _) ha) (AW _ (by decide)),dJm hn ha]
theorem eJv(ha:a<4294967296)(c:b<4294967296):bits .and .u32 (a:Int) (b:Int)=bits .and .u64 (a:Int) (b:Int):=by
 rw[bits_and_u32_nat a b ha c,bits_and_u64_nat a b (by omega) (by omega)]
theorem cKb(ha:a<4294967296)(hb:b<4294967296):bits .or .u32 (a:Int) (b:Int)=((a ||| b:Nat):Int):=by
 have hx:a ||| b<2 ^ 32:=Nat.or_lt_two_pow (by omega) (by omega)
 have h1:(BitVec.ofInt 32 (a:Int)).toNat=a:=by
  rw[BitVec.ofInt_natCast,BitVec.toNat_ofNat];exact Ay (by omega)
 have h2:(BitVec.ofInt 32 (b:Int)).toNat=b:=by
  rw[BitVec.ofInt_natCast,BitVec.toNat_ofNat];exact Ay (by omega)
 show IntKind.u32.wrap ((BitVec.ofInt 32 (a:Int) ||| BitVec.ofInt 32 (b:Int)).toNat:Int)=_;rw[BitVec.toNat_or,h1,h2,Aw];omega
theorem eJw(ha:a<4294967296)(hb:b<4294967296):bits .xor .u32 (a:Int) (b:Int)=((a ^^^ b:Nat):Int):=by
 have hx:a ^^^ b<2 ^ 32:=Nat.xor_lt_two_pow (by omega) (by omega)
 have h1:(BitVec.ofInt 32 (a:Int)).toNat=a:=by
  rw[BitVec.ofInt_natCast,BitVec.toNat_ofNat];exact Ay (by omega)
 have h2:(BitVec.ofInt 32 (b:Int)).toNat=b:=by
  rw[BitVec.ofInt_natCast,BitVec.toNat_ofNat];exact Ay (by omega)
 show IntKind.u32.wrap ((BitVec.ofInt 32 (a:Int) ^^^ BitVec.ofInt 32 (b:Int)).toNat:Int)=_;rw[BitVec.toNat_xor,h1,h2,Aw];omega
theorem eJx(n:Nat)(hn:n<=32)(ha:a<4294967296):bits .or .u32 (IntKind.u32.wrap ((a:Int)*2 ^ n)) ((a:Int) / 2 ^ (32 - n))=((rot 32 a n:Nat):Int):=by
 have b:IntKind.u32.wrap ((a:Int)*2 ^ n)=((a*2 ^ n % 2 ^ 32:Nat):Int):=(by rw[Aw];simp);have e2:(a:Int) / 2 ^ (32 - n)=((a / 2 ^ (32 - n):Nat):Int):=(by simp);rw[b,e2,cKb (AW _ (by decide)) (AZ (AY _ _) ha),bZo hn ha]
theorem eJy(n:Nat)(hn:n<=32)(ha:a<4294967296):bits .or .u32 ((a:Int) / 2 ^ n) (IntKind.u32.wrap ((a:Int)*2 ^ (32 - n)))=((rot 32 a (32 - n):Nat):Int):=by
 have b:IntKind.u32.wrap ((a:Int)*2 ^ (32 - n))=((a*2 ^ (32 - n) % 2 ^ 32:Nat):Int):=(by rw[Aw];simp);have e2:(a:Int) / 2 ^ n=((a / 2 ^ n:Nat):Int):=(by simp);rw[b,e2,cKb (AZ (AY _ _) ha) (AW _ (by decide)),dJm hn ha]
theorem dZr(k:IntKind)(W a b n:Nat)(x:Int):(nK k W a b n x).getD 11 0=k.wrap (x / 2 ^ n):=by simp[nK]
def iK(W d:Int)(k:Int)(a b:Nat)(w:BX)(e:Ending)(w':BX):Prop:=e = .returned (.tuple #[.int .u64 (gK 3 d k a b).1,.int .i64 (gK 3 d k a b).2])/\w=w'
theorem eJz{a b:Nat}(ha:a<18446744073709551616)(hb:b<18446744073709551616):gK 3 126 0 a b=(IntKind.u64.wrap (a+b),0):=by
 have e:gK 3 126 0 a b=((nK .u64 64 a b (b % 64) (wrap64 a)).getD 0 0,0):=(by simp[gK]);rw[e];rfl
theorem eKa(w:BX)(ha:a<18446744073709551616)(d:b<18446744073709551616):BK fZ 142 #[.int .i64 0,.int .u64 a,.int .u64 b,.int .i64 64] w (iK 64 126 0 a b w):=by
 have c:=fQ (@eJz a b ha d);unfold iK;rw[c.out];obtain⟨n,hn⟩:=fX (b % 64);have aa:n<64:=(by omega);have ad:(b:Int) % 64=(n:Int):=(by omega);have HN:=fQ hn;clear hn c;go_in;go_wp2_with fail;refine(aQm _ _).mono ?_;rintro e w1 ⟨rfl,rfl⟩;go_wp2;go_ret2;exact⟨gW (by first | rfl | exact mY _ | exact nQ _ | exact(Aj _)),rfl⟩
theorem eKb{a b:Nat}(ha:a<18446744073709551616)(hb:b<18446744073709551616):gK 3 126 1 a b=(IntKind.u64.wrap (a - b),0):=by
 have e:gK 3 126 1 a b=((nK .u64 64 a b (b % 64) (wrap64 a)).getD 1 0,0):=(by simp[gK]);rw[e];rfl
theorem eKc(w:BX)(ha:a<18446744073709551616)(d:b<18446744073709551616):BK fZ 142 #[.int .i64 1,.int .u64 a,.int .u64 b,.int .i64 64] w (iK 64 126 1 a b w):=by
 have c:=fQ (@eKb a b ha d);unfold iK;rw[c.out];obtain⟨n,hn⟩:=fX (b % 64);have aa:n<64:=(by omega);have ad:(b:Int) % 64=(n:Int):=(by omega);have HN:=fQ hn;clear hn c;go_in;go_wp2_with fail;refine(aQm _ _).mono ?_;rintro e w1 ⟨rfl,rfl⟩;go_wp2;go_ret2;exact⟨gW (by first | rfl | exact mY _ | exact nQ _ | exact(Aj _)),rfl⟩
theorem eKd{a b:Nat}(ha:a<18446744073709551616)(hb:b<18446744073709551616):gK 3 126 2 a b=(IntKind.u64.wrap (a*b),0):=by
 have e:gK 3 126 2 a b=((nK .u64 64 a b (b % 64) (wrap64 a)).getD 2 0,0):=(by simp[gK]);rw[e];rfl
theorem eKe(w:BX)(ha:a<18446744073709551616)(d:b<18446744073709551616):BK fZ 142 #[.int .i64 2,.int .u64 a,.int .u64 b,.int .i64 64] w (iK 64 126 2 a b w):=by
 have c:=fQ (@eKd a b ha d);unfold iK;rw[c.out];obtain⟨n,hn⟩:=fX (b % 64);have aa:n<64:=(by omega);have ad:(b:Int) % 64=(n:Int):=(by omega);have HN:=fQ hn;clear hn c;go_in;go_wp2_with fail;refine(aQm _ _).mono ?_;rintro e w1 ⟨rfl,rfl⟩;go_wp2;go_ret2;exact⟨gW (by first | rfl | exact mY _ | exact nQ _ | exact(Aj _)),rfl⟩
theorem eKf(w:BX)(ha:a<18446744073709551616)(d:b<18446744073709551616):BK fZ 142 #[.int .i64 3,.int .u64 a,.int .u64 b,.int .i64 64] w (iK 64 126 3 a b w):=by
 have c:=fQ (show gK 3 126 3 a b=hJ 18446744073709551616 (-9223372036854775808) ((0:Nat):Int) a b (wrap64 a) (wrap64 b) by simp[gK]);unfold iK;rw[c.out];obtain⟨n,hn⟩:=fX (b % 64);have aa:n<64:=(by omega);have ad:(b:Int) % 64=(n:Int):=(by omega);have HN:=fQ hn;clear hn c;go_in;go_wp2_with fail;refine(bZh 0 a b _ (by omega) ha d).mono ?_;rintro e w1 ⟨rfl,rfl⟩;go_wp2;go_ret2;exact⟨rfl,rfl⟩
theorem eKg(w:BX)(ha:a<18446744073709551616)(d:b<18446744073709551616):BK fZ 142 #[.int .i64 4,.int .u64 a,.int .u64 b,.int .i64 64] w (iK 64 126 4 a b w):=by
 have c:=fQ (show gK 3 126 4 a b=hJ 18446744073709551616 (-9223372036854775808) ((1:Nat):Int) a b (wrap64 a) (wrap64 b) by simp[gK]);unfold iK;rw[c.out];obtain⟨n,hn⟩:=fX (b % 64);have aa:n<64:=(by omega);have ad:(b:Int) % 64=(n:Int):=(by omega);have HN:=fQ hn;clear hn c;go_in;go_wp2_with fail;refine(bZh 1 a b _ (by omega) ha d).mono ?_;rintro e w1 ⟨rfl,rfl⟩;go_wp2;go_ret2;exact⟨rfl,rfl⟩
theorem eKh(w:BX)(ha:a<18446744073709551616)(d:b<18446744073709551616):BK fZ 142 #[.int .i64 5,.int .u64 a,.int .u64 b,.int .i64 64] w (iK 64 126 5 a b w):=by
 have c:=fQ (show gK 3 126 5 a b=hJ 18446744073709551616 (-9223372036854775808) ((2:Nat):Int) a b (wrap64 a) (wrap64 b) by simp[gK]);unfold iK;rw[c.out];obtain⟨n,hn⟩:=fX (b % 64);have aa:n<64:=(by omega);have ad:(b:Int) % 64=(n:Int):=(by omega);have HN:=fQ hn;clear hn c;go_in;go_wp2_with fail;refine(bZh 2 a b _ (by omega) ha d).mono ?_;rintro e w1 ⟨rfl,rfl⟩;go_wp2;go_ret2;exact⟨rfl,rfl⟩
theorem eKi(w:BX)(ha:a<18446744073709551616)(d:b<18446744073709551616):BK fZ 142 #[.int .i64 6,.int .u64 a,.int .u64 b,.int .i64 64] w (iK 64 126 6 a b w):=by
 have c:=fQ (show gK 3 126 6 a b=hJ 18446744073709551616 (-9223372036854775808) ((3:Nat):Int) a b (wrap64 a) (wrap64 b) by simp[gK]);unfold iK;rw[c.out];obtain⟨n,hn⟩:=fX (b % 64);have aa:n<64:=(by omega);have ad:(b:Int) % 64=(n:Int):=(by omega);have HN:=fQ hn;clear hn c;go_in;go_wp2_with fail;refine(bZh 3 a b _ (by omega) ha d).mono ?_;rintro e w1 ⟨rfl,rfl⟩;go_wp2;go_ret2;exact⟨rfl,rfl⟩
theorem eKj{a b:Nat}(ha:a<18446744073709551616)(hb:b<18446744073709551616):gK 3 126 7 a b=(bits .and .u64 a b,0):=by
 have e:gK 3 126 7 a b=((nK .u64 64 a b (b % 64) (wrap64 a)).getD 7 0,0):=(by simp[gK]);rw[e];rfl
theorem eKk(w:BX)(ha:a<18446744073709551616)(d:b<18446744073709551616):BK fZ 142 #[.int .i64 7,.int .u64 a,.int .u64 b,.int .i64 64] w (iK 64 126 7 a b w):=by
 have c:=fQ (@eKj a b ha d);unfold iK;rw[c.out];obtain⟨n,hn⟩:=fX (b % 64);have aa:n<64:=(by omega);have ad:(b:Int) % 64=(n:Int):=(by omega);have HN:=fQ hn;clear hn c;go_in;go_wp2;go_ret2;exact⟨gW (by first | rfl | exact mY _ | exact nQ _ | exact(Aj _)),rfl⟩
theorem eKl{a b:Nat}(ha:a<18446744073709551616)(hb:b<18446744073709551616):gK 3 126 8 a b=(bits .or .u64 a b,0):=by
 have e:gK 3 126 8 a b=((nK .u64 64 a b (b % 64) (wrap64 a)).getD 8 0,0):=(by simp[gK]);rw[e];rfl
theorem eKm(w:BX)(ha:a<18446744073709551616)(d:b<18446744073709551616):BK fZ 142 #[.int .i64 8,.int .u64 a,.int .u64 b,.int .i64 64] w (iK 64 126 8 a b w):=by
 have c:=fQ (@eKl a b ha d);unfold iK;rw[c.out];obtain⟨n,hn⟩:=fX (b % 64);have aa:n<64:=(by omega);have ad:(b:Int) % 64=(n:Int):=(by omega);have HN:=fQ hn;clear hn c;go_in;go_wp2;go_ret2;exact⟨gW (by first | rfl | exact mY _ | exact nQ _ | exact(Aj _)),rfl⟩
theorem eKn{a b:Nat}(ha:a<18446744073709551616)(hb:b<18446744073709551616):gK 3 126 9 a b=(bits .xor .u64 a b,0):=by
 have e:gK 3 126 9 a b=((nK .u64 64 a b (b % 64) (wrap64 a)).getD 9 0,0):=(by simp[gK]);rw[e];rfl
theorem eKo(w:BX)(ha:a<18446744073709551616)(d:b<18446744073709551616):BK fZ 142 #[.int .i64 9,.int .u64 a,.int .u64 b,.int .i64 64] w (iK 64 126 9 a b w):=by
 have c:=fQ (@eKn a b ha d);unfold iK;rw[c.out];obtain⟨n,hn⟩:=fX (b % 64);have aa:n<64:=(by omega);have ad:(b:Int) % 64=(n:Int):=(by omega);have HN:=fQ hn;clear hn c;go_in;go_wp2;go_ret2;exact⟨gW (by first | rfl | exact mY _ | exact nQ _ | exact(Aj _)),rfl⟩
theorem eXj{a b:Nat}(ha:a<18446744073709551616)(hb:b<18446744073709551616):gK 3 126 10 a b=(IntKind.u64.wrap (a*2 ^ (b % 64)),0):=by
 have e:gK 3 126 10 a b=((nK .u64 64 a b (b % 64) (wrap64 a)).getD 10 0,0):=(by simp[gK]);rw[e];rfl
theorem eXk(w:BX)(ha:a<18446744073709551616)(d:b<18446744073709551616):BK fZ 142 #[.int .i64 10,.int .u64 a,.int .u64 b,.int .i64 64] w (iK 64 126 10 a b w):=by
 have c:=fQ (@eXj a b ha d);unfold iK;rw[c.out];obtain⟨n,hn⟩:=fX (b % 64);have aa:n<64:=(by omega);have ad:(b:Int) % 64=(n:Int):=(by omega);have HN:=fQ hn;rw[hn];clear hn c;go_in;go_wp2_with fail;refine(aQm _ _).mono ?_;rintro e w1 ⟨rfl,rfl⟩;go_wp2;go_ret2;exact⟨gW (by first | rfl | exact mY _ | exact nQ _ | exact(Aj _)),rfl⟩
theorem eXl{a b:Nat}(ha:a<18446744073709551616)(hb:b<18446744073709551616):gK 3 126 11 a b=(IntKind.u64.wrap (wrap64 a / 2 ^ (b % 64)),0):=by
 have e:gK 3 126 11 a b=((nK .u64 64 a b (b % 64) (wrap64 a)).getD 11 0,0):=by
  simp only[gK];rw[if_pos trivial,if_neg (by decide),if_neg (by decide)];rfl
 rw[e,dZr]
theorem eXm(w:BX)(ha:a<18446744073709551616)(d:b<18446744073709551616):BK fZ 142 #[.int .i64 11,.int .u64 a,.int .u64 b,.int .i64 64] w (iK 64 126 11 a b w):=by
 have c:=fQ (@eXl a b ha d);unfold iK;rw[c.out];obtain⟨n,hn⟩:=fX (b % 64);have aa:n<64:=(by omega);have ad:(b:Int) % 64=(n:Int):=(by omega);have HN:=fQ hn;rw[hn];clear hn c;go_in;go_wp2_with fail;refine(aVv (a:Int) _ (by omega) (by omega)).mono ?_;rintro e f ⟨rfl,rfl⟩;go_wp2_with fail;refine(aQm _ _).mono ?_;rintro e f ⟨rfl,rfl⟩;go_wp2;go_ret2;exact⟨gW (by first | rfl | exact mY _ | exact nQ _ | exact(Aj _)),rfl⟩
theorem eXn{a b:Nat}(ha:a<18446744073709551616)(hb:b<18446744073709551616):gK 3 126 12 a b=((a:Int) / 2 ^ (b % 64),0):=by
 have e:gK 3 126 12 a b=((nK .u64 64 a b (b % 64) (wrap64 a)).getD 12 0,0):=(by simp[gK]);rw[e];rfl
theorem eXo(w:BX)(ha:a<18446744073709551616)(d:b<18446744073709551616):BK fZ 142 #[.int .i64 12,.int .u64 a,.int .u64 b,.int .i64 64] w (iK 64 126 12 a b w):=by
 have c:=fQ (@eXn a b ha d);unfold iK;rw[c.out];obtain⟨n,hn⟩:=fX (b % 64);have aa:n<64:=(by omega);have ad:(b:Int) % 64=(n:Int):=(by omega);have HN:=fQ hn;rw[hn];clear hn c;go_in;go_wp2;go_ret2;exact⟨gW (by first | rfl | exact mY _ | exact nQ _ | exact(Aj _)),rfl⟩
theorem eXp{a b:Nat}(ha:a<18446744073709551616)(hb:b<18446744073709551616):gK 3 126 13 a b=(((rot 64 a (b % 64):Nat):Int),0):=by
 have e:gK 3 126 13 a b=((nK .u64 64 a b (b % 64) (wrap64 a)).getD 13 0,0):=(by simp[gK]);rw[e]
 exact congrArg (·,0) (eWh (b:=b) (b % 64) (by omega) ha)
theorem eXq(w:BX)(ha:a<18446744073709551616)(d:b<18446744073709551616):BK fZ 142 #[.int .i64 13,.int .u64 a,.int .u64 b,.int .i64 64] w (iK 64 126 13 a b w):=by
 have c:=fQ (@eXp a b ha d);unfold iK;rw[c.out];obtain⟨n,hn⟩:=fX (b % 64);have aa:n<64:=(by omega);have ad:(b:Int) % 64=(n:Int):=(by omega);have HN:=fQ hn;rw[hn];clear hn c;go_in;go_wp2_with fail;refine(bYv a n _ (by omega) ha).mono ?_;rintro e w1 ⟨rfl,rfl⟩;go_wp2;go_ret2;exact⟨gW (by first | rfl | exact mY _ | exact nQ _ | exact(Aj _)),rfl⟩
theorem eXr{a b:Nat}(ha:a<18446744073709551616)(hb:b<18446744073709551616):gK 3 126 14 a b=(((rot 64 a (64 - b % 64):Nat):Int),0):=by
 have e:gK 3 126 14 a b=((nK .u64 64 a b (b % 64) (wrap64 a)).getD 14 0,0):=(by simp[gK]);rw[e]
 exact congrArg (·,0) (eWi (b:=b) (b % 64) (by omega) ha)
theorem eXs(w:BX)(ha:a<18446744073709551616)(d:b<18446744073709551616):BK fZ 142 #[.int .i64 14,.int .u64 a,.int .u64 b,.int .i64 64] w (iK 64 126 14 a b w):=by
 have c:=fQ (@eXr a b ha d);unfold iK;rw[c.out];obtain⟨n,hn⟩:=fX (b % 64);have aa:n<64:=(by omega);have ad:(b:Int) % 64=(n:Int):=(by omega);have HN:=fQ hn;rw[hn];clear hn c;go_in;have hs:(64:Int) - (n:Int)=((64 - n:Nat):Int):=(by omega);go_wp2_with fail;refine(bYv a (64 - n) _ (by omega) ha).mono ?_;rintro e w1 ⟨rfl,rfl⟩;go_wp2;go_ret2;exact⟨gW (by first | rfl | exact mY _ | exact nQ _ | exact(Aj _)),rfl⟩
theorem eXt(k a b:Nat)(w:BX)(hk:k<15)(ha:a<18446744073709551616)(c:b<18446744073709551616):BK fZ 142 #[.int .i64 k,.int .u64 a,.int .u64 b,.int .i64 64] w (iK 64 126 k a b w):=by
 have hc:k=0\/k=1\/k=2\/k=3\/k=4\/k=5\/k=6\/k=7\/k=8\/k=9\/k=10\/k=11\/k=12\/k=13\/k=14:=(by omega);rcases hc with rfl | rfl | rfl | rfl | rfl | rfl | rfl | rfl | rfl | rfl | rfl | rfl | rfl | rfl | rfl
 ·exact eKa w ha c
 ·exact eKc w ha c
 ·exact eKe w ha c
 ·exact eKf w ha c
 ·exact eKg w ha c
 ·exact eKh w ha c
 ·exact eKi w ha c
 ·exact eKk w ha c
 ·exact eKm w ha c
 ·exact eKo w ha c
 ·exact eXk w ha c
 ·exact eXm w ha c
 ·exact eXo w ha c
 ·exact eXq w ha c
 ·exact eXs w ha c
theorem eKp{a b:Nat}(ha:a<4294967296)(hb:b<4294967296):gK 3 127 0 a b=(((a:Int)+b) % 4294967296,0):=by
 have e:gK 3 127 0 a b=((nK .u32 32 a b (b % 32) (wrap32 a)).getD 0 0,0):=(by simp[gK]);rw[e]
 exact congrArg (·,0) (Aw _)
theorem eKq(w:BX)(ha:a<4294967296)(d:b<4294967296):BK fZ 142 #[.int .i64 0,.int .u64 a,.int .u64 b,.int .i64 32] w (iK 32 127 0 a b w):=by
 have c:=fQ (@eKp a b ha d);unfold iK;rw[c.out];obtain⟨n,hn⟩:=fX (b % 32);have aa:n<32:=(by omega);have ad:(b:Int) % 32=(n:Int):=(by omega);have HN:=fQ hn;clear hn c;go_in;go_wp2_with fail;refine(aQn _ _ (by first | omega | exact(nJ _).1) (by first | omega | exact(nJ _).2)).mono ?_;rintro e w1 ⟨rfl,rfl⟩;go_wp2;go_ret2;exact⟨gW (by first | rfl | exact mY _ | exact nQ _ | exact(Aj _)),rfl⟩
theorem eKr{a b:Nat}(ha:a<4294967296)(hb:b<4294967296):gK 3 127 1 a b=(((a:Int) - b) % 4294967296,0):=by
 have e:gK 3 127 1 a b=((nK .u32 32 a b (b % 32) (wrap32 a)).getD 1 0,0):=(by simp[gK]);rw[e]
 exact congrArg (·,0) (Aw _)
theorem eKs(w:BX)(ha:a<4294967296)(d:b<4294967296):BK fZ 142 #[.int .i64 1,.int .u64 a,.int .u64 b,.int .i64 32] w (iK 32 127 1 a b w):=by
 have c:=fQ (@eKr a b ha d);unfold iK;rw[c.out];obtain⟨n,hn⟩:=fX (b % 32);have aa:n<32:=(by omega);have ad:(b:Int) % 32=(n:Int):=(by omega);have HN:=fQ hn;clear hn c;go_in;go_wp2_with fail;refine(aQn _ _ (by first | omega | exact(nJ _).1) (by first | omega | exact(nJ _).2)).mono ?_;rintro e w1 ⟨rfl,rfl⟩;go_wp2;go_ret2;exact⟨gW (by first | rfl | exact mY _ | exact nQ _ | exact(Aj _)),rfl⟩
theorem eKt{a b:Nat}(ha:a<4294967296)(hb:b<4294967296):gK 3 127 2 a b=(((a:Int)*b) % 4294967296,0):=by
 have e:gK 3 127 2 a b=((nK .u32 32 a b (b % 32) (wrap32 a)).getD 2 0,0):=(by simp[gK]);rw[e]
 exact congrArg (·,0) (Aw _)
theorem eKu(w:BX)(ha:a<4294967296)(d:b<4294967296):BK fZ 142 #[.int .i64 2,.int .u64 a,.int .u64 b,.int .i64 32] w (iK 32 127 2 a b w):=by
 have c:=fQ (@eKt a b ha d);unfold iK;rw[c.out];obtain⟨n,hn⟩:=fX (b % 32);have aa:n<32:=(by omega);have ad:(b:Int) % 32=(n:Int):=(by omega);have HN:=fQ hn;clear hn c;go_in;go_wp2_with fail;refine(aQn _ _ (by first | omega | exact(nJ _).1) (by first | omega | exact(nJ _).2)).mono ?_;rintro e w1 ⟨rfl,rfl⟩;go_wp2;go_ret2;exact⟨gW (by first | rfl | exact mY _ | exact nQ _ | exact(Aj _)),rfl⟩
theorem eKv(w:BX)(ha:a<4294967296)(d:b<4294967296):BK fZ 142 #[.int .i64 3,.int .u64 a,.int .u64 b,.int .i64 32] w (iK 32 127 3 a b w):=by
 have c:=fQ (show gK 3 127 3 a b=hJ 4294967296 (-2147483648) ((0:Nat):Int) a b (wrap32 a) (wrap32 b) by simp[gK]);unfold iK;rw[c.out];obtain⟨n,hn⟩:=fX (b % 32);have aa:n<32:=(by omega);have ad:(b:Int) % 32=(n:Int):=(by omega);have HN:=fQ hn;clear hn c;go_in;go_wp2_with fail;refine(bZi 0 a b _ (by omega) ha d).mono ?_;rintro e w1 ⟨rfl,rfl⟩;go_wp2;go_ret2;exact⟨rfl,rfl⟩
theorem eKw(w:BX)(ha:a<4294967296)(d:b<4294967296):BK fZ 142 #[.int .i64 4,.int .u64 a,.int .u64 b,.int .i64 32] w (iK 32 127 4 a b w):=by
 have c:=fQ (show gK 3 127 4 a b=hJ 4294967296 (-2147483648) ((1:Nat):Int) a b (wrap32 a) (wrap32 b) by simp[gK]);unfold iK;rw[c.out];obtain⟨n,hn⟩:=fX (b % 32);have aa:n<32:=(by omega);have ad:(b:Int) % 32=(n:Int):=(by omega);have HN:=fQ hn;clear hn c;go_in;go_wp2_with fail;refine(bZi 1 a b _ (by omega) ha d).mono ?_;rintro e w1 ⟨rfl,rfl⟩;go_wp2;go_ret2;exact⟨rfl,rfl⟩
theorem eKx(w:BX)(ha:a<4294967296)(d:b<4294967296):BK fZ 142 #[.int .i64 5,.int .u64 a,.int .u64 b,.int .i64 32] w (iK 32 127 5 a b w):=by
 have c:=fQ (show gK 3 127 5 a b=hJ 4294967296 (-2147483648) ((2:Nat):Int) a b (wrap32 a) (wrap32 b) by simp[gK]);unfold iK;rw[c.out];obtain⟨n,hn⟩:=fX (b % 32);have aa:n<32:=(by omega);have ad:(b:Int) % 32=(n:Int):=(by omega);have HN:=fQ hn;clear hn c;go_in;go_wp2_with fail;refine(bZi 2 a b _ (by omega) ha d).mono ?_;rintro e w1 ⟨rfl,rfl⟩;go_wp2;go_ret2;exact⟨rfl,rfl⟩
theorem eKy(w:BX)(ha:a<4294967296)(d:b<4294967296):BK fZ 142 #[.int .i64 6,.int .u64 a,.int .u64 b,.int .i64 32] w (iK 32 127 6 a b w):=by
 have c:=fQ (show gK 3 127 6 a b=hJ 4294967296 (-2147483648) ((3:Nat):Int) a b (wrap32 a) (wrap32 b) by simp[gK]);unfold iK;rw[c.out];obtain⟨n,hn⟩:=fX (b % 32);have aa:n<32:=(by omega);have ad:(b:Int) % 32=(n:Int):=(by omega);have HN:=fQ hn;clear hn c;go_in;go_wp2_with fail;refine(bZi 3 a b _ (by omega) ha d).mono ?_;rintro e w1 ⟨rfl,rfl⟩;go_wp2;go_ret2;exact⟨rfl,rfl⟩
theorem eKz{a b:Nat}(ha:a<4294967296)(c:b<4294967296):gK 3 127 7 a b=(bits .and .u64 a b,0):=by
 have e:gK 3 127 7 a b=((nK .u32 32 a b (b % 32) (wrap32 a)).getD 7 0,0):=(by simp[gK]);rw[e]
 exact congrArg (·,0) (eJv ha c)
theorem eVa(w:BX)(ha:a<4294967296)(d:b<4294967296):BK fZ 142 #[.int .i64 7,.int .u64 a,.int .u64 b,.int .i64 32] w (iK 32 127 7 a b w):=by
 have c:=fQ (@eKz a b ha d);unfold iK;rw[c.out];obtain⟨n,hn⟩:=fX (b % 32);have aa:n<32:=(by omega);have ad:(b:Int) % 32=(n:Int):=(by omega);have HN:=fQ hn;clear hn c;go_in;go_wp2;go_ret2;exact⟨gW (by first | rfl | exact mY _ | exact nQ _ | exact(Aj _)),rfl⟩
theorem eVb{a b:Nat}(ha:a<4294967296)(c:b<4294967296):gK 3 127 8 a b=(bits .or .u64 a b,0):=by
 have e:gK 3 127 8 a b=((nK .u32 32 a b (b % 32) (wrap32 a)).getD 8 0,0):=(by simp[gK]);rw[e]
 exact congrArg (·,0) ((cKb ha c).trans (bits_or_u64_nat a b (by omega) (by omega)).symm)
theorem eVc(w:BX)(ha:a<4294967296)(d:b<4294967296):BK fZ 142 #[.int .i64 8,.int .u64 a,.int .u64 b,.int .i64 32] w (iK 32 127 8 a b w):=by
 have c:=fQ (@eVb a b ha d);unfold iK;rw[c.out];obtain⟨n,hn⟩:=fX (b % 32);have aa:n<32:=(by omega);have ad:(b:Int) % 32=(n:Int):=(by omega);have HN:=fQ hn;clear hn c;go_in;go_wp2;go_ret2;exact⟨gW (by first | rfl | exact mY _ | exact nQ _ | exact(Aj _)),rfl⟩
theorem eVd{a b:Nat}(ha:a<4294967296)(c:b<4294967296):gK 3 127 9 a b=(bits .xor .u64 a b,0):=by
 have e:gK 3 127 9 a b=((nK .u32 32 a b (b % 32) (wrap32 a)).getD 9 0,0):=(by simp[gK]);rw[e]
 exact congrArg (·,0) ((eJw ha c).trans (bits_xor_u64_nat a b (by omega) (by omega)).symm)
theorem eVe(w:BX)(ha:a<4294967296)(d:b<4294967296):BK fZ 142 #[.int .i64 9,.int .u64 a,.int .u64 b,.int .i64 32] w (iK 32 127 9 a b w):=by
 have c:=fQ (@eVd a b ha d);unfold iK;rw[c.out];obtain⟨n,hn⟩:=fX (b % 32);have aa:n<32:=(by omega);have ad:(b:Int) % 32=(n:Int):=(by omega);have HN:=fQ hn;clear hn c;go_in;go_wp2;go_ret2;exact⟨gW (by first | rfl | exact mY _ | exact nQ _ | exact(Aj _)),rfl⟩
theorem eXu{a b:Nat}(ha:a<4294967296)(hb:b<4294967296):gK 3 127 10 a b=(((a:Int)*2 ^ (b % 32)) % 4294967296,0):=by
 have e:gK 3 127 10 a b=((nK .u32 32 a b (b % 32) (wrap32 a)).getD 10 0,0):=(by simp[gK]);rw[e]
 exact congrArg (·,0) (Aw _)
theorem eXv(w:BX)(ha:a<4294967296)(d:b<4294967296):BK fZ 142 #[.int .i64 10,.int .u64 a,.int .u64 b,.int .i64 32] w (iK 32 127 10 a b w):=by
 have c:=fQ (@eXu a b ha d);unfold iK;rw[c.out];obtain⟨n,hn⟩:=fX (b % 32);have aa:n<32:=(by omega);have ad:(b:Int) % 32=(n:Int):=(by omega);have HN:=fQ hn;rw[hn];clear hn c;go_in;go_wp2_with fail;refine(aQn _ _ (by first | omega | exact(nJ _).1) (by first | omega | exact(nJ _).2)).mono ?_;rintro e w1 ⟨rfl,rfl⟩;go_wp2;go_ret2;exact⟨gW (by first | rfl | exact mY _ | exact nQ _ | exact(Aj _)),rfl⟩
theorem eXw{a b:Nat}(ha:a<4294967296)(hb:b<4294967296):gK 3 127 11 a b=((wrap32 a / 2 ^ (b % 32)) % 4294967296,0):=by
 have e:gK 3 127 11 a b=((nK .u32 32 a b (b % 32) (wrap32 a)).getD 11 0,0):=by
  simp only[gK];rw[if_neg (by decide),if_neg (by decide),if_neg (by decide)];rfl
 rw[e,dZr];rw[Aw]
theorem eXx(w:BX)(ha:a<4294967296)(d:b<4294967296):BK fZ 142 #[.int .i64 11,.int .u64 a,.int .u64 b,.int .i64 32] w (iK 32 127 11 a b w):=by
 have c:=fQ (@eXw a b ha d);unfold iK;rw[c.out];obtain⟨n,hn⟩:=fX (b % 32);have aa:n<32:=(by omega);have ad:(b:Int) % 32=(n:Int):=(by omega);have HN:=fQ hn;rw[hn];clear hn c;go_in;go_wp2_with fail;refine(aZh (a:Int) _ (by omega) (by omega)).mono ?_;rintro e f ⟨rfl,rfl⟩;go_wp2_with fail;refine(aQn _ _ (by first | omega | exact(nJ _).1) (by first | omega | exact(nJ _).2)).mono ?_;rintro e f ⟨rfl,rfl⟩;go_wp2;go_ret2;exact⟨gW (by first | rfl | exact mY _ | exact nQ _ | exact(Aj _)),rfl⟩
theorem eXy{a b:Nat}(ha:a<4294967296)(hb:b<4294967296):gK 3 127 12 a b=((a:Int) / 2 ^ (b % 32),0):=by
 have e:gK 3 127 12 a b=((nK .u32 32 a b (b % 32) (wrap32 a)).getD 12 0,0):=(by simp[gK]);rw[e];rfl
theorem eXz(w:BX)(ha:a<4294967296)(d:b<4294967296):BK fZ 142 #[.int .i64 12,.int .u64 a,.int .u64 b,.int .i64 32] w (iK 32 127 12 a b w):=by
 have c:=fQ (@eXy a b ha d);unfold iK;rw[c.out];obtain⟨n,hn⟩:=fX (b % 32);have aa:n<32:=(by omega);have ad:(b:Int) % 32=(n:Int):=(by omega);have HN:=fQ hn;rw[hn];clear hn c;go_in;go_wp2;go_ret2;exact⟨gW (by first | rfl | exact mY _ | exact nQ _ | exact(Aj _)),rfl⟩
theorem eZa{a b:Nat}(ha:a<4294967296)(hb:b<4294967296):gK 3 127 13 a b=(((rot 32 a (b % 32):Nat):Int),0):=by
 have e:gK 3 127 13 a b=((nK .u32 32 a b (b % 32) (wrap32 a)).getD 13 0,0):=(by simp[gK]);rw[e]
 exact congrArg (·,0) (eJx (b % 32) (by omega) ha)
theorem eZb(w:BX)(ha:a<4294967296)(d:b<4294967296):BK fZ 142 #[.int .i64 13,.int .u64 a,.int .u64 b,.int .i64 32] w (iK 32 127 13 a b w):=by
 have c:=fQ (@eZa a b ha d);unfold iK;rw[c.out];obtain⟨n,hn⟩:=fX (b % 32);have aa:n<32:=(by omega);have ad:(b:Int) % 32=(n:Int):=(by omega);have HN:=fQ hn;rw[hn];clear hn c;go_in;go_wp2_with fail;refine(bYw a n _ (by omega) ha).mono ?_;rintro e w1 ⟨rfl,rfl⟩;go_wp2;go_ret2;exact⟨gW (by first | rfl | exact mY _ | exact nQ _ | exact(Aj _)),rfl⟩
theorem eZc{a b:Nat}(ha:a<4294967296)(hb:b<4294967296):gK 3 127 14 a b=(((rot 32 a (32 - b % 32):Nat):Int),0):=by
 have e:gK 3 127 14 a b=((nK .u32 32 a b (b % 32) (wrap32 a)).getD 14 0,0):=(by simp[gK]);rw[e]
 exact congrArg (·,0) (eJy (b % 32) (by omega) ha)
theorem eZd(w:BX)(ha:a<4294967296)(d:b<4294967296):BK fZ 142 #[.int .i64 14,.int .u64 a,.int .u64 b,.int .i64 32] w (iK 32 127 14 a b w):=by
 have c:=fQ (@eZc a b ha d);unfold iK;rw[c.out];obtain⟨n,hn⟩:=fX (b % 32);have aa:n<32:=(by omega);have ad:(b:Int) % 32=(n:Int):=(by omega);have HN:=fQ hn;rw[hn];clear hn c;go_in;have hs:(32:Int) - (n:Int)=((32 - n:Nat):Int):=(by omega);go_wp2_with fail;refine(bYw a (32 - n) _ (by omega) ha).mono ?_;rintro e w1 ⟨rfl,rfl⟩;go_wp2;go_ret2;exact⟨gW (by first | rfl | exact mY _ | exact nQ _ | exact(Aj _)),rfl⟩
theorem eZe(k a b:Nat)(w:BX)(hk:k<15)(ha:a<4294967296)(c:b<4294967296):BK fZ 142 #[.int .i64 k,.int .u64 a,.int .u64 b,.int .i64 32] w (iK 32 127 k a b w):=by
 have hc:k=0\/k=1\/k=2\/k=3\/k=4\/k=5\/k=6\/k=7\/k=8\/k=9\/k=10\/k=11\/k=12\/k=13\/k=14:=(by omega);rcases hc with rfl | rfl | rfl | rfl | rfl | rfl | rfl | rfl | rfl | rfl | rfl | rfl | rfl | rfl | rfl
 ·exact eKq w ha c
 ·exact eKs w ha c
 ·exact eKu w ha c
 ·exact eKv w ha c
 ·exact eKw w ha c
 ·exact eKx w ha c
 ·exact eKy w ha c
 ·exact eVa w ha c
 ·exact eVc w ha c
 ·exact eVe w ha c
 ·exact eXv w ha c
 ·exact eXx w ha c
 ·exact eXz w ha c
 ·exact eZb w ha c
 ·exact eZd w ha c
end Go.Proofs.YtabibkpfgmolkaaGreatDoor

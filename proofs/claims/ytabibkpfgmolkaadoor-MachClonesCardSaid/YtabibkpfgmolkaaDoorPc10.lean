/- Lemmas for the claim, part 10. Conditions: none. -/
import Derived.Test.YtabibkpfgmolkaaDoorPc09
import Derived.LaidMore
import Derived.OpenShut
import Derived.ProofKit
import Derived.Stop.Joined
import Derived.Test.YtabibkpfgmolkaaDoorRows
set_option maxRecDepth 100000
set_option maxHeartbeats 16000000
set_option linter.unusedVariables false
set_option linter.unusedSimpArgs false
open Go.Lib renaming hid→cQ
open Go.Proofs.Tryd renaming prog→cZ
open Go.Proofs.Tryd
open Go.RowKit
open List renaming setIfInBounds_toArray→Aj,getElem?_eq_getElem→Aq,set_cons_zero→Ax,set_cons_succ→Az,length_map→AJ,getElem?_eq_none→AQ,getElem?_map→AZ
open Nat renaming le_refl→Ak,le_trans→Ay,lt_of_lt_of_le→AX,zero_le→AK,mul_one→AV
open Go.Value renaming slice→Av,agg→AW,int→AY
open Go.Act renaming put→Aw
open Go renaming Value→Aa
namespace Go.Proofs.YtabibkpfgmolkaaDoor
theorem bZu(v:Aa)(l:List Nat)(w:World)(h:BR w v l):Calls cZ 34 #[v] w fun e w'=>∃ v',e = .returned v'/\w'.ownsRow w.heap.size 5 1 v' l.length (bys l)/\Below w.heap.size w w':=by
 obtain⟨A,c,rfl,hs,hc,f,hn,_⟩:=h;have ae:∀ (w:World) (a:Option Addr) (n c g i:Nat),(binOp .eql 31 (.slice a n c) (.slice none g i)).run cZ w = .ok (.bool a.isNone) w:=fun w a n c g i=>Lib.run_eql_slice_nil w 31 5 a n c g i underlying31;obtain⟨n,d⟩:=cX l.length;rw[d]at hs hc hn ⊢;rcases A with _ | ⟨b,o,sp⟩
 ·have m:c=0:=f rfl;subst m;have p:n=0:=(by omega);subst p;have q:l = []:=List.eq_nil_of_length_eq_zero d;subst q;clear f hs hc hn d;go_in;go_wp2;go_ret;exact⟨_,rfl,World.ownsRow_nil _ _ _ _,Below.refl _ _⟩
 ·have r:=cQ (hs.below (w':=w.alloc (.cells #[] 5)) ((Below.refl _ _).alloc (Ak _) _) (Ak _));have af:=hn.1;clear hs f hn d;go_in;go_wp2_with (at_builtin;refine rZ _ rfl _ (.tmp 6) 31 rfl w.heap.size 5 _ 1 underlying31 cQl rfl _ 0 [] rfl (World.ownsRow_lit w #[] 0 (Ak _) (by unfold maxLen;omega) rfl) _ n c _ rfl r.out (bXd _) (by unfold maxLen;omega) (by omega) (by simp) ?_);rintro v' w' j k;have s:=cQ (by simpa using j:w'.ownsRow w.heap.size 5 1 v' n (bys l));have t:=cQ k;clear j k;go_wp2;go_ret;exact⟨v',rfl,s.out,((Below.refl _ _).alloc (Ak _) _).trans t.out⟩
theorem bQr(g:Array Aa)(W:World)(h:Nat)(a b c d e f:Aa)(h2:g.getD 2 undef = .pointer (some ⟨h,0,none⟩))(k:Blk W h 33 #[a,b,c,d,e,f]):
  (results Tryd.f21 g).run cZ W = .ok (.agg #[a,b,c,d,e,f]) W:=by
 obtain⟨i,j,l,m,n,o⟩:=eX k;simp only[Array.getD_eq_getD_getElem?]at h2;simp[results,results21,go_sem,h2,i,j,l,m,n,o]
theorem aZg(va:Aa)(s:RawS)(w:World)(h:StV w va s):Calls cZ 21 #[va] w (cJt s w):=by
 obtain⟨a,g,i,l,rfl,h1,h2,h3,h4⟩:=h;obtain⟨A1,c1,rfl⟩:=h1.shape;obtain⟨W,X,rfl⟩:=h2.shape;obtain⟨O,P,rfl⟩:=h3.shape;obtain⟨I,J,rfl⟩:=h4.shape;obtain⟨m1,ai⟩:∃ k,s.mem.length=k:=⟨_,rfl⟩;obtain⟨m2,aj⟩:∃ k,s.globals.length=k:=⟨_,rfl⟩;obtain⟨f,ak⟩:∃ k,s.input.length=k:=⟨_,rfl⟩;obtain⟨m,al⟩:∃ k,s.log.length=k:=⟨_,rfl⟩;rw[ai]at h1;rw[aj]at h2;rw[ak]at h3;rw[al]at h4;have an:=cQ ai;have ao:=cQ aj;have aq:=cQ ak;have ar:=cQ al;rw[ai,aj,ak,al];have L:=cQ (show CpB w (.slice A1 m1 c1) (.int .i64 s.most) (.slice W m2 X) (.int .i64 s.fuel) (.slice O f P) (.slice I m J) ((w.alloc (.cells #[.slice A1 m1 c1,.int .i64 s.most,.slice W m2 X,.int .i64 s.fuel,.slice O f P,.slice I m J] 33)).alloc (.cells #[.slice none 0 0,.int .i64 0,.slice none 0 0,.int .i64 0,.slice none 0 0,.slice none 0 0] 33))from⟨(Blk.new _ _ _).alloc _,Blk.newAt _ (N:=w.heap.size+1) _ _ (by simp),wQ _ _ _⟩);have az:=cQ h1;have aA:=cQ h2;have aB:=cQ h3;have aC:=cQ h4;clear h1 h2 h3 h4 ai aj ak al;go_in;go_upto_region 1 with fail;obtain⟨w1,au⟩:=cX ((w.alloc (.cells #[.slice A1 m1 c1,.int .i64 s.most,.slice W m2 X,.int .i64 s.fuel,.slice O f P,.slice I m J] 33)).alloc (.cells #[.slice none 0 0,.int .i64 0,.slice none 0 0,.int .i64 0,.slice none 0 0,.slice none 0 0] 33));rw[au]at L ⊢;clear au;have c:=cQ (show CpB w _ _ _ _ _ _ w1.drew from⟨L.out.k.drew,L.out.z.drew,L.out.b.drew⟩);obtain⟨n,r1,o,r3,p,q⟩:=eX c.out.k;refine iZ (fun _=>True) (fun w'=>w'.cell? ⟨w.heap.size,0,none⟩=some (.slice A1 m1 c1)/\w'.cell? ⟨w.heap.size,2,none⟩=some (.slice W m2 X)/\w'.cell? ⟨w.heap.size,4,none⟩=some (.slice O f P)/\w'.cell? ⟨w.heap.size,5,none⟩=some (.slice I m J)) 13 (by kernel_rfl) trivial ⟨n,o,p,q⟩ (fun d=>?_);clear n r1 o r3 p q;refine wtk 0 d (fun d=>?_);refine nV (i:=1) (v:=?v1) rfl (by kernel_rfl) (by kernel_rfl) (by kernel_rfl) (fun _ _ _ h=>h) rfl (by kernel_rfl) (by kernel_rfl) (Or.inl ⟨by rfl,?hy1⟩) d (fun d=>?_)
 case hy1=>intro w Q;(try dsimp only at Q);go_simp;(try with_reducible rfl)
 try simp only[Aw,Aj,Ax,Az]
 refine wtk 3 d (fun d=>?_);refine nV (i:=4) (v:=?v4) rfl (by kernel_rfl) (by kernel_rfl) (by kernel_rfl) (fun _ _ _ h=>h) rfl (by kernel_rfl) (by kernel_rfl) (Or.inl ⟨by rfl,?hy4⟩) d (fun d=>?_)
 case hy4=>intro w Q;(try dsimp only at Q);go_simp;(try with_reducible rfl)
 try simp only[Aw,Aj,Ax,Az]
 refine wtk 6 d (fun d=>?_);refine nV (i:=7) (v:=?v7) rfl (by kernel_rfl) (by kernel_rfl) (by kernel_rfl) (fun _ _ _ h=>h) rfl (by kernel_rfl) (by kernel_rfl) (Or.inl ⟨by rfl,?hy7⟩) d (fun d=>?_)
 case hy7=>intro w Q;(try dsimp only at Q);go_simp;(try with_reducible rfl)
 try simp only[Aw,Aj,Ax,Az]
 refine wtk 9 d (fun d=>?_);refine nV (i:=10) (v:=?v10) rfl (by kernel_rfl) (by kernel_rfl) (by kernel_rfl) (fun _ _ _ h=>h) rfl (by kernel_rfl) (by kernel_rfl) (Or.inl ⟨by rfl,?hy10⟩) d (fun d=>?_)
 case hy10=>intro w Q;(try dsimp only at Q);go_simp;(try with_reducible rfl)
 try simp only[Aw,Aj,Ax,Az]
 refine dQ (i:=2) (by kernel_rfl) rfl (fun K e=>?_);go_simp;refine(bZu (.slice A1 m1 c1) s.mem _ (az.out.below c.out.b (Ak _))).mono ?_;rintro en wa ⟨v1,rfl,o1,b1⟩;rw[an.out]at o1;obtain⟨r,t,rfl,_⟩:=cJ o1;have u:=cQ o1;have E1:=cQ (fun(j:Nat) (x:(Av r m1 t).ownBlock=some j)=>(o1.lt j x).2);have F1:=cQ (fun(j:Nat) (x:(Av r m1 t).ownBlock=some j)=>(o1.lt j x).1);have P1:=cQ b1;have c:=cQ (show CpB w _ _ _ _ _ _ wa from⟨c.out.k.below b1 c.out.k.lt,c.out.z.below b1 c.out.z.lt,c.out.b.trans (b1.mono c.out.b.size)⟩);obtain⟨n,_,o,_,p,q⟩:=eX c.out.k;refine e.out _ _ ⟨trivial,fun _=>⟨n,o,p,q⟩⟩ (fun d=>?_);clear e K o1 b1 n o p q
 try simp only[Aw,Aj,Ax,Az]
 refine wtk 12 d (fun d=>?_);refine dQ (i:=5) (by kernel_rfl) rfl (fun K e=>?_);go_simp;refine(kQ (.slice W m2 X) s.globals _ (aA.out.below c.out.b (Ak _))).mono ?_;rintro en wb ⟨v2,rfl,o2,Y⟩;rw[ao.out]at o2;obtain⟨y,A,rfl,_⟩:=cJ o2;have u:=cQ (cK u.out Y (Ak _));have B:=cQ o2;have E2:=cQ (fun(j:Nat) (x:(Av y m2 A).ownBlock=some j)=>(o2.lt j x).2);have F2:=cQ (fun(j:Nat) (x:(Av y m2 A).ownBlock=some j)=>(o2.lt j x).1);have P2:=cQ Y;have c:=cQ (show CpB w _ _ _ _ _ _ wb from⟨c.out.k.below Y c.out.k.lt,c.out.z.below Y c.out.z.lt,c.out.b.trans (Y.mono c.out.b.size)⟩);obtain⟨n,_,o,_,p,q⟩:=eX c.out.k;refine e.out _ _ ⟨trivial,fun _=>⟨n,o,p,q⟩⟩ (fun d=>?_);clear e K o2 Y n o p q
 try simp only[Aw,Aj,Ax,Az]
 refine dQ (i:=8) (by kernel_rfl) rfl (fun K e=>?_);go_simp;refine(kQ (.slice O f P) s.input _ (aB.out.below c.out.b (Ak _))).mono ?_;rintro en wc ⟨v3,rfl,o3,R⟩;rw[aq.out]at o3;obtain⟨C,D,rfl,_⟩:=cJ o3;have u:=cQ (cK u.out R (Ak _));have B:=cQ (cK B.out R (Ak _));have G:=cQ o3;have E3:=cQ (fun(j:Nat) (x:(Av C f D).ownBlock=some j)=>(o3.lt j x).2);have F3:=cQ (fun(j:Nat) (x:(Av C f D).ownBlock=some j)=>(o3.lt j x).1);have P3:=cQ R;have c:=cQ (show CpB w _ _ _ _ _ _ wc from⟨c.out.k.below R c.out.k.lt,c.out.z.below R c.out.z.lt,c.out.b.trans (R.mono c.out.b.size)⟩);obtain⟨n,_,o,_,p,q⟩:=eX c.out.k;refine e.out _ _ ⟨trivial,fun _=>⟨n,o,p,q⟩⟩ (fun d=>?_);clear e K o3 R n o p q
 try simp only[Aw,Aj,Ax,Az]
 refine dQ (i:=11) (by kernel_rfl) rfl (fun K e=>?_);go_simp;refine(kQ (.slice I m J) s.log _ (aC.out.below c.out.b (Ak _))).mono ?_;rintro en wd ⟨v4,rfl,o4,M⟩;rw[ar.out]at o4;obtain⟨E,F,rfl,_⟩:=cJ o4;have u:=cQ (cK u.out M (Ak _));have B:=cQ (cK B.out M (Ak _));have G:=cQ (cK G.out M (Ak _));have H:=cQ o4;have E4:=cQ (fun(j:Nat) (x:(Av E m F).ownBlock=some j)=>(o4.lt j x).2);have F4:=cQ (fun(j:Nat) (x:(Av E m F).ownBlock=some j)=>(o4.lt j x).1);have P4:=cQ M;have c:=cQ (show CpB w _ _ _ _ _ _ wd from⟨c.out.k.below M c.out.k.lt,c.out.z.below M c.out.z.lt,c.out.b.trans (M.mono c.out.b.size)⟩);obtain⟨n,_,o,_,p,q⟩:=eX c.out.k;refine e.out _ _ ⟨trivial,fun _=>⟨n,o,p,q⟩⟩ (fun d=>?_);clear e K o4 M n o p q
 try simp only[Aw,Aj,Ax,Az]
 have q0:=(eX c.out.k).1;have f0:=frz c.out.k 0;refine dQ (i:=13) (by kernel_rfl) rfl (fun K e=>?_);go_simp;obtain⟨aw,S⟩:=cX (wd.setCell ⟨w.heap.size,0,none⟩ (.slice r m1 t));have u:=cQ (S ▸ fX u.out c.out.k (by decide));have B:=cQ (S ▸ fX B.out c.out.k (by decide));have G:=cQ (S ▸ fX G.out c.out.k (by decide));have H:=cQ (S ▸ fX H.out c.out.k (by decide));have c:=cQ (show CpB w (.slice r m1 t) (.int .i64 s.most) (.slice W m2 X) (.int .i64 s.fuel) (.slice O f P) (.slice I m J) aw from S ▸ c.out.next (World.grownBy.refl _ _) 0 (.slice r m1 t) rfl);rw[S];refine e.out _ _ (SD.after trivial (by rfl)) (fun d=>?_);clear e K S q0 f0
 try simp only[Aw,Aj,Ax,Az]
 refine wtk 14 d (fun d=>?_);have q1:=(eX c.out.k).2.2.1;have f1:=frz c.out.k 2;refine dQ (i:=15) (by kernel_rfl) rfl (fun K e=>?_);go_simp;obtain⟨ax,T⟩:=cX (aw.setCell ⟨w.heap.size,2,none⟩ (.slice y m2 A));have u:=cQ (T ▸ fX u.out c.out.k (by decide));have B:=cQ (T ▸ fX B.out c.out.k (by decide));have G:=cQ (T ▸ fX G.out c.out.k (by decide));have H:=cQ (T ▸ fX H.out c.out.k (by decide));have c:=cQ (show CpB w (.slice r m1 t) (.int .i64 s.most) (.slice y m2 A) (.int .i64 s.fuel) (.slice O f P) (.slice I m J) ax from T ▸ c.out.next (World.grownBy.refl _ _) 2 (.slice y m2 A) rfl);rw[T];refine e.out _ _ (SD.after trivial (by rfl)) (fun d=>?_);clear e K T q1 f1
 try simp only[Aw,Aj,Ax,Az]
 refine wtk 16 d (fun d=>?_);have q2:=(eX c.out.k).2.2.2.2.1;have f2:=frz c.out.k 4;refine dQ (i:=17) (by kernel_rfl) rfl (fun K e=>?_);go_simp;obtain⟨ay,U⟩:=cX (ax.setCell ⟨w.heap.size,4,none⟩ (.slice C f D));have u:=cQ (U ▸ fX u.out c.out.k (by decide));have B:=cQ (U ▸ fX B.out c.out.k (by decide));have G:=cQ (U ▸ fX G.out c.out.k (by decide));have H:=cQ (U ▸ fX H.out c.out.k (by decide));have c:=cQ (show CpB w (.slice r m1 t) (.int .i64 s.most) (.slice y m2 A) (.int .i64 s.fuel) (.slice C f D) (.slice I m J) ay from U ▸ c.out.next (World.grownBy.refl _ _) 4 (.slice C f D) rfl);rw[U];refine e.out _ _ (SD.after trivial (by rfl)) (fun d=>?_);clear e K U q2 f2
 try simp only[Aw,Aj,Ax,Az]
 refine wtk 18 d (fun d=>?_);have q3:=(eX c.out.k).2.2.2.2.2;have f3:=frz c.out.k 5;refine dQ (i:=19) (by kernel_rfl) rfl (fun K e=>?_);go_simp;obtain⟨aD,V⟩:=cX (ay.setCell ⟨w.heap.size,5,none⟩ (.slice E m F));have u:=cQ (V ▸ fX u.out c.out.k (by decide));have B:=cQ (V ▸ fX B.out c.out.k (by decide));have G:=cQ (V ▸ fX G.out c.out.k (by decide));have H:=cQ (V ▸ fX H.out c.out.k (by decide));have c:=cQ (show CpB w (.slice r m1 t) (.int .i64 s.most) (.slice y m2 A) (.int .i64 s.fuel) (.slice C f D) (.slice E m F) aD from V ▸ c.out.next (World.grownBy.refl _ _) 5 (.slice E m F) rfl);rw[V];refine e.out _ _ (SD.after trivial (by rfl)) (fun d=>?_);clear e K V q3 f3
 try simp only[Aw,Aj,Ax,Az]
 refine iX (by kernel_rfl) ?_ _;clear d;obtain⟨n,r1,o,r3,p,q⟩:=eX c.out.k;have g0:=frz c.out.z 0;have g1:=frz c.out.z 1;have g2:=frz c.out.z 2;have g3:=frz c.out.z 3;have g4:=frz c.out.z 4;have g5:=frz c.out.z 5;obtain⟨p0,p1,p2,p3,p4,p5⟩:=eX c.out.z;have yz:=c.out.z.lt;have aE:=cQ (aQj c.out.z (.slice r m1 t) (.int .i64 s.most) (.slice y m2 A) (.int .i64 s.fuel) (.slice C f D) (.slice E m F));have aF:=cQ (aKe c.out.b (show w.heap.size<=w.heap.size+1 by omega) (.slice r m1 t) (.int .i64 s.most) (.slice y m2 A) (.int .i64 s.fuel) (.slice C f D) (.slice E m F));have H1:=cQ (eY u.out c.out.z (by decide) (.slice r m1 t) (.int .i64 s.most) (.slice y m2 A) (.int .i64 s.fuel) (.slice C f D) (.slice E m F));have H2:=cQ (eY B.out c.out.z (by decide) (.slice r m1 t) (.int .i64 s.most) (.slice y m2 A) (.int .i64 s.fuel) (.slice C f D) (.slice E m F));have H3:=cQ (eY G.out c.out.z (by decide) (.slice r m1 t) (.int .i64 s.most) (.slice y m2 A) (.int .i64 s.fuel) (.slice C f D) (.slice E m F));have H4:=cQ (eY H.out c.out.z (by decide) (.slice r m1 t) (.int .i64 s.most) (.slice y m2 A) (.int .i64 s.fuel) (.slice C f D) (.slice E m F));go_wp2_with fail;have z1:=P1.out.size;have z2:=P2.out.size;have z3:=P3.out.size;have z4:=P4.out.size;refine bodyPost_ret (bQr _ _ (w.heap.size+1) _ _ _ _ _ _ rfl aE.out) rfl ?_
 exact⟨.slice r m1 t,.slice y m2 A,.slice C f D,.slice E m F,rfl,by rw[an.out];exact eQ H1.out L.out.b.size,by rw[ao.out];exact eQ H2.out (Ay L.out.b.size P1.out.size),by rw[aq.out];exact eQ H3.out (Ay L.out.b.size (Ay P1.out.size P2.out.size)),by rw[ar.out];exact eQ H4.out (Ay L.out.b.size (Ay P1.out.size (Ay P2.out.size P3.out.size))),aF.out,
  fun k Z=>⟨fun h=>by have:=E2.out k Z;have:=F4.out k h;omega,fun h=>by have:=E2.out k Z;have:=F3.out k h;omega,fun h=>by have:=E1.out k h;have:=F2.out k Z;omega⟩,
  fun k Z=>⟨fun h=>by have:=E3.out k h;have:=F4.out k Z;omega,fun h=>by have:=E1.out k h;have:=F4.out k Z;omega⟩⟩
theorem aYg{p:RowsD}{n:Nat}{l:List Nat}{s:StD}{g:SigD}(hp:ProgP p)(hs:StOk p.env s)(hg:p.env.sigs[n]? = some g)(c:l.length=g.inn.length)(b:All64 l)(ad:s.log.length<=4096):MOk p (eV p n l s):=by
 unfold eV;by_cases hi:(n:Int)<p.env.imports
 ·rw[if_pos hi];exact { frs:=fun f hf=>(by cases hf),chain:=trivial,depth:=AK _,st:=hs,o64:=kZ,olen:=AK _,live:=fun _ h=>(by cases h),nf:=fun _=>rfl,fst:=fun d a h=>(by injection h with h;injection h with h1 h2;subst h1;subst h2;exact⟨hi,b,g,hg,c⟩),fin:=fun h=>(by cases h),go:=fun _=>⟨rfl,rfl⟩,log:=(by show s.log.length<=4096+9*0;omega) }
 ·rw[if_neg hi];have h1:=(List.getElem?_eq_some_iff.1 hg).1;have h2:=hp.len;have h3:=kX hp.env;obtain⟨q,hq⟩:∃ q,p.fns[n - p.env.imports.toNat]? = some q:=⟨_,Aq (by omega)⟩;have e:=(hp.row _ _ hq).1;simp only[hq,hg];exact { frs:=fun f hf=>(by rw[List.mem_singleton.1 hf];exact⟨hq,AX Nat.one_pos e.n1,pK _ _,aZr _ (lQ _ _ b)⟩),chain:=trivial,depth:=(by simp),st:=hs,o64:=kZ,olen:=AK _,live:=fun _ _ h=>(by cases h),nf:=fun h=>absurd rfl h,fst:=fun d a h=>(by cases h),fin:=fun h=>(by cases h),go:=fun _=>⟨rfl,rfl⟩,log:=(by show s.log.length<=4096+9*0;omega) }
theorem bKy{p:RowsD}{x:MaD}{f:FrD}{rest:List FrD}{c:CodeD}(A:ActD):(doM p x f rest c A).first=x.first:=by
 cases A with
 | go k=>rfl
 | vals l s=>rfl
 | trap e s=>rfl
 | ret l=>cases rest <;> rfl
 | call n=>
  unfold doM;by_cases h:16<=rest.length+1
  ·simp only[if_pos h,jV]
  ·simp only[if_neg h]
   cases p.fns[n - p.env.imports.toNat]? with
   | none=>rfl
   | some q=>cases p.env.sigs[n]? <;> rfl
theorem stepM_first{p:RowsD}(x:MaD):(dK p x).first=x.first:=by
 unfold dK
 split
 ·rfl
 ·unfold goM
  cases hf:x.first with
  | some q=>obtain⟨n,a⟩:=q;rfl
  | none=>
   simp only[hf]
   cases hs:x.st with
   | nil=>first | (simp only;done) | rfl
   | cons f rest=>
    simp only
    cases hc:f.r.code[f.k]? with
    | none=>first | exact hf | rfl
    | some c=>exact bKy _
theorem stN_first{p:RowsD}:∀ (i:Nat) (x:MaD),(stN p i x).first=x.first
 | 0,_=>rfl
 | i+1,x=>(stN_first i (dK p x)).trans (stepM_first x)
theorem aYh(p:RowsD)(n:Nat)(l:List Nat)(s:StD):(eV p n l s).steps=0:=by
 unfold eV
 split
 ·rfl
 ·split <;> rfl
theorem bYz{p:RowsD}{n dc wd:Nat}{g:SigD}{a l:List Nat}{s s2:StD}{e2:Int}(hp:ProgP p)(b:∀ (i:Nat) q,p.fns[i]? = Option.some q->∀ c∈q.code,c.n<18446744073709551616)(hs:StOk p.env s)(hg:p.env.sigs[n]? = some g)(d:a.length=g.inn.length)(e:All64 a)(f:s.log.length<=4096)(h:CDid p 8 0 n g a s s2 e2 dc wd l):
  (∀ i,i<=gX p n dc->MOk p (stN p i (eV p n a s)))/\(∀ i,i<gX p n dc->(stN p i (eV p n a s)).over=false)/\(stN p (gX p n dc) (eV p n a s)).over=true/\(∀ i,i<=gX p n dc->(stN p i (eV p n a s)).steps=i)/\(∀ i,(stN p i (eV p n a s)).first≠none->(eV p n a s).first≠none):=by
 obtain⟨h1,h2,_⟩:=aXj hg h;refine⟨fun i _=>aYi hp b i (aYg hp hs hg d e f),h2,by rw[h1],fun i hi=>?_,fun i hf=>by rw[stN_first]at hf;exact hf⟩;rw[aVl i (fun j k=>h2 j (AX k hi)),aYh,Nat.zero_add]
end Go.Proofs.YtabibkpfgmolkaaDoor
namespace Go.Proofs.YtabibkpfgmolkaaDoor
end Go.Proofs.YtabibkpfgmolkaaDoor
namespace Go.Proofs.YtabibkpfgmolkaaDoor
section
open Go.Lib
end
end Go.Proofs.YtabibkpfgmolkaaDoor
namespace Go.Proofs.YtabibkpfgmolkaaDoor
end Go.Proofs.YtabibkpfgmolkaaDoor
namespace Go.Proofs.YtabibkpfgmolkaaDoor
section
open Go.Lib
end
end Go.Proofs.YtabibkpfgmolkaaDoor
namespace Go.Proofs.YtabibkpfgmolkaaDoor
end Go.Proofs.YtabibkpfgmolkaaDoor
namespace Go.Proofs.YtabibkpfgmolkaaDoor
end Go.Proofs.YtabibkpfgmolkaaDoor
namespace Go.Proofs.YtabibkpfgmolkaaDoor
end Go.Proofs.YtabibkpfgmolkaaDoor
namespace Go.Proofs.YtabibkpfgmolkaaDoor
end Go.Proofs.YtabibkpfgmolkaaDoor
namespace Go.Proofs.YtabibkpfgmolkaaDoor
end Go.Proofs.YtabibkpfgmolkaaDoor
namespace Go.Proofs.YtabibkpfgmolkaaDoor
end Go.Proofs.YtabibkpfgmolkaaDoor
namespace Go.Proofs.YtabibkpfgmolkaaDoor
end Go.Proofs.YtabibkpfgmolkaaDoor
namespace Go.Proofs.YtabibkpfgmolkaaDoor
end Go.Proofs.YtabibkpfgmolkaaDoor
namespace Go.Proofs.YtabibkpfgmolkaaDoor
section
variable {H:Type} {enc:TypeId×Aa->H} {w:World}
theorem cKj:iY enc cZ w 27 (fun w cs (l:List RowD)=>∃ v,cs = [v]/\Structs 5 RowC w v l):=by
 intro fuel cs x h a;obtain⟨l,v,e,hs,_⟩:=mK (enc:=enc) (w:=w) underlying27 (show cZ.cellsOf 45=5 by kernel_rfl) (by omega) (show 1<=cZ.bytesOf 45 by decide +kernel) cJi fuel cs x h a;exact⟨l,v,e,hs⟩
theorem cen:cZ.cellsOf 26=5:=by kernel_rfl
theorem crs:cZ.cellsOf 27=1:=by kernel_rfl
theorem rows_open{r:Reach}{k:Nat}{v:Aa}{d:DataW H}{q:List MemPlace}(hv:Value.okWide cZ w r k 29 v)(h:DataW.Trod enc cZ w 0 (fun _=>true) true 29 v d q)(hs:aQb cZ 29 d):∃ p,RowsV w v p:=by
 obtain⟨cs,rfl⟩:=bKg (t:=29) (fs:=_) underlying29 hv;obtain⟨fuel,hf⟩:=h;obtain⟨e,g⟩:=eZ underlying29 hf hs 0 0 5 26 rfl cJh rfl rfl cen;obtain⟨l,v1,f,m⟩:=eZ underlying29 hf hs 1 5 1 27 rfl cKj rfl rfl crs;obtain⟨_,_,_,_,n,_,_⟩:=DataW.trod_struct underlying29 hf;have i:(AW cs).cells.toList.length=6:=n.trans (by kernel_rfl);have hc:(AW cs).cells.toList=cs.toList:=rfl;rw[hc]at g f i
 match j:cs.toList,i with
 | [x0,x1,x2,x3,x4,x5],_=>
  rw[j]at g f;obtain⟨a,b,c,hq,h1,h2,o⟩:=g;simp at hq f;obtain⟨rfl,rfl,rfl,rfl,rfl⟩:=hq;subst f;refine⟨⟨e,l⟩,x0,x2,x3,x5,?_,h1,h2,o,m⟩
  have:cs=#[x0,.int .i64 e.imports,x2,x3,.bool e.mem,x5]:=by
   apply Array.ext';rw[j]
  rw[this]
end
section
open Go.ChangeShapes Go.WideShapes Go.Deep
structure AskD where
 n:Int
 args:List Nat
 s:RawS
def aYo(w:World)(v:Aa)(q:AskD):Prop:=∃ a m i g j h l,v = .agg #[.int .i64 q.n,a,m,.int .i64 i,g,.int .i64 j,h,l] /\ -9223372036854775808<=q.n/\q.n<=9223372036854775807/\UR w a q.args/\StV w (.agg #[m,.int .i64 i,g,.int .i64 j,h,l]) q.s/\i=q.s.most/\j=q.s.fuel
section
variable {H:Type} {enc:TypeId×Aa->H} {P:Program} {w:World}
theorem aKh{t e:TypeId}{k:IntKind}{by_ M:Nat}(m:P.underlying t=some (.slice e))(he:P.underlying e=some (.int k))(o:P.cellsOf e=1)(p:P.bytesOf e=by_)(ag:1<=by_)(q:∀ a:Int,(Lit.int k a).wf=true->0<=a/\a<(M:Int)):
  iY enc P w t (fun w cs (l:List Nat)=>∃ A c,cs = [.slice A l.length c]/\Src w A l.length (l.map fun(n:Nat)=>AY k (n:Int))/\l.length<=c/\(A=none->c=0)/\c*by_<=140737488351232/\∀ x∈l,x<M):=by
 intro fuel cs x h r;obtain⟨l,v,rfl,⟨A,c,vs,rfl,h1,h2,h3,h4,s,b,d⟩,u⟩:=mK (enc:=enc) (w:=w) m o (by omega) (by omega) (xY he) fuel cs x h r;have f:=u _ _ _ rfl;rw[p]at f;have g:∀ i (hi:i<l.length),0<=l[i]/\l[i]<(M:Int):=fun i hi=>q _ (b i _ _ (Aq (by omega)) (Aq hi)).2;refine⟨l.map Int.toNat,A,c,by rw[AJ],?_,by rw[AJ];exact h1,h2,f,fun x z=>?_⟩
 ·rw[AJ]
  have B:vs.flatten=(l.map Int.toNat).map fun(n:Nat)=>AY k (n:Int):=by
   apply List.ext_getElem?;intro i;by_cases hi:i<l.length
   ·have hv:vs[i]? = some (vs[i]'(by omega)):=Aq (by omega);have C:=(b i _ _ hv (Aq hi)).1;have:=rK (j:=0) s hv (by rw[C];rfl);rw[AV,Nat.add_zero]at this;rw[this];have D:=(g i hi).1;simp[AZ,Aq hi,Int.toNat_of_nonneg D]
   ·have E:=d.1;rw[AQ (by rw[E];omega),AQ (by simp;omega)]
  rw[<-B]
  simpa using d
 ·obtain⟨y,F,rfl⟩:=List.mem_map.1 z;obtain⟨i,hi,rfl⟩:=List.mem_iff_getElem.1 F;have:=g i hi;omega
end
end
section
variable {H:Type} {enc:TypeId×Aa->H} {w:World}
theorem aZl:iY enc cZ w 30 (fun w cs (l:List Nat)=>∃ v,cs = [v]/\UR w v l):=by
 intro fuel cs x h b;obtain⟨l,A,c,rfl,h1,h2,d,h4,e⟩:=aKh (enc:=enc) (w:=w) (k:=.u64) (by_:=8) (M:=18446744073709551616) underlying30 underlying62 (by kernel_rfl) (by kernel_rfl) (by omega) (fun a ha=>aJj ha) fuel cs x h b;exact⟨l,_,rfl,A,c,rfl,h1,h2,d,⟨by omega,by omega⟩,e⟩
theorem cJw:iY enc cZ w 31 (fun w cs (l:List Nat)=>∃ v,cs = [v]/\BR w v l):=by
 intro fuel cs x h b;obtain⟨l,A,c,rfl,h1,h2,d,h4,e⟩:=aKh (enc:=enc) (w:=w) (k:=.u8) (by_:=1) (M:=256) underlying31 underlying5 (by kernel_rfl) (by kernel_rfl) (by omega) (fun a ha=>bJn ha) fuel cs x h b;exact⟨l,_,rfl,A,c,rfl,h1,h2,d,⟨by omega,by omega⟩,e⟩
theorem cWg:cZ.cellsOf 31=1:=by kernel_rfl
theorem aWp:cZ.cellsOf 30=1:=by kernel_rfl
theorem cst:cZ.cellsOf 33=6:=by kernel_rfl
theorem cQm:iY enc cZ w 33 (fun w cs (s:RawS)=>∃ a g i l,cs = [a,.int .i64 s.most,g,.int .i64 s.fuel,i,l]/\BR w a s.mem/\UR w g s.globals/\UR w i s.input/\UR w l s.log):=by
 intro fuel cs x h e;obtain⟨p,v0,j,q⟩:=eZ underlying33 h e 0 0 1 31 rfl cJw rfl rfl cWg;obtain⟨r,k,i1⟩:=eZ underlying33 h e 1 1 1 3 rfl yW rfl rfl ci;obtain⟨t,v2,e2,u⟩:=eZ underlying33 h e 2 2 1 30 rfl aZl rfl rfl aWp;obtain⟨l3,m,i3⟩:=eZ underlying33 h e 3 3 1 3 rfl yW rfl rfl ci;obtain⟨l4,v4,n,v⟩:=eZ underlying33 h e 4 4 1 30 rfl aZl rfl rfl aWp;obtain⟨l5,v5,o,y⟩:=eZ underlying33 h e 5 5 1 30 rfl aZl rfl rfl aWp;obtain⟨_,_,_,_,z,_,_⟩:=DataW.trod_struct underlying33 h;have A:cs.length=6:=z.trans (by kernel_rfl)
 match cs,A with
 | [a,b,c,d,f,g],_=>
  simp at j k e2 m n o;subst j;subst k;subst e2;subst m;subst n;subst o;exact⟨⟨p,r,t,l3,l4,l5⟩,_,_,_,_,rfl,q,u,v,y⟩
end
section
open Go.ChangeShapes Go.WideShapes Go.ChangeAt Go.WideMaps Go.WideElems
theorem own:ownKnob cZ.godebug=none:=by kernel_rfl
theorem cVi : cZ.globalNamed "math/bits.deBruijn64tab" = some 0 := by kernel_rfl
theorem cVj : cZ.globalNamed "math/bits.deBruijn32tab" = some 1 := by kernel_rfl
theorem cZu:cZ.underlying 166=some (.array 32 5):=by kernel_rfl
theorem cZv:cZ.underlying 165=some (.array 64 5):=by kernel_rfl
abbrev laid2 : List (String × DataW Unit) := [("math/bits.deBruijn32tab", Rows.laid_math_bits_deBruijn32tab), ("math/bits.deBruijn64tab", Rows.laid_math_bits_deBruijn64tab)]
theorem door_met(os:Os)(args:Array Aa):laidMetH cZ laid2 ((World.doorLaid cZ 400 os).forCall (fun _ _=>0) ⟨#[],args,[]⟩).memory:=
 laidMetH_of_parts3 (fuel:=8) (laidMet_of_run' 8 (by kernel_rfl) (by kernel_rfl)) (by kernel_rfl) (by kernel_rfl)
theorem cKd{H:Type}:(Rows.laid_math_bits_deBruijn64tab:DataW H) = .agg (Lib.deBruijn64tab.map fun n:Nat=>.lit (.int .u8 (n:Int))):=by rfl
theorem cKe{H:Type}:(Rows.laid_math_bits_deBruijn32tab:DataW H) = .agg (Lib.deBruijn32tab.map fun n:Nat=>.lit (.int .u8 (n:Int))):=by rfl
theorem bWg{H:Type}{enc:TypeId×Aa->H}{W:World}{base:Nat}{c:Nat->Bool}{held:Bool}{fuel n:Nat}{T e:TypeId}{cs:List Aa}{l:List Nat}{ps:List MemPlace}(d:cZ.underlying T=some (.array n e))(he:cZ.underlying e=some (.int .u8))(hc:cZ.cellsOf e=1)
  (hl:l.length=n) (h:DataW.trod enc cZ W base c held fuel T cs=some (.agg (l.map fun n:Nat=>.lit (.int .u8 (n:Int))),ps)):∀ j,j<n->cs[j]? = some (.int .u8 ((l.getD j 0:Nat):Int)):=by
 obtain⟨f,m,_,a,_,ae,g⟩:=DataW.trod_array d h;intro j i;have b:=g j i;rw[hc,AV,Aq (by omega)]at b;obtain⟨k,o,e2,_⟩:=DataW.trod_int he b;simp only[Prod.mk.injEq,DataW.agg.injEq]at a;have h1:=congrArg (fun z=>z[j]?) a.1;simp only[AZ]at h1;rw[Aq (show j<l.length by omega),Aq (show j<f.length by omega),e2]at h1;simp at h1
 have h2:cs[j]? = some (.int .u8 k):=by
  have:=congrArg List.head? o;rw[List.head?_take,if_neg (by decide),List.head?_drop]at this;exact this
 rw[h2,List.getD_eq_getElem?_getD,Aq (show j<l.length by omega),<-h1];rfl
theorem of_laid{W:World}(h:laidMetH cZ laid2 W):Tabs W:=by
 rw[MakeChecks.laidMetH_plain _ _ _ (by kernel_rfl)]at h;obtain⟨ps,⟨g0,t0,ak,f0,p0,q0,b,i,k,c,⟨g1,t1,al,f1,p1,q1,d,l,m,e,_,_⟩,_⟩,_,_⟩:=h;obtain rfl:=Option.some.inj (cVj.symm.trans b);obtain rfl:=Option.some.inj (cVi.symm.trans d)
 have o:(cZ.globals[1]?).map (·.type)=some 166:=by kernel_rfl
 have p:(cZ.globals[0]?).map (·.type)=some 165:=by kernel_rfl
 obtain rfl:=Option.some.inj (o.symm.trans i);obtain rfl:=Option.some.inj (p.symm.trans l);simp only[cKe]at c;simp only[cKd]at e;have q:=bWg (n:=32) cZu underlying5 (by kernel_rfl) (by decide) c;have c1:=bWg (n:=64) cZv underlying5 (by kernel_rfl) (by decide) e
 have f:TabAt 1 Lib.deBruijn32tab W:=fun j a=>by
  rw[World.var?_cell b k j]
  simpa using q j a
 have g:TabAt 0 Lib.deBruijn64tab W:=fun j a=>by
  rw[World.var?_cell d m j]
  simpa using c1 j a
 refine⟨g,f,?_⟩;have r:=(aQw (f 0 (by decide))).2;have s:=(aQw (g 0 (by decide))).2;simp only at r s;omega
end
end Go.Proofs.YtabibkpfgmolkaaDoor

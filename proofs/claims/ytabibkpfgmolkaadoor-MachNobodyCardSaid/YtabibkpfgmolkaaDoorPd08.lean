/- Lemmas for the claim, part 8. Conditions: none. -/
import Derived.Test.YtabibkpfgmolkaaDoorPd07
import Derived.Deep.AppendLies
import Derived.Deep.RegionLaw
import Derived.LoopIn
import Derived.LoopNIn
import Derived.OwnWalkIn
import Derived.RangeFuncBound
import Derived.RangeFuncNested
import Derived.Shelf.RegionOpen
set_option maxRecDepth 100000
set_option maxHeartbeats 16000000
set_option linter.unusedVariables false
set_option linter.unusedSimpArgs false
open Go.Lib renaming hid→cQ
open Go.Proofs.Tryd renaming prog→cZ
open Go.Proofs.Tryd
open Go.RowKit
open Nat renaming le_refl→Aj,lt_of_lt_of_le→AZ,reduceAdd→Bq,reduceSub→Bx,sub_self→Bz,le_trans→Bk
open Go.RowKit.Below renaming refl→Aq,heap_setCell→AJ
open List renaming getElem?_eq_getElem→Ax,replicate→Ay,mem_of_getElem?→AX,getD_eq_getElem?_getD→AK,drop_eq_getElem_cons→AV,size_toArray→AW,length_cons→Aa,append_toArray→Ad,append_assoc→Ae,push_toArray→Af,take_length→Ag,cons_append→Ah,length_nil→Ai,nil_append→Bj
open Go.Value renaming slice→Az
open Int renaming eq_ofNat_of_zero_le→Ak,toNat_natCast→Aw
open Array renaming replicate→Av,setIfInBounds_comm→AY,replicate_succ→Ab,replicate_zero→Ac
open UInt8 renaming toNat→AQ
open Go renaming World→Bv,Value→Bw
open Go.RowKit renaming Below→By
namespace Go.Proofs.YtabibkpfgmolkaaDoor
variable {w:Bv}{v:Bw}{ks:List Int}{l:List Nat}{k i fuel a:Nat}
def aQz(C:KaC)(X:KaS)(a:MaD)(w:Bv)(en:Ending)(w':Bv):Prop:=en = .returned (.tuple #[])/\∃ X',KRef C X' w'/\KK X X' w w'/\X'.x=a
theorem aQa(C:KaC)(X:KaS)(j:Bw)(l:List Nat)(e:Int)(w:Bv)(h:KRef C X w)(m:UR w j l)(hf:∀ k,j.ownBlock=some k->X.lab k=8):Calls cZ 24 #[.pointer (some ⟨C.mm,0,none⟩),j,.int .i64 e] w (aQz C X (jK X.x X.x.s l e) w):=by
 have m0:=h.cWp;have ad:w.cell? ⟨C.cb,12,none⟩=some X.sv:=h.cell 12;have ae:w.cell? ⟨C.cb,14,none⟩=some (.int .i64 X.x.e):=h.cell 14;have af:w.cell? ⟨C.cb,16,none⟩=some (.bool X.x.over):=h.cell 16;have f12:=frz h.cb 12;have f14:=frz h.cb 14;have f16:=frz h.cb 16;have a:=((h.cYs true).cYr e).cYt;have lcb:X.lab C.cb≠0:=KRef.lcb h.toKRest;have f:=(((KK.refl X w).set (y:={ X with x:={ X.x with over:=true } }) (g:=C.cb) 16 (.bool true) (.inl lcb) rfl).set (y:={ X with x:={ X.x with over:=true,e:=e } }) (g:=C.cb) 14 (.int .i64 e) (.inl lcb) rfl).set (y:={ X with sv:=.slice none 0 0,ps:=[],x:={ X.x with over:=true,e:=e,st:=[] } }) (g:=C.cb) 12 (.slice none 0 0) (.inl lcb) rfl;have n:((((w.setCell ⟨C.cb,16,none⟩ (.bool true)).setCell ⟨C.cb,14,none⟩ (.int .i64 e)).setCell ⟨C.cb,12,none⟩ (.slice none 0 0))).heap.size=w.heap.size:=(by simp[World.setCell]);obtain⟨A,c,rfl⟩:=m.shape
 have ne8:∀ k,(Az A l.length c).ownBlock=some k->k≠C.cb:=fun k d e=>by
  have:=hf k d;rw[e,h.cl]at this;cases this
 have o:UR ((((w.setCell ⟨C.cb,16,none⟩ (.bool true)).setCell ⟨C.cb,14,none⟩ (.int .i64 e)).setCell ⟨C.cb,12,none⟩ (.slice none 0 0))) (.slice A l.length c) l:=m.heap f.size (fun k d ag=>((AJ _ _ _ _ (ne8 k d)).trans (AJ _ _ _ _ (ne8 k d))).trans (AJ _ _ _ _ (ne8 k d)));obtain⟨wz,p⟩:=cX (((((w.setCell ⟨C.cb,16,none⟩ (.bool true)).setCell ⟨C.cb,14,none⟩ (.int .i64 e)).setCell ⟨C.cb,12,none⟩ (.slice none 0 0))));rw[p]at a f o n;have r:=cQ p;have q:=cQ a;have t:=cQ f;have u:=cQ o;have v:=cQ hf;have HS:=cQ n;have m1:=a.cWp;have ah:wz.cell? ⟨C.cb,13,none⟩=some X.ov:=a.cell 13;have f13:=frz a.cb 13;have yb:=h.cb.lt;have ym:=h.mm.lt;have ai:=a.cb.lt;have aj:=a.mm.lt;clear a f o hf h m p n ne8;by_cases b:e=0
 ·have z:(e == 0)=true:=(by simp[b]);have i:=cQ b;clear b;go_in;go_wp2_with fail;go_region;rw[r.out];go_wp2;go_end0;refine⟨rfl,{ X with sv:=.slice none 0 0,ps:=[],ov:=.slice A l.length c,x:={ X.x with over:=true,e:=e,st:=[],out:=l } },(q.out.cYu (.slice A l.length c) l u.out v.out).drew,(t.out.set (y:={ X with sv:=.slice none 0 0,ps:=[],x:={ X.x with over:=true,e:=e,st:=[] } }) (g:=C.cb) _ _ (.inl (KRef.lcb q.out.toKRest)) rfl).drew.to rfl,?_⟩;unfold jK;rw[if_pos i.out,i.out]
 ·have z:(e == 0)=false:=(by simp[b]);have i:=cQ b;clear b;go_in;go_wp2_with fail;go_region;rw[r.out];go_wp2;go_end0;refine⟨rfl,_,q.out.drew,t.out.drew,?_⟩;unfold jK;rw[if_neg i.out]
def rV(ks:List Int)(l:List Nat)(k:Nat):List Nat:=lowL (ks.take k) (l.take k)++l.drop k
theorem bKz(ks:List Int)(l:List Nat):rV ks l 0=l:=by simp[rV,lowL]
theorem aXa(h:ks.length=l.length)(a:k<=l.length):(lowL (ks.take k) (l.take k)).length=k:=by
 rw[kX _ _ (by simp[h]),List.length_take,Nat.min_eq_left a]
theorem cZa(h:ks.length=l.length)(hk:k<l.length):(rV ks l k)[k]? = l[k]?:=by
 unfold rV;rw[List.getElem?_append_right (by rw[aXa h (by omega)];exact Aj _),aXa h (by omega),Bz,List.getElem?_drop,Nat.add_zero]
theorem bVa(h:ks.length=l.length):rV ks l l.length=lowL ks l:=by
 unfold rV;rw[<-h,Ag,h,Ag,List.drop_length,List.append_nil]
theorem bVb(h:ks.length=l.length){x:Nat}{t:Int}(b:ks[k]? = some t)(a:l[k]? = some x):(rV ks l k).set k (jX t x)=rV ks l (k+1):=by
 have c:=(List.getElem?_eq_some_iff.1 a).1;have ad:=(List.getElem?_eq_some_iff.1 a).2;have d:=aXa h (k:=k) (by omega);unfold rV;rw[List.set_append_right _ _ (by omega),d,Bz,aVt b a,AV c,Ae];rfl
theorem bVc(h:ks.length=l.length){x:Nat}{t:Int}(b:ks[k]? = some t)(a:l[k]? = some x)(he:jX t x=x):rV ks l k=rV ks l (k+1):=by
 have c:=(List.getElem?_eq_some_iff.1 a).1;have d:=(List.getElem?_eq_some_iff.1 a).2;unfold rV;rw[aVt b a,he,AV c,d,Ae];rfl
theorem mW(v:Bw)(l:List Nat)(w:Bv)(h:UR w v l):Calls cZ 22 #[v] w fun e w'=>∃ v',e = .returned v'/\w'.ownsRow w.heap.size 62 1 v' l.length (u64V l)/\By w.heap.size w w':=by
 obtain⟨A,c,rfl,hs,hc,f,hn,_⟩:=h;have ae:∀ (w:Bv) (a:Option Addr) (n c g i:Nat),(binOp .eql 30 (.slice a n c) (.slice none g i)).run cZ w = .ok (.bool a.isNone) w:=fun w a n c g i=>Lib.run_eql_slice_nil w 30 62 a n c g i underlying30;obtain⟨n,d⟩:=cX l.length;rw[d]at hs hc hn ⊢;rcases A with _ | ⟨b,o,sp⟩
 ·have m:c=0:=f rfl;subst m;have p:n=0:=(by omega);subst p;have q:l = []:=List.eq_nil_of_length_eq_zero d;subst q;clear f hs hc hn d;go_in;go_wp2;go_ret;exact⟨_,rfl,World.ownsRow_nil _ _ _ _,Aq _ _⟩
 ·have r:=cQ (hs.below (w':=w.alloc (.cells #[] 62)) ((Aq _ _).alloc (Aj _) _) (Aj _));have af:=hn.1;clear hs f hn d;go_in;go_wp2_with (at_builtin;refine qY _ rfl _ (.tmp 6) 30 rfl w.heap.size 62 _ 8 underlying30 wV rfl _ 0 [] rfl (World.ownsRow_lit w #[] 0 (Aj _) (by unfold maxLen;omega) rfl) _ n c _ rfl r.out (aYs _) (by unfold maxLen;omega) (by omega) (by simp) ?_);rintro v' w' j k;have s:=cQ (by simpa using j:w'.ownsRow w.heap.size 62 1 v' n (u64V l));have t:=cQ k;clear j k;go_wp2;go_ret;exact⟨_,rfl,s.out,((Aq _ _).alloc (Aj _) _).trans t.out⟩
theorem qX(z v:Bw)(ks:List Int)(l:List Nat)(w:Bv)(f:IR w z ks)(j:UR w v l)(he:ks.length=l.length):Calls cZ 35 #[z,v] w (bVx ks l w):=by
 obtain⟨A1,c1,rfl⟩:=f.shape;have A:=cQ f;have H:l.length<=17592186043904:=(by obtain⟨_,_,_,_,_,_,h,_⟩:=j;exact h.1);have B:All64 l:=(by obtain⟨_,_,_,_,_,_,_,h⟩:=j;exact h);have c:=cQ he;have I:=cQ j;obtain⟨n,hn⟩:=cX l.length;have d:=cQ hn;have J:=cQ B;rw[hn]at H;rw[he,hn]at A ⊢;unfold bVx;rw[hn];clear f j he hn B;go_in;go_wp2_with fail;refine(mW _ l _ I.out).mono ?_;rintro e K ⟨v1,rfl,h1,h2⟩;rw[d.out]at h1;have C:=cQ h2;have D:K.ownsRow w.heap.size 62 1 v1 n (u64V (rV ks l 0)):=(by rw[bKz];exact h1);obtain⟨L,M,rfl,ao⟩:=cJ h1;have E:=cQ D;clear h1 D h2;go_wp2_with fail;go_loopw [12] (fun i wr=>∃ k:Nat,k<=n/\i = .int .i64 k/\Hid (wr.ownsRow w.heap.size 62 1 (.slice L n M) n (u64V (rV ks l k)))/\Hid (By w.heap.size w wr)) (fun i _=>n - (intOf i).toNat)
 case atStart=>exact⟨0,by omega,rfl,E,C⟩
 case round=>
  clear E C;obtain⟨k,f,rfl,iO,m⟩:=hrel;by_cases r:k<n
  ·have N:decide ((k:Int)<n)=true:=(by simp;omega);have t2:(k:Int)<n:=(by omega);obtain⟨t,s⟩:∃ t,ks[k]? = some t:=⟨_,Ax (by rw[c.out,d.out];exact r)⟩;obtain⟨x,q⟩:∃ x,l[k]? = some x:=⟨_,Ax (by rw[d.out];exact r)⟩;obtain⟨b,o,rfl,hb,hc⟩:=(A.out.below m.out (Aj _)).cell s;obtain⟨g,c3,u,aq,O,_⟩:=kY iO.out (by omega);injection u with u _ P;subst u;subst P;have Q:=J.out x (AX q)
   have ar:wr.cell? ⟨g,k,none⟩=some (.int .u64 (x:Int)):=by
    rw[iO.out.cellAt k (by omega)];have:=cZa c.out (k:=k) (by rw[d.out];exact r);simp[u64V,this,q]
   have au:wr.frozen? ⟨g,k,none⟩=false:=iO.out.frozenAt _;have F:=cQ s;have G:=cQ q;clear s q;by_cases a:t=127
   ·have R:(t == 127)=true:=(by simp[a]);have hand:=cXj Q;have y:=cQ (show jX t x=x % 4294967296 by unfold jX;rw[if_pos a]);clear a;go_wp2;refine⟨⟨k+1,by omega,by simp,cQ ?_,cQ (m.out.setCell (p:=⟨g,k,none⟩) O _)⟩,by simp[intOf];omega⟩;rw[<-bVb c.out F.out G.out,y.out,<-aQj];exact(iO.out.stored k _).1
   ·have R:(t == 127)=false:=(by simp[a]);have y:=cQ (show jX t x=x by unfold jX;rw[if_neg a]);clear a;go_wp2;refine⟨⟨k+1,by omega,by simp,cQ ?_,m⟩,by simp[intOf];omega⟩;rw[<-bVc c.out F.out G.out y.out];exact iO.out
  ·have N:decide ((k:Int)<n)=false:=(by simp;omega);have S:k=n:=(by omega);subst S;go_wp2;go_ret;refine⟨_,rfl,?_,m.out⟩;have:=bVa c.out;rw[d.out]at this;rw[<-this];exact iO.out
theorem aZa(x:Int)(w:Bv):Calls cZ 56 #[.int .i64 x] w fun e w'=>e = .returned (.int .i64 (if x=35 then 38 else x))/\w=w':=by
 by_cases h:x=35
 ·have h1:(x == 35)=true:=(by simp[h]);rw[if_pos h];clear h;go_in;go_wp2;go_ret;exact⟨rfl,rfl⟩
 ·have h1:(x == 35)=false:=(by simp[h]);rw[if_neg h];clear h;go_in;go_wp2;go_ret;exact⟨rfl,rfl⟩
section
variable {P:Program} {ops:Array Oper} {Q:Exit->Act->Bv->Prop} {md:Region.Mode} {S1 S2:Bv->Prop} {ap:Nat}
def SD(S1 S2:Bv->Prop)(ap:Nat)(listed:Array Bool)(w:Bv):Prop:=S1 w/\(listed.getD ap false=false->S2 w)
theorem SD.of_same{l a:Array Bool}(h:SD S1 S2 ap l w)(he:a.getD ap false=l.getD ap false):SD S1 S2 ap a w:=⟨h.1,fun e=>h.2 (he ▸ e)⟩
theorem SD.after{l:Array Bool}(h:S1 w)(he:l.getD ap false=true):SD S1 S2 ap l w:=⟨h,fun e=>by rw[he]at e;cases e⟩
def mV(P:Program)(md:Region.Mode)(ops:Array Oper)(Q:Exit->Act->Bv->Prop)(S1 S2:Bv->Prop)(ap:Nat):Nat->Array Bool->Act->Bv->Prop
 | 0,listed,a,w=>Region.ready md ops listed = []/\Q .normal a w
 | fuel+1,listed,a,w=>
  (Region.ready md ops listed = []->Q .normal a w) /\
  ∀ i∈Region.ready md ops listed,wpOp P ops Q i (fun b w'=>SD S1 S2 ap (listed.setIfInBounds i true) w'/\mV P md ops Q S1 S2 ap fuel (listed.setIfInBounds i true) b w') a w
theorem aKf:∀ (fuel:Nat) (listed:Array Bool) (a:Act) (w:Bv),mV P md ops Q S1 S2 ap fuel listed a w->wpAny P md ops Q fuel listed a w
 | 0,_,_,_,h=>h
 | fuel+1,_,_,_,h=>⟨h.1,fun i hi=>wpOp_mono (fun b w' c=>aKf fuel _ b w' c.2) (h.2 i hi)⟩
def bJk(md:Region.Mode)(ops:Array Oper)(ap i:Nat):Bool:=match ops[ap]? with
 | some o=>o.after.any fun e=>Region.binds md e && e.on == i
 | none=>false
theorem aXq{f:Oper}{v:Bw}{z:Bv->Prop}{edge:Prop}(hi:ops[i]? = some f)(A:∀ (j:Nat) (o:Oper) cs b,ops[j]? = some o->o.op ≠ .select cs b)
  (J:∀ c a w,Q (.panic c) (a.put f.dst v) w->Q (.panic c) a w) (K:i≠ap) (hedge:edge->bJk md ops ap i=true)
  (B:∀ l w,(edge->l.getD ap false=false)->SD S1 S2 ap l w->z w) :
  ∀ (fuel:Nat) (listed:Array Bool) (a:Act) (w:Bv),
   (∀ j g,ops[j]? = some g->j≠i->listed.getD j true=false->(∀ e∈g.after,Region.binds md e=true->e.on≠i)->f.apart ops g=true) ->
   i∈Region.ready md ops listed->(edge->listed.getD ap false=false)->YieldsIf P ops z f v a->SD S1 S2 ap listed w ->
   mV P md ops Q S1 S2 ap fuel (listed.setIfInBounds i true) (a.put f.dst v) w->mV P md ops Q S1 S2 ap (fuel+1) listed a w:=by
 have same:∀ (l:Array Bool),(l.setIfInBounds i true).getD ap false=l.getD ap false:=fun l=>getD_set_ne false K;intro fuel
 induction fuel with
 | zero=>
  intro listed a w _ m q r n H;refine⟨fun h=>(by rw[h]at m;cases m),fun j s=>?_⟩;by_cases d:j=i
  ·subst d;exact r.wpOp hi (B _ _ q n) ⟨n.of_same (same _),H⟩
  ·have:=ready_mono s d;rw[H.1]at this;cases this
 | succ fuel L=>
  intro listed a w hfree m q r n H;refine⟨fun h=>(by rw[h]at m;cases m),fun j s=>?_⟩;by_cases d:j=i
  ·subst d;exact r.wpOp hi (B _ _ q n) ⟨n.of_same (same _),H⟩
  ·have h1:=H.2 j (ready_mono s d);obtain⟨C,g,t,M⟩:=mem_ready.1 s
   have D:∀ e∈g.after,Region.binds md e=true->e.on≠i:=fun e he p heq=>by
    have h1:=M e he p;have E:=(mem_ready.1 m).1;rw[heq]at h1;rcases Nat.lt_or_ge i listed.size with u | u
    ·simp[u]at E h1;rw[E]at h1;cases h1
    ·simp[Array.getElem?_eq_none u]at h1
   have h2:=wpOp_putIf t (hfree j g t d C D) (fun cs b=>A i f cs b hi) (fun cs b=>A j g cs b t) J r h1
   have N:∀ k ok,ops[k]? = some ok->k≠i->(listed.setIfInBounds j true).getD k true=false ->
     (∀ e∈ok.after,Region.binds md e=true->e.on≠i)->f.apart ops ok=true:=fun k ok O R F S=>by
    refine hfree k ok O R ?_ S;by_cases G:j=k
    ·subst G;exact C
    ·rw[getD_set_ne true G]at F;exact F
   have T:edge->(listed.setIfInBounds j true).getD ap false=false:=fun he=>by
    have U:j≠ap:=fun e=>by
     subst e;have y:=hedge he;unfold bJk at y;rw[t]at y;obtain⟨x,V,p⟩:=Array.any_eq_true'.1 y;simp only[Bool.and_eq_true,beq_iff_eq]at p;exact D x V p.1 p.2
    rw[getD_set_ne false U];exact q he
   refine wpOp_mono (fun W w' X=>?_) h2;obtain⟨Y,Z,h6⟩:=X;have I:SD S1 S2 ap (listed.setIfInBounds j true) w':=Z.of_same (by rw[AY _ _ (Ne.symm d)];exact(same _).symm);refine⟨I,L (listed.setIfInBounds j true) W w' N (ready_mono m (Ne.symm d)) T Y I ?_⟩;rw[AY _ _ d];exact h6
theorem bXd{l:List Oper}{b:Oper}{v:Bw}{fuel:Nat}{listed:Array Bool}{a:Act}{w:Bv}(hi:l[i]? = some b)
  (hs:Region.noSelect l.toArray=true) (hf:Region.free md l.toArray listed i=true) (g:(Region.ready md l.toArray listed).contains i=true)
  (j:∀ c a w,Q (.panic c) (a.put b.dst v) w->Q (.panic c) a w) (k:(i != ap)=true) (m:YieldsIf P l.toArray S1 b v a) (d:SD S1 S2 ap listed w)
  (h:SD S1 S2 ap (listed.setIfInBounds i true) w->mV P md l.toArray Q S1 S2 ap fuel (listed.setIfInBounds i true) (a.put b.dst v) w):mV P md l.toArray Q S1 S2 ap (fuel+1) listed a w:=
 have e:i≠ap:=(by simpa using k);have f:l.toArray[i]? = some b:=(by simpa using hi)
 aXq (edge:=False) f (Region.noSelect_spec hs) j e (fun h=>h.elim) (fun _ _ _ h=>h.1) fuel listed a w (Region.free_spec f hf) (by simpa using g) (fun h=>h.elim) m d (h (d.of_same (getD_set_ne false e)))
theorem wtk(i:Nat){l:List Oper}{b:Oper}{v:Bw}{listed:Array Bool}{a d:Act}(e:SD S1 S2 ap listed w)(h:SD S1 S2 ap (listed.setIfInBounds i true) w->mV P md l.toArray Q S1 S2 ap fuel (listed.setIfInBounds i true) d w)
  (hi:l[i]? = some b:=by rfl) (hs:Region.noSelect l.toArray=true:=by kernel_rfl) (hf:Region.free md l.toArray listed i=true:=by kernel_rfl) (f:(Region.ready md l.toArray listed).contains i=true:=by kernel_rfl)
  (g:∀ c a w,Q (.panic c) (a.put b.dst v) w->Q (.panic c) a w:=by exact fun _ _ _ h=>h) (j:(i != ap)=true:=by rfl) (k:Region.wanted b (yielded l.toArray a.tmps)=true:=by rfl)
  (m:∀ w,S1 w->(execOp a.eval b).run P w = .ok (.value v) w:=by(intro w n;(try dsimp only at n);go_simp;(try with_reducible rfl)))
  (ha:a.put b.dst v=d:=by((try simp only[Act.put,List.setIfInBounds_toArray,List.set_cons_zero,List.set_cons_succ]);(try rfl))):mV P md l.toArray Q S1 S2 ap (fuel+1) listed a w:=
 bXd hi hs hf f g j (Or.inl ⟨k,m⟩) e (fun o=>ha ▸ h o)
theorem nZ{l:List Oper}{b:Oper}{v:Bw}{fuel:Nat}{listed:Array Bool}{a:Act}{w:Bv}(hi:l[i]? = some b)
  (hs:Region.noSelect l.toArray=true) (hf:Region.free md l.toArray listed i=true) (g:(Region.ready md l.toArray listed).contains i=true)
  (j:∀ c a w,Q (.panic c) (a.put b.dst v) w->Q (.panic c) a w) (k:(i != ap)=true) (m:bJk md l.toArray ap i=true) (n:listed.getD ap false=false)
  (o:YieldsIf P l.toArray (fun w=>S1 w/\S2 w) b v a) (d:SD S1 S2 ap listed w)
  (h:SD S1 S2 ap (listed.setIfInBounds i true) w->mV P md l.toArray Q S1 S2 ap fuel (listed.setIfInBounds i true) (a.put b.dst v) w):mV P md l.toArray Q S1 S2 ap (fuel+1) listed a w:=
 have e:i≠ap:=(by simpa using k);have f:l.toArray[i]? = some b:=(by simpa using hi)
 aXq (edge:=True) f (Region.noSelect_spec hs) j e (fun _=>m) (fun _ _ h1 h=>⟨h.1,h.2 (h1 trivial)⟩) fuel listed a w (Region.free_spec f hf) (by simpa using g) (fun _=>n) o d (h (d.of_same (getD_set_ne false e)))
theorem dQ{l:List Oper}{o:Oper}{fuel:Nat}{listed:Array Bool}{a:Act}{w:Bv}(c:Region.ready md l.toArray listed = [i])(f:l[i]? = some o)
  (h:∀ b:Act->Bv->Prop,Shut (∀ a w,SD S1 S2 ap (listed.setIfInBounds i true) w->(SD S1 S2 ap (listed.setIfInBounds i true) w->mV P md l.toArray Q S1 S2 ap fuel (listed.setIfInBounds i true) a w)->b a w)->if Region.wanted o (yielded l.toArray a.tmps)=true then Oper.wp P o a w b Q else b (a.put o.dst undef) w) :
  mV P md l.toArray Q S1 S2 ap (fuel+1) listed a w:=
 ⟨fun d=>(by rw[c]at d;cases d),fun j e=>by
  rw[c]at e;have:=List.mem_singleton.1 e;subst this
  exact wpOp_step (by simpa using f) (fun b g=>h b (fun a w h1 h2=>g a w ⟨h1,h2 h1⟩))⟩
theorem iZ{l:List Oper}{listed:Array Bool}{a:Act}(b:Region.ready md l.toArray listed = [])(h:Q .normal a w):∀ fuel,mV P md l.toArray Q S1 S2 ap fuel listed a w
 | 0=>⟨b,h⟩
 | _+1=>⟨fun _=>h,by rw[b];simp⟩
theorem iJ{l:List Oper}{id:Nat}{a:Act}(S1 S2:Bv->Prop)(ap:Nat)(b:P.follows .mixedOrders=true)(h1:S1 w.drew)(h2:S2 w.drew)
  (h:SD S1 S2 ap (Av l.length false) w.drew->mV P .any l.toArray Q S1 S2 ap l.length (Av l.length false) a w.drew):(Code.region id l.toArray true).wp P Q a w:=
 wp_region_any b (aKf _ _ _ _ (by
  have c:=h ⟨h1,fun _=>h2⟩;rw[AW]
  exact c))
end
theorem aQy:∀ (os:List Int) (a V:List Nat),putV (os.take a.length) (a.take a.length) V=putV os a V
 | [],a,V=>by cases a <;> rfl
 | o :: os,[],V=>rfl
 | o :: os,n :: a,V=>by
  simp only[Aa,List.take_succ_cons,putV];exact aQy os a _
def mQ(X:KaS)(f:FrD)(rest:List FrD)(V:List Nat):KaS:={ X with x:={ X.x with st:={ f with V:=V } :: rest } }
def cJh(C:KaC)(X:KaS)(f:FrD)(rest:List FrD)(V:List Nat)(w:Bv)(en:Ending)(w':Bv):Prop:=en = .returned (.tuple #[])/\KRef C (mQ X f rest V) w'/\KK X (mQ X f rest V) w w'
theorem iW(C:KaC)(X:KaS)(f:FrD)(rest:List FrD)(g cS:Nat)(vc:Bw)(c:CodeD)(B:Bw)(l:List Nat)(w:Bv)(h:KRef C X w)(P:X.x.st=f :: rest)(Q:X.sv = .slice (some ⟨g,0,none⟩) (rest.length+1) cS)
  (hc:CodeV C.w0 vc c) (s:UR w B l) (D:∀ k,B.ownBlock=some k->X.lab k≠10+rest.length) (R:∀ o∈c.outs,0<=o/\o<(f.V.length:Int)) (hle:l.length<=c.outs.length) :
  Calls cZ 39 #[.pointer (some ⟨g,rest.length*3,none⟩),vc,B] w (cJh C X f rest (putV c.outs l f.V) w):=by
 obtain⟨E,cb,F,rfl,az,_,t,_⟩:=hc;obtain⟨A1,c1,rfl⟩:=s.shape;obtain⟨G,H,rfl⟩:=t.shape;obtain⟨m,r⟩:=cX l.length;obtain⟨T,u⟩:=cX c.outs.length;have z:=(Aq w.heap.size w).alloc (Aj _) (.cells #[.int .i64 c.op,.int .u64 (c.n:Int),E,.slice G c.outs.length H,F] 80);have I:=cQ (h.below z);have J:=cQ (Blk.new w 80 #[.int .i64 c.op,.int .u64 (c.n:Int),E,.slice G c.outs.length H,F]);have U:=cQ (KRef.fresh h.toKRest (Aj w.heap.size));have W:=cQ s;rw[r]at D;have aA:=cQ D;have Y:=cQ t.ir;have aB:=cQ R;have aC:=cQ P;have aD:=cQ Q;have Z:=cQ r;have aE:=cQ u;rw[r,u]at hle;have ah:=s.len.2.2.2.2.1.1;rw[u]at z J I Y ⊢;rw[r]at W ah ⊢;have aw:=h.bel.size;clear h P Q t s D R r u az;go_in;go_wp2_with fail;go_loopw [10] (fun i wr=>∃ k:Nat,k<=m/\i = .int .i64 k/\Hid (KRef C (mQ X f rest (putV (c.outs.take k) (l.take k) f.V)) wr/\KK X (mQ X f rest (putV (c.outs.take k) (l.take k) f.V)) (w.alloc (.cells #[.int .i64 c.op,.int .u64 (c.n:Int),E,.slice G T H,F] 80)) wr/\∀ j,X.lab j≠10+rest.length->j<w.heap.size->wr.heap[j]? = w.heap[j]?)) (fun i _=>m - (intOf i).toNat)
 case atStart=>
  refine⟨0,by omega,rfl,cQ ?_⟩
  have e:mQ X f rest (putV (c.outs.take 0) (l.take 0) f.V)=X:=by
   have:putV (c.outs.take 0) (l.take 0) f.V=f.V:=rfl;rw[this];unfold mQ;have h2:=aC.out;cases X;rename_i x _ _ _ _ _ _ _;cases x;simp at h2 ⊢;rw[h2]
  rw[e];exact⟨I.out,KK.refl _ _,fun j _ q=>z.block j q⟩
 case round=>
  obtain⟨k,hk,rfl,K⟩:=hrel;by_cases aF:k<m
  ·have t1:decide ((k:Int)<m)=true:=(by simp;omega);have t2:(k:Int)<m:=(by omega);have t3:(k:Int)<T:=(by omega);obtain⟨y,L⟩:∃ y,l[k]? = some y:=⟨_,Ax (by rw[Z.out];exact aF)⟩;obtain⟨o,A⟩:∃ o,c.outs[k]? = some o:=⟨_,Ax (by rw[aE.out];omega)⟩;have aG:=aB.out o (AX A);obtain⟨on,rfl⟩:=Ak aG.1;have aH:on<f.V.length:=(by omega);obtain⟨p,d,M⟩:=K.out;obtain⟨g',c',v,vs,a,e2,e3,e4,e5,e6,e7,e8,e9,e10,ax⟩:=KRef.top p.toKRest (f:={ f with V:=putV (c.outs.take k) (l.take k) f.V }) (rest:=rest) rfl;have a:X.sv=_:=a;rw[aD.out]at a;injection a with a _ _;injection a with a;injection a with a;subst a;have N:(putV (c.outs.take k) (l.take k) f.V).length=f.V.length:=aVs _ _ _;have e10:wr.ownsRow C.w0.heap.size 62 1 v (putV (c.outs.take k) (l.take k) f.V).length (u64V (putV (c.outs.take k) (l.take k) f.V)):=e10;rw[N]at e10;obtain⟨pg,pc,rfl,aN,aO,aP⟩:=kY e10 (by omega);obtain⟨pv,aQ⟩:=zX e10 aH;have aR:wr.frozen? ⟨pg,on,none⟩=false:=e10.frozenAt _;have K3:=(d.blk J.out U.out).cell 3;simp at K3;have yB:=(d.blk J.out U.out).lt;obtain⟨b,ob,rfl,hb,t⟩:=(W.out.heap (Bk z.size d.size) (fun j q O=>M j (aA.out j q) O)).cell L;obtain⟨b2,aS,rfl,aT,aI⟩:=(Y.out.below p.bel (Aj _)).cell A;have ay:(mQ X f rest (putV (c.outs.take k) (l.take k) f.V)).lab pg=10+rest.length:=ax pg rfl;have aJ:=cQ p;have aK:=cQ d;have aL:=cQ M;have HY:=cQ L;have HO:=cQ A;have HP:=cQ e3;have aM:=cQ N;clear K p d M L A e3 e10 e4 e5 ax I N;go_wp2_with fail;go_region;go_wp2;refine⟨⟨k+1,by omega,by simp,cQ ?_⟩,by simp[intOf];omega⟩;rw[aXf _ _ _ _ _ _ HO.out HY.out,Aw];have hP:=HP.out;rw[<-aM.out]at hP;have S:=aJ.out.cYl (f:={ f with V:=putV (c.outs.take k) (l.take k) f.V }) (rest:=rest) rfl hP on y;refine⟨S.drew,(aK.out.set (y:=mQ X f rest (putV (c.outs.take k) (l.take k) f.V)) (g:=pg) _ _ (.inl (by rw[ay];omega)) rfl).drew.to rfl,fun j q O=>(AJ _ _ _ _ (fun e=>q (by have:j=pg:=e;rw[this];exact ay))).trans (aL.out j q O)⟩
  ·have t1:decide ((k:Int)<m)=false:=(by simp;omega);have ak:m=k:=(by omega);subst ak;go_wp2;go_end0;obtain⟨p,d,_⟩:=K.out;rw[<-Z.out,aQy]at p d;exact⟨rfl,p,KK.trans (KK.cWq ((Aq w.heap.size w).alloc (Aj _) _)) d⟩
theorem bZx:(cZ.info? 77).map (fun i=>(i.zero,i.size,i.bytes))=some (some (.agg #[.pointer none,.int .i64 0,.slice none 0 0]),3,40):=by kernel_rfl
structure EnI (w w2:Bv) (P k:Nat) (q:RowD) (L:List Nat) (wr:Bv):Prop where
 own:wr.ownsRow w.heap.size 62 1 (.slice (some ⟨w.heap.size,0,none⟩) P P) P (u64V (putV (q.params.take k) (L.take k) (Ay P 0)))
 bel:By w.heap.size w wr
 oth:∀ j,j≠w.heap.size->wr.heap[j]? = w2.heap[j]?
 size:wr.heap.size=w2.heap.size
theorem cKq{g:Nat}{e:TypeId}{a b c:Bw}(k:Blk w g e #[a,b,c]):w.cell? ⟨g,0,none⟩=some a/\w.cell? ⟨g,1,none⟩=some b/\w.cell? ⟨g,2,none⟩=some c:=
 ⟨by simpa using k.cell 0,by simpa using k.cell 1,by simpa using k.cell 2⟩
theorem cKr{n c N:Nat}(h:v.ownBlock=some a\/a=N):(Az (some ⟨a,0,none⟩) n c).ownBlock=v.ownBlock\/(Az (some ⟨a,0,none⟩) n c).ownBlock=some N:=by
 rcases h with h | h
 ·exact .inl h.symm
 ·exact .inr (by rw[h];rfl)
theorem vX{w':Bv}{r:Option Nat}(h:w.drew.grownBy w' r):w.grownBy w' r:=⟨h.os,h.tape,h.output,h.size,h.block⟩
theorem cKs{base:Nat}{e:TypeId}{size n:Nat}{a:List Bw}(h:w.ownsRow base e size v n a):w.drew.ownsRow base e size v n a:=h
theorem cVz(C:KaC)(f:FrD)(A:Option Addr)(n c:Nat):∀ u∈mX C f (.slice A n c),u.oneCell'=true:=by
 intro u a;simp only[mX,List.mem_cons,List.mem_nil_iff,or_false]at a;rcases a with rfl | rfl | rfl <;> rfl
theorem cXu{C:KaC}{X:KaS}{f:FrD}{w wr h:Bv}{pv:Bw}{d:Option Addr}{L cS a cap:Nat}{O:Obj}(o:KRef C { X with lab:=eZ X.lab pv (10+X.x.st.length) } wr)(m:KK X { X with lab:=eZ X.lab pv (10+X.x.st.length) } w wr)(i:X.sv = .slice d L cS)(p:X.x.st.length=L)
  (q:wr.ownsRow C.w0.heap.size 62 1 pv f.V.length (u64V f.V)) (r:h.ownsRow C.w0.heap.size 77 3 (.slice (some ⟨a,0,none⟩) (L+1) cap) (L+1) (stCells C X.x.st X.ps++mX C f pv)) (hgrow:(wr.alloc O).drew.grownBy h (Az d L cS).ownBlock) (s:(Az d L cS).ownBlock=some a\/a=wr.heap.size+1) :
  aQz C X { X.x with st:=f :: X.x.st } w (.returned (.tuple #[])) (h.setCell ⟨C.cb,12,none⟩ (.slice (some ⟨a,0,none⟩) (L+1) cap)):=by
 have j:=(Aq wr.heap.size wr).alloc (Aj _) O;have h1:=o.below j;have hg:=vX hgrow;have n:(Az (some ⟨a,0,none⟩) (L+1) cap).ownBlock=(Az d L cS).ownBlock\/(Az (some ⟨a,0,none⟩) (L+1) cap).ownBlock=some (wr.alloc O).heap.size:=cKr (by simpa using s);have l:∀ k,(Az d L cS).ownBlock=some k->eZ X.lab pv (10+X.x.st.length) k=7:=fun k b=>h1.l7 k (by show X.sv.ownBlock=_;rw[i];exact b)
 have t:(Az d L cS).ownBlock≠some C.cb:=fun e=>by
  have h8:=l _ e;have h9:eZ X.lab pv (10+X.x.st.length) C.cb=1:=h1.cl;omega
 have h2:=h1.toKRest.dQa (v':=.slice (some ⟨a,0,none⟩) (L+1) cap) (pv:=pv) (f:=f) (by show World.ownsRow _ _ _ _ _ (X.x.st.length+1) _;rw[p];exact r) (by show World.grownBy _ _ X.sv.ownBlock;rw[i];exact hg) (by show _=X.sv.ownBlock\/_;rw[i];exact n) (aQq q O) (fun k b=>nQ b);have u:=h2.cYa (h1.cb.grown hg t) 12 (.slice (some ⟨a,0,none⟩) (L+1) cap) (by simp[kCells]);refine⟨rfl,_,u,?_,rfl⟩;have z:=(m.below j).grown hg (fun k b=>.inl (by rw[show({ X with lab:=eZ X.lab pv (10+X.x.st.length) }:KaS).lab k=7 from l k b];decide))
 have A:=z.cWs (v:=.slice (some ⟨a,0,none⟩) (L+1) cap) (c:=7) (fun k b=>by
  rcases n with e | e
  ·exact .inr (by rw[show({ X with lab:=eZ X.lab pv (10+X.x.st.length) }:KaS).lab k=7 from l k (by rw[<-e];exact b)];decide)
  ·rw[b]at e;injection e with e
   exact .inl (by rw[e];exact Bk m.size j.size))
 have B:=KRef.lcb h2;exact(A.set (y:={ X with lab:=eZ (eZ X.lab pv (10+X.x.st.length)) (.slice (some ⟨a,0,none⟩) (L+1) cap) 7 }) (g:=C.cb) 12 _ (.inl B) rfl).to rfl
theorem bYy(P:Nat):u64V (Ay P 0)=Ay P (.int .u64 0):=by simp[u64V]
theorem aVc(C:KaC)(X:KaS)(n m i:Nat)(g:SigD)(q:RowD)(va:Bw)(a:List Nat)(w:Bv)(h:KRef C X w)(s:KC C)(hg:C.p.env.sigs[n]? = some g)(T:C.p.env.imports=(m:Int))(hi:n=m+i)(hq:C.p.fns[i]? = some q)(ha:UR w va a)(G:a.length=g.inn.length)(hd:X.x.st.length<=15):
  Calls cZ 26 #[.pointer (some ⟨C.mm,0,none⟩),.int .i64 n,va] w (aQz C X { X.x with st:=⟨i,q,0,initV q (lowL g.inn a)⟩ :: X.x.st } w):=by
 have D:=(s.ok.row _ _ hq).1;obtain⟨nf,cf,hf⟩:=s.adr (fun e=>by rw[e]at hq;simp at hq)
 have aK:q.sig=g:=by
  have h1:=(s.ok.row _ _ hq).2;rw[T,Aw,<-hi,hg]at h1;injection h1 with h1;exact h1.symm
 obtain⟨P,U⟩:=Ak D.p1;have bC:P<=4096:=(by have:=D.p2;omega);obtain⟨sb,so,ns,cs,sp,sq,aL,ba,bb,s1,s2,s3,V,_⟩:=s.sig h.bel hg;obtain⟨rp,rq,rs,ru,W,y1,y2,Y,I,y5,_,_,J,_⟩:=s.row h.bel hq;rw[U]at Y;have m0:=h.cWp;have c0:w.cell? ⟨C.cb,0,none⟩=some (.slice (some ⟨sb,so,none⟩) ns cs):=(by rw[h.cell 0];simp[kCells,aL]);have c1:w.cell? ⟨C.cb,1,none⟩=some (.int .i64 m):=(by rw[h.cell 1];simp[kCells,T]);have c5:w.cell? ⟨C.cb,5,none⟩=some (.slice (some ⟨C.zf,C.of_,none⟩) nf cf):=(by rw[h.cell 5];simp[kCells,hf]);have yb:=h.cb.lt;have ym:=h.mm.lt
 have bD:i<nf:=by
  obtain⟨a',b',d',f',e,_,_,_,h4⟩:=s.rows;injection e with e;injection e with e;simp only[List.cons.injEq,and_true]at e;obtain⟨_,_,_,_,_,e6⟩:=e;rw[<-e6,hf]at h4;rw[h4.cWr.1];exact(List.getElem?_eq_some_iff.1 hq).1
 have bc:(i:Int)<(nf:Int):=(by omega);have bd:IntKind.i64.wrap ((n:Int) - (m:Int))=(i:Int):=(by rw[show(n:Int) - (m:Int)=(i:Int) by omega];exact IntWalk.i64_in _ (by omega));have be:(n:Int)<(ns:Int):=(by omega);obtain⟨K,Z⟩:=cX a.length;have aM:(lowL g.inn a).length=K:=(by rw[kX _ _ G.symm,Z]);have ax:q.params.length=K:=(by rw[D.par,aK,<-G,Z]);have bE:K<=8:=(by have:=(nK s.ok.env hg).1;omega);obtain⟨A2,c2,bf⟩:=J.shape;subst bf;rw[ax]at I J;obtain⟨A1,bF,rfl⟩:=V.shape;have mk:=bJr (P:=cZ) 30 62 (.int .u64 0) 8 underlying30 wV rfl P (by omega) (by omega);have H:=cQ h;have HC:=cQ s;have HA:=cQ ha;have aN:=cQ G;have ay:=cQ aM;have bg:=cQ ax;have bh:=cQ D;have HP:=cQ U;have bj:=cQ V;have bk:=cQ J.ir;clear h ha G aM ax D U V J hg hq aK aL hf Z T hi ba s;go_in;go_wp2_with fail;go_quiet (fail);obtain⟨b,z⟩:=cX (w.drewN nq)
 have q0:∀ a,b.cell? a=w.cell? a:=fun a=>by rw[<-z];rfl
 have qs:b.heap.size=w.heap.size:=(by rw[<-z];rfl);rw[<-q0]at m0 c0 c1 c5 s2 s3 y1 y2 Y I y5;rw[<-qs]at yb ym s1 W;have u:=cQ (show KRef C X b by rw[<-z];exact H.out.drewN nq);have az:=cQ (show KK X X w b by rw[<-z];exact KK.cWq (dW (Aq _ _) nq));have aO:=cQ (show UR b va a by rw[<-z];exact HA.out);rw[z];clear z q0 qs H HA;have aP:=(Aq b.heap.size b).alloc (Aj _) (.cells (Av P (.int .u64 0)) 62);have M:=aP.alloc (by simp) (.cells #[.pointer (some ⟨C.zf,C.of_+i*5,none⟩),.int .i64 0,.slice (some ⟨b.heap.size,0,none⟩) P P] 77);have aQ:=cQ ((Blk.new b 62 (Av P (.int .u64 0))).alloc (.cells #[.pointer (some ⟨C.zf,C.of_+i*5,none⟩),.int .i64 0,.slice (some ⟨b.heap.size,0,none⟩) P P] 77));have aR:=cQ (Blk.newAt (b.alloc (.cells (Av P (.int .u64 0)) 62)) (N:=b.heap.size+1) 77 #[.pointer (some ⟨C.zf,C.of_+i*5,none⟩),.int .i64 0,.slice (some ⟨b.heap.size,0,none⟩) P P] (by simp));have aS:=cQ M;have aT:=cQ (bj.out.ir.below (u.out.bel.trans (M.mono u.out.bel.size)) (Aj _));have aU:=cQ (aO.out.below M (Aj _));have aV:((b.alloc (.cells (Av P (.int .u64 0)) 62)).alloc (.cells #[.pointer (some ⟨C.zf,C.of_+i*5,none⟩),.int .i64 0,.slice (some ⟨b.heap.size,0,none⟩) P P] 77)).heap.size=b.heap.size+2:=(by simp);have aA:=cQ aV;clear aP M aV;go_wp2_with fail;refine(qX _ _ g.inn a _ aT.out aU.out aN.out.symm).mono ?_;rintro e O ⟨v3,rfl,E,B⟩;rw[<-kX g.inn a aN.out.symm,ay.out]at E;rw[aA.out]at E B;obtain⟨A3,c3,rfl,bG⟩:=cJ E;have aW:=cQ (aS.out.trans (B.mono (by omega)));have an:=cQ (aQ.out.below B (by omega));have ao:=cQ (aR.out.below B (by omega));have aB:=cQ E;have bH:b.heap.size+2<=O.heap.size:=(by have:=B.size;rw[aA.out]at this;exact this);clear E B aQ aR aS aT aU aA aO;go_wp2_with fail;go_loopw [53] (fun v wr=>∃ k:Nat,k<=K/\v = .int .i64 k/\Hid (EnI b O P k q (lowL g.inn a) wr)) (fun v _=>K - (intOf v).toNat)
 case atStart=>
  refine⟨0,by omega,rfl,cQ ⟨?_,aW.out,fun _ _=>rfl,rfl⟩⟩
  have e:u64V (putV (q.params.take 0) ((lowL g.inn a).take 0) (Ay P 0))=(Av P (Value.int .u64 0)).toList:=by
   show u64V (Ay P 0)=_;rw[bYy];simp
  rw[e];exact Blk.own an.out (Aj _) (by simp) (by unfold maxLen;omega)
 case round=>
  obtain⟨k,hk,rfl,d⟩:=hrel;have bm:O.heap.size=wr.heap.size:=d.out.size.symm;have K3:Blk wr (b.heap.size+1) 77 _:=(d.out.oth _ (by omega)).trans ao.out;obtain⟨p0,p1,p2⟩:=cKq K3;by_cases aX:k<K
  ·have t1:decide ((k:Int)<K)=true:=(by simp;omega);have t2:(k:Int)<K:=(by omega);obtain⟨y,hy⟩:∃ y,(lowL g.inn a)[k]? = some y:=⟨_,Ax (by rw[ay.out];exact aX)⟩;obtain⟨o,Q⟩:∃ o,q.params[k]? = some o:=⟨_,Ax (by rw[bg.out];exact aX)⟩
   have aC:0<=o/\o<(P:Int):=by
    have h1:=bh.out.pin;unfold within at h1;rw[List.all_eq_true]at h1;have:=h1 o (AX Q);rw[HP.out]at this
    simpa using this
   obtain⟨on,rfl⟩:=Ak aC.1;have bn:on<P:=(by omega);have bI:wr.cell? ⟨C.zf,C.of_+i*5+3,none⟩=some (.slice A2 K c2):=(d.out.bel.cell (p:=⟨C.zf,_,none⟩) W).trans I;have bJ:C.zf<wr.heap.size:=AZ W d.out.bel.size;obtain⟨pv,bL⟩:=zX d.out.own bn;have bM:wr.frozen? ⟨b.heap.size,on,none⟩=false:=d.out.own.frozenAt _;have bN:b.heap.size<wr.heap.size:=(by omega);obtain⟨b2,bO,rfl,bP,bo⟩:=(bk.out.below (u.out.bel.trans (d.out.bel.mono u.out.bel.size)) (Aj _)).cell Q;obtain⟨F,bQ,aD,bT,bU,_⟩:=kY aB.out (by omega);injection aD with aD _ aE;subst aD;subst aE
   have bV:wr.cell? ⟨F,k,none⟩=some (.int .u64 (y:Int)):=by
    have h5:O.cell? ⟨F,k,none⟩=some (.int .u64 (y:Int)):=by
     rw[aB.out.cellAt k (by omega)];simp[u64V,hy]
    exact(World.cell?_of_block (a:=⟨F,k,none⟩) (d.out.oth F (by omega))).trans h5
   have bW:F<wr.heap.size:=(by omega);have HY:=cQ hy;have HO:=cQ Q;have bX:(on:Int)<(P:Int):=aC.2;clear hy Q aC bm;go_wp2_with fail;go_region;go_wp2;refine⟨⟨k+1,by omega,by simp,cQ ⟨?_,(d.out.bel.setCell (p:=⟨b.heap.size,on,none⟩) (Aj _) _).drew,fun j r=>(AJ _ _ _ _ r).trans (d.out.oth j r),?_⟩⟩,by simp[intOf];omega⟩
   ·rw[aXf _ _ _ _ _ _ HO.out HY.out,Aw,<-aQj];exact(d.out.own.stored on _).1
   ·exact(show(wr.setCell ⟨b.heap.size,on,none⟩ (.int .u64 (y:Int))).heap.size=wr.heap.size by simp[World.setCell]).trans d.out.size
  ·have t1:decide ((k:Int)<K)=false:=(by simp;omega);have aF:k=K:=(by omega);subst aF;have ad:=aQy q.params (lowL g.inn a) (Ay P 0);rw[ay.out]at ad;have aq:putV q.params (lowL g.inn a) (Ay P 0)=initV q (lowL g.inn a):=(by unfold initV;rw[HP.out,Aw]);have R:=d.out.own;rw[ad,aq]at R;have l:=u.out.below d.out.bel
   have ae:∀ j,(Az (some ⟨b.heap.size,0,none⟩) P P).ownBlock=some j->X.lab j=0/\C.w0.heap.size<=j/\j<wr.heap.size:=fun j r=>by
    injection r with r;subst r;exact⟨KRef.fresh u.out.toKRest (Aj _),u.out.bel.size,(R.lt _ rfl).2⟩
   have HX:=l.cWs (.slice (some ⟨b.heap.size,0,none⟩) P P) (10+X.x.st.length) ae;have aY:=((az.out.below d.out.bel).cWs (v:=.slice (some ⟨b.heap.size,0,none⟩) P P) (c:=10+X.x.st.length) (fun j r=>.inl (by injection r with r;rw[<-r];exact az.out.size)));obtain⟨AS,cS,A,bp⟩:=cJ l.stk;have S:=l.stk;obtain⟨L,hL⟩:=cX X.x.st.length;rw[hL]at A bp S hd;rw[A]at S;have bY:=l.cWp;have bZ:wr.cell? ⟨C.cb,12,none⟩=some (.slice AS L cS):=(by rw[l.cell 12];simp[kCells,A]);have b0:=l.cb.lt;have b1:=l.mm.lt;obtain⟨i0,bq,br,bs,aG⟩:=info_parts bZx;have KB:=l.cb.alloc (.cells #[.pointer (some ⟨C.zf,C.of_+i*5,none⟩),.int .i64 0,.slice (some ⟨b.heap.size,0,none⟩) P P] 77);have aH:=cQ KB
   have aZ:(Az AS L cS).ownBlock≠some C.cb:=by
    intro e;have:=l.l7 C.cb (by rw[A];exact e);rw[l.cl]at this;cases this
   have aI:=cQ aZ
   have a1:(Az AS L cS).ownBlock≠some C.mm:=by
    intro e;have:=l.l7 C.mm (by rw[A];exact e);rw[l.ml]at this;cases this
   have a6:=cQ a1;have a7:=cQ (l.mm.alloc (.cells #[.pointer (some ⟨C.zf,C.of_+i*5,none⟩),.int .i64 0,.slice (some ⟨b.heap.size,0,none⟩) P P] 77));have bt:=cQ (aQq S (.cells #[.pointer (some ⟨C.zf,C.of_+i*5,none⟩),.int .i64 0,.slice (some ⟨b.heap.size,0,none⟩) P P] 77));have bu:=cQ HX;have aJ:=cQ aY;have a8:(initV q (lowL g.inn a)).length=P:=(by rw[pJ,HP.out,Aw]);have bw:=cQ (show wr.ownsRow C.w0.heap.size 62 1 (.slice (some ⟨b.heap.size,0,none⟩) P P) (initV q (lowL g.inn a)).length (u64V (initV q (lowL g.inn a))) by rw[a8];exact eV R u.out.bel.size);have bx:=cQ A;have bz:=cQ hL;have y9:=K3.lt;have b3:=l.bel.size;clear HX aY l a8 R S A hL KB aZ a1 aq ad ae d u az aW an ao aB K3 y1 y2 Y I y5 s2 s3 c0 c1 c5 m0;go_wp2_with fail
   go_region_law
    ((refine step_append_lies _ (by rfl) _ _ _ (by rfl) C.w0.heap.size 77 i0 _ 3 40 underlying65 bq br bs aG rfl (by omega) _ L (stCells C X.x.st X.ps) (by rfl) (cKs bt.out) ⟨wr.heap.size,0,none⟩ 1 1 [.pointer (some ⟨C.zf,C.of_+i*5,none⟩),.int .i64 0,.slice (some ⟨b.heap.size,0,none⟩) P P] (by rfl) (by rfl) (World.news_of_block (cs:=#[.pointer (some ⟨C.zf,C.of_+i*5,none⟩),.int .i64 0,.slice (some ⟨b.heap.size,0,none⟩) P P]) (t:=77) (fr:=(0,0)) (Blk.newAt _ _ _ (by simp))) (cVz C ⟨i,q,0,[]⟩ (some ⟨b.heap.size,0,none⟩) P P) (by omega) (by unfold maxLen;omega) (by omega) (by simp;omega) (wr.heap.size+1) (by simp) ?_;intro gg cap w5 ar hgrow bA bB;have b4:w5.cell? ⟨C.cb,12,none⟩=some X.sv:=(aH.out.grown (vX hgrow) aI.out).cell 12;have f12:=frz (aH.out.grown (vX hgrow) aI.out) 12;have b5:=(aH.out.grown (vX hgrow) aI.out).lt;have km:w5.cell? ⟨C.mm,0,none⟩=some (.pointer (some ⟨C.cb,0,none⟩)):=(a7.out.grown (vX hgrow) a6.out).cell 0;have b6:=(a7.out.grown (vX hgrow) a6.out).lt))
   all_goals
    go_end0;exact cXu (f:=⟨i,q,0,initV q (lowL g.inn a)⟩) bu.out aJ.out bx.out bz.out bw.out ar hgrow bA
theorem uV(A:Option Addr)(n c addr en:Nat)(w:Bv)(hn:n<=140737488355328):
  Calls cZ 38 #[.slice A n c,.int .u64 addr,.int .u64 en] w fun e w'=>e = .returned (.bool (oJ n addr en))/\w=w':=by
 by_cases h1:addr<=1099511627776
 ·have b:decide ((addr:Int)<=1099511627776)=true:=(by simp;omega);by_cases h2:en<=1099511627776
  ·have d:decide ((en:Int)<=1099511627776)=true:=(by simp;omega);have a:=cQ (show oJ n addr en=decide (addr+en<=n) by simp[oJ,h1,h2]);go_in;go_wp2;go_ret;rw[a.out];refine⟨?_,rfl⟩;show Ending.returned (.bool (decide ((addr:Int)+(en:Int)<=(n:Int))))=_
   congr 2
   rw[Bool.eq_iff_iff];simp;omega
  ·have d:decide ((en:Int)<=1099511627776)=false:=(by simp;omega);have a:=cQ (show oJ n addr en=false by simp[oJ,h1,h2]);clear h1 h2;go_in;go_wp2;go_ret;rw[a.out];exact⟨rfl,rfl⟩
 ·have b:decide ((addr:Int)<=1099511627776)=false:=(by simp;omega);have a:=cQ (show oJ n addr en=false by simp[oJ,h1]);clear h1;go_in;go_wp2;go_ret;rw[a.out];exact⟨rfl,rfl⟩
theorem tY(A:Option Addr)(n c addr off:Nat)(k wd:Int)(st h:Bool)(w:Bv)(hn:n<=140737488355328)(i:0<=wd)(ad:wd<=8)(ha:addr<18446744073709551616)(ho:off<18446744073709551616):
  Calls cZ 71 #[.slice A n c,.agg #[.int .i64 k,.int .i64 wd,.bool st,.bool h],.int .u64 addr,.int .u64 off] w fun e w'=>
   e = .returned (.tuple #[.int .i64 (fX n wd addr off).1,.int .i64 (fX n wd addr off).2])/\By w.heap.size w w':=by
 have f:By w.heap.size w (w.alloc (.cells #[.int .i64 k,.int .i64 wd,.bool st,.bool h] 129)):=(Aq _ _).alloc (Aj _) _;obtain⟨a,rfl⟩:=Ak i;by_cases h1:4294967295<addr
 ·have j:decide ((4294967295:Int)<(addr:Int))=true:=(by simp;omega);have b:=cQ (show fX n a addr off=(0,1) by simp[fX,h1]);clear h1;go_in;go_wp2;go_ret2;rw[b.out];exact⟨rfl,f⟩
 ·have j:decide ((4294967295:Int)<(addr:Int))=false:=(by simp;omega);by_cases h2:4294967295<off
  ·have l:decide ((4294967295:Int)<(off:Int))=true:=(by simp;omega);have b:=cQ (show fX n a addr off=(0,1) by simp[fX,h2]);clear h2;go_in;go_wp2;go_ret2;rw[b.out];exact⟨rfl,f⟩
  ·have l:decide ((4294967295:Int)<(off:Int))=false:=by simp;omega
   cases d:oJ n (addr+off) a with
   | true=>
    have b:=cQ (show fX n a addr off=(((addr+off:Nat):Int),0) by simp[fX,h1,h2,d]);have g:=cQ d;have hle:addr+off<=n:=(by simp[oJ]at d;omega);clear d;go_in;go_wp2_with fail;rw[show((addr:Int)+(off:Int))=((addr+off:Nat):Int)from by omega];refine(uV A n c (addr+off) a _ hn).mono ?_;rintro e m ⟨rfl,rfl⟩;rw[g.out];go_wp2_with fail;go_ret2;rw[b.out];refine⟨?_,f⟩;simp
   | false=>
    have b:=cQ (show fX n a addr off=(0,35) by simp[fX,h1,h2,d]);have g:=cQ d;clear d;go_in;go_wp2_with fail;rw[show((addr:Int)+(off:Int))=((addr+off:Nat):Int)from by omega];refine(uV A n c (addr+off) a _ hn).mono ?_;rintro e m ⟨rfl,rfl⟩;rw[g.out];go_wp2_with fail;go_ret2;rw[b.out];exact⟨rfl,f⟩
section
open Go.Shelf
attribute [local go_sem] Oper.semAt_some
abbrev Pl:=Nat×UInt8
def plV(x:Pl):Array Bw:=#[.int .i64 (x.1:Int),.int .u8 (x.2.toNat:Int)]
def came(f:Nat->Pl)(k:Nat):List Pl:=(List.range k).map f
theorem aVu(f:Nat->Pl)(k:Nat):came f (k+1)=came f k ++ [f k]:=by simp[came,List.range_succ]
theorem bXc(f:Nat->Pl)(k:Nat):(came f k).length=k:=by simp[came]
def Kb(b a:Nat)(A B:Bv):Prop:=By b A B/\B.cell? ⟨a,0,none⟩=A.cell? ⟨a,0,none⟩
theorem Kb.refl(a b:Nat)(A:Bv):Kb a b A A:=⟨Aq _ _,rfl⟩
theorem Kb.trans{a b:Nat}{A B C:Bv}(h:Kb a b A B)(c:Kb a b B C):Kb a b A C:=⟨h.1.trans c.1,c.2.trans h.2⟩
theorem Kb.put{c:Nat}(hn:c<=w.heap.size)(hB:a<w.heap.size)(W:Bv)(l:Nat)(o b:Obj)(d:w.heap.size<=l)(h:W.heap[l]? = some o)(h1:o.isCells=false)(h2:o.isWalk=false):Kb c a W (W.putObj l b):=by
 refine⟨belowK_b hn W l o b d h h1 h2,World.cell?_of_block (w:=W) ?_⟩;show(W.heap.setIfInBounds l b)[a]? = W.heap[a]?;rw[Array.getElem?_setIfInBounds_ne (by omega)]
theorem cQq(F:Fence)(n:Nat)(u:F.fn 84)(w:F.round=none)(hn:1<=n)(l c d b off len cap:Nat)(f:Nat->UInt8)(aa:len<=140737488355328)(y:b<d)(J m:List Pl->Bv->Prop)
    (o:∀ pre x W,J pre W->pre.length<len->YieldAt F (n - 1) cZ l (plV x) W fun e a=>
      (e = .returned (.bool true)/\J (pre ++ [x]) a/\Kb d c W a)\/(e = .returned (.bool false)/\m (pre ++ [x]) a))
    (W:Bv) (z:W.cell? ⟨c,0,none⟩=some (.slice (some ⟨b,off,none⟩) len cap)) (hc:∀ j,j<len->W.cell? ⟨b,off+j,none⟩=some (.int .u8 ((f j).toNat:Int))) (A:J [] W) :
    CallsIn F n cZ 84 #[.func (.yield l) #[] #[],.pointer (some ⟨c,0,none⟩)] W fun e a=>(∃ v,e = .returned v) /\
      ((∃ q,q=came (fun j=>(len - 1 - j,f (len - 1 - j))) len/\J q a)\/(∃ pre,(∃ k,k<=len/\pre=came (fun j=>(len - 1 - j,f (len - 1 - j))) k)/\m pre a)):=by
  refine callsIn_of_wp func84 rfl u ?_ w;simp only[ntmps84,AW,Aa,Ai,Bq,Bx,Ab,Ac,Af,Ad,Bj,Ah];have B:=cQ hc;have C:=cQ o;clear hc o
  gi_wp2
  gi_loopw [3] (fun i wr=>∃ k:Nat,k<=len/\i = .int .i64 ((len:Int) - 1 - k)/\J (came (fun j=>(len - 1 - j,f (len - 1 - j))) k) wr/\Kb d c W wr)
    (fun i _=>(intOf i+1).toNat)
  case atStart=>exact⟨0,Nat.zero_le _,by simp,A,Kb.refl _ _ _⟩
  case round=>
    obtain⟨k,hk,rfl,r,g⟩:=hrel;have aq:wr.cell? ⟨c,0,none⟩=some (.slice (some ⟨b,off,none⟩) len cap):=g.2.trans z;by_cases D:k<len
    · obtain⟨j,s⟩:=cX (len - 1 - k)
      have h:(len:Int) - 1 - k=(j:Int):=(by omega);have E:j<len:=(by omega);obtain⟨fn,tmps,assign,body,G,H⟩:=C.out _ (j,f j) wr r (by rw[bXc];exact D);simp only[plV]at G;have ar:wr.cell? ⟨b,off+j,none⟩=some (.int .u8 ((f j).toNat:Int)):=(g.1.cell (p:=⟨b,off+j,none⟩) y).trans (B.out j E);rw[h];have t:=cQ s;have I:=cQ h;clear s h
      gi_wp2
      refine H.mono ?_;rintro e W3 (⟨rfl,K,L⟩ | ⟨rfl,M⟩)
      · gi_wp2
        go_roundw
        case rel=>exact⟨k+1,by omega,by have:=I.out;go_num,by rw[aVu,t.out];exact K,g.trans L⟩
        case measure=>simp[intOf]
      · gi_wp2
        refine bodyPost_ret (results_none rfl _ _ _) rfl ?_;exact⟨⟨_,rfl⟩,.inr ⟨_,⟨k+1,by omega,by rw[aVu,t.out]⟩,M⟩⟩
    · obtain rfl:k=len:=by omega
      gi_wp2
      go_end0;exact⟨⟨_,rfl⟩,.inl ⟨_,rfl,r⟩⟩
theorem aYv(a:Option Addr)(len cap:Nat)(w:Bv):
  Calls cZ 72 #[.slice a len cap] w fun e w'=>e = .returned (.func (.func 84) #[] #[.pointer (some ⟨w.heap.size,0,none⟩)])/\w.alloc (.cells #[.slice a len cap] 31)=w':=by
 go_in;go_wp2;go_ret;exact⟨rfl,rfl⟩
def wW(l:List UInt8):List Pl:=came (fun j=>(l.length - 1 - j,l.getD (l.length - 1 - j) 0)) l.length
theorem bJf(F:Fence)(n:Nat)(i:F.fn 84)(k:F.round=none)(hn:1<=n)(a d b off cap:Nat)(l:List UInt8)(m:l.length<=140737488355328)(w:Bv)(o:a<w.heap.size)(r:d<=w.heap.size)
  (hc:w.cell? ⟨a,0,none⟩=some (.slice (some ⟨b,off,none⟩) l.length cap)) (f:b<d) (s:∀ j,j<l.length->w.cell? ⟨b,off+j,none⟩=some (.int .u8 ((l.getD j 0).toNat:Int))) :
  SeqStopsK F n cZ 84 #[.pointer (some ⟨a,0,none⟩)] plV (Kb d a) (fun g=>g=wW l) (fun _=>True) l.length w:=fun q J t W h _ _ u v=>by
 have x:=(h.cell (p:=⟨a,0,none⟩) o).trans hc;refine(cQq F n i k hn q a d b off l.length cap (fun j=>l.getD j 0) m f J t u W x (fun j c=>(h.cell (p:=⟨b,off+j,none⟩) (AZ f r)).trans (s j c)) v).mono ?_;rintro e W' ⟨he,⟨g,rfl,c⟩ | ⟨pre,_,c⟩⟩
 ·exact⟨he,.inl ⟨_,rfl,c⟩⟩
 ·exact⟨he,.inr ⟨_,trivial,c⟩⟩
end
section
open Go.Shelf
attribute [local go_sem] Oper.semAt_some
def tZ(a:List Pl):Int:=a.foldl (fun q x=>bits .or .u64 (IntKind.u64.wrap (q*256)) (x.2.toNat:Int)) 0
theorem bJg(a:List Pl)(x:Pl):tZ (a ++ [x])=bits .or .u64 (IntKind.u64.wrap (tZ a*256)) (x.2.toNat:Int):=by simp[tZ]
theorem bXs(W:Bv)(v:Bw)(t:TypeId):(W.alloc (.cells #[v] t)).cell? ⟨W.heap.size,0,none⟩=some v/\(W.alloc (.cells #[v] t)).frozen? ⟨W.heap.size,0,none⟩=false:=
 ⟨cell_of_row _ W.heap.size 0 #[v] t (0,0) (heap_alloc_new W _),frozen_of_row _ W.heap.size 0 #[v] t (heap_alloc_new W _)⟩
theorem cQs{W:Bv}{a:Addr}(o:Obj)(h:W.cell? a=some v/\W.frozen? a=false):(W.alloc o).cell? a=some v/\(W.alloc o).frozen? a=false:=
 ⟨cell_kept h.1 (World.grownBy_alloc W o none) (fun r e=>by cases e),(frozen_kept h.1 (World.grownBy_alloc W o none) (fun r e=>by cases e)).trans h.2⟩
theorem cZj(b o n c addr off at_ d:Nat)(op k:Int)(g:Bool)(l:List UInt8)(w:Bv)(z:acc op=some (k,(d:Int),false,g))(hn:n<=140737488355328)
    (ha:addr<18446744073709551616) (T:off<18446744073709551616) (U:b<w.heap.size) (ay:n<=c) (hp:fX n d addr off=((at_:Int),0))
    (G:l.length=d) (az:at_+d<=n) (H:∀ j,j<d->w.cell? ⟨b,o+at_+j,none⟩=some (.int .u8 ((l.getD j 0).toNat:Int))) :
    CallsIn Fence.wide 10 cZ 57 #[.slice (some ⟨b,o,none⟩) n c,.int .i64 op,.int .u64 addr,.int .u64 off] w fun e w'=>e = .returned (.tuple #[.int .u64 (tX k d g (tZ (wW l))),.int .i64 0])/\By w.heap.size w w':=by
  obtain⟨I,J,_,_⟩:=iV z;have aA:1<=d:=(by omega);have aB:d<=8:=(by omega);have aC:=nJ z;have L:=cQ hp;have M:=cQ H;have C:=cQ G;have HK:=cQ I;have aD:=cQ J;clear hp H z G I J;refine callsIn_of_wp_marks func57 rfl trivial ?_ rfl;simp only[ntmps57,AW,Aa,Ai,Bq,Bx,Ab,Ac,Af,Ad,Bj,Ah]
  gi_wp2_with fail
  refine⟨trivial,?_⟩;refine(callsIn_wide.2 (fK _)).mono ?_;rintro e a ⟨rfl,rfl⟩
  gi_wp2_with fail
  refine⟨trivial,?_⟩;refine(callsIn_wide.2 (tY _ n c addr off k d false g _ hn (by omega) (by omega) ha T)).mono ?_;rintro e a ⟨rfl,m⟩;rw[L.out];obtain⟨r,V⟩:=bXy m;have aE:w.heap.size+1+1<=a.heap.size:=(by have:=m.size;simpa using this);have N:=cQ (show By w.heap.size w a from(((Aq _ _).alloc (Aj _) _).alloc (by simp) _).trans (m.mono (by simp;omega)));clear m;have E:w.heap.size+1<a.heap.size:=(by omega);have an:at_+d - at_=d:=(by omega);have ao:¬c=at_:=(by omega)
  gi_wp2_with fail
  refine⟨trivial,?_⟩;refine(callsIn_wide.2 (aYv _ d (c - at_) _)).mono ?_;rintro e w2 ⟨rfl,rfl⟩
  gi_wp2_with fail
  have O:=cQ (show By w.heap.size w ((a.alloc (.cells #[.int .u64 0] 62)).alloc (.cells #[.slice (some ⟨b,o+at_,none⟩) d (c - at_)] 31))from(N.out.alloc (by omega) _).alloc (by simp;omega) _);have P:=bXs a (.int .u64 0) 62;have c1:=bXs (a.alloc (.cells #[.int .u64 0] 62)) (.slice (some ⟨b,o+at_,none⟩) d (c - at_)) 31;simp only[World.size_alloc]at c1
  apply wpIn_rangeFunc_ownF rfl (by omega) (gf:=84) (lb:=#[.pointer (some ⟨a.heap.size+1,0,none⟩)]) rfl trivial (enters_of func84 (by kernel_rfl) rfl)
    (bJf Fence.wide (10 - 1) trivial rfl (by omega) (a.heap.size+1) a.heap.size b (o+at_) (c - at_) l (by rw[C.out];omega) _ (by simp) (by simp;omega) (by rw[C.out];exact c1.1) (by omega)
      (fun j X=>(O.out.cell (p:=⟨b,o+at_+j,none⟩) U).trans (M.out j (by rw[<-C.out];exact X)))) Kb.trans (Kb.put (by simp;omega) (by simp)) (Aq _ _) (fun _=>rfl)
    (fun pre W=>(W.cell? ⟨a.heap.size,0,none⟩=some (.int .u64 (tZ pre))/\W.frozen? ⟨a.heap.size,0,none⟩=false)/\By a.heap.size a W)
    (fun _ _ _=>False)
    (OwnFrom.and (Own.from (fun s A B row hs hg Q=>⟨cell_kept hs.1 hg Q,(frozen_kept hs.1 hg Q).trans hs.2⟩) _) (ownFrom_below (Aj _) (by simp;omega)))
    (fun _ _ _ _ _ hs _ _=>hs)
    ⟨cQs _ P,((Aq _ _).alloc (Aj _) _).alloc (by simp) _⟩
  case hassign=>
    intro l x W K F;simp only[plV]
    gi_wp2
    exact F
  case hbody=>
    rintro l pre x W ⟨⟨hc,hf⟩,f⟩ _
    gi_wp2
    have aF:(x.2.toNat:Int)<256:=(by have:=x.2.toNat_lt;omega);refine⟨KeepsOthers.setCell _ _ _,⟨(Aq a.heap.size W).setCell (p:=⟨a.heap.size,0,none⟩) (Aj _) _,?_⟩,⟨?_,by rw[World.frozen?_setCell];exact hf⟩,f.setCell (p:=⟨a.heap.size,0,none⟩) (Aj _) _⟩
    · apply World.cell?_setCell_other;simp
    · rw[bJg,show IntKind.u64.wrap (x.2.toNat:Int)=(x.2.toNat:Int)from iK (by omega)]
      exact World.cell?_setCell_same' _ _ _ (by rw[hc];rfl)
  case hdone=>
    rintro D ys W R rfl ⟨⟨hc,hf⟩,f⟩ F;have Y:=(f.cell (p:=⟨w.heap.size+1,0,none⟩) E).trans (r (w.heap.size+1) 0 (by simp));have Z:=(f.cell (p:=⟨w.heap.size+1,1,none⟩) E).trans (r (w.heap.size+1) 1 (by simp));have au:=(f.cell (p:=⟨w.heap.size+1,3,none⟩) E).trans (r (w.heap.size+1) 3 (by simp));simp at Y Z au;have aG:a.heap.size+1+1<=D:=(by simpa using R);have v:=cQ (show By w.heap.size w W from N.out.trans (f.mono (by omega)));clear r V P c1 O R f L M
    have fin:∀ (i:Bv) (q:Int) (y:Array Bw),KeepsOthers W i->By w.heap.size w i->y.getD 8 undef = .int .u64 q->y.getD 9 undef = .int .i64 0->q=tX k d g (tZ (wW l)) ->
        bodyPostM Fence.wide 10 cZ Tryd.f57 (fun e w'=>e = .returned (.tuple #[.int .u64 (tX k d g (tZ (wW l))),.int .i64 0])/\By w.heap.size w w') Exit.ret { tmps:=y,defers:=[{ target:=.collected D,args:=#[] }] } i:=by
      intro i q y aw ax h8 h9 hq;have S:=aw.same D _ F rfl;refine⟨by simp,.inl ⟨_,_,rfl,run_takeDeferred S,?_⟩⟩;refine⟨_,results_tmp2 (t:=8) (u:=9) rfl _ _ _,by rw[h8,h9,hq],ax.trans (belowK_b (w:=w) (Aj _) i D _ _ (by omega) S rfl rfl)⟩
    gi_wp2
    · rename_i h1 h2
      refine fin _ _ _ ((KeepsOthers.setCell _ _ _).trans (KeepsOthers.setCell _ _ _)) ((v.out.setCell (p:=⟨a.heap.size,0,none⟩) (by simp;omega) _).setCell (p:=⟨a.heap.size,0,none⟩) (by simp;omega) _) rfl rfl ?_;rw[h1,tX,aKt,if_pos (eq_of_beq h2),if_pos rfl,sxV]
    · rename_i h1 h2
      refine fin _ _ _ (KeepsOthers.setCell _ _ _) (v.out.setCell (p:=⟨a.heap.size,0,none⟩) (by simp;omega) _) rfl rfl ?_;rw[h1,tX,aKt,if_neg (ne_of_beq_false h2),if_pos rfl,sxV]
    · rename_i h1 h2
      refine fin _ _ _ (KeepsOthers.setCell _ _ _) (v.out.setCell (p:=⟨a.heap.size,0,none⟩) (by simp;omega) _) rfl rfl ?_;rw[h1,tX,aKt,if_pos (eq_of_beq h2),if_neg (by decide)]
    · rename_i h1 h2
      refine fin _ _ _ (KeepsOthers.refl _) v.out rfl rfl ?_;rw[h1,tX,aKt,if_neg (ne_of_beq_false h2),if_neg (by decide)]
  case hstop=>
    rintro D c pre W _ _ h _;exact h.elim
theorem aWj(l:List UInt8):(wW l).map (·.2)=l.reverse:=by
 unfold wW came;apply List.ext_getElem?;intro i;by_cases hi:i<l.length
 ·have a:l.length - 1 - i<l.length:=(by omega);simp[hi,AK,a]
 ·simp[Nat.not_lt.1 hi]
theorem cQt(a:List Pl):tZ a=(a.map (·.2)).foldl (fun q x=>bits .or .u64 (IntKind.u64.wrap (q*256)) (x.toNat:Int)) 0:=by
 rw[tZ,List.foldl_map]
theorem bJh:∀ l:List UInt8,l.length<=8->tZ (wW l)=(leN (l.map AQ):Int):=by
 intro l c;rw[cQt,aWj]
 induction l with
 | nil=>rfl
 | cons b l d=>
  have e:l.length<=7:=(by simpa using c);rw[List.reverse_cons,List.foldl_append,d (by omega)];have h1:=aYp (l.map AQ) (fun x a=>by simp at a;obtain⟨y,_,rfl⟩:=a;exact y.toNat_lt);have h2:256 ^ (l.map AQ).length<=256 ^ 7:=Nat.pow_le_pow_right (by omega) (by simpa using e);have hb:=b.toNat_lt;have h3:(leN (l.map AQ):Nat)<72057594037927936:=AZ h1 h2;simp only[List.foldl_cons,List.foldl_nil,List.map_cons,leN];rw[show((leN (l.map AQ):Int)*256)=((leN (l.map AQ)*256:Nat):Int)from by simp,iK (by omega)]
  rw[bQc (by omega) (by omega),show leN (l.map AQ)*256 ||| b.toNat=b.toNat+256*leN (l.map AQ)from by
   rw[show(256:Nat)=2 ^ 8 from rfl,Nat.mul_comm,<-Nat.two_pow_add_eq_or_of_lt (by omega)];omega]
theorem cQu(A:Option Addr)(n c addr off:Nat)(op:Int)(m:List Nat)(w:Bv)(hs:Src w A n (bys m))(i:AllB m)(v:n<=c)(hn:n<=140737488355328)
  (ha:addr<18446744073709551616) (l:off<18446744073709551616) :
  Calls cZ 57 #[.slice A n c,.int .i64 op,.int .u64 addr,.int .u64 off] w fun e w'=>e = .returned (.tuple #[.int .u64 (lZ m op addr off).1,.int .i64 (lZ m op addr off).2])/\By w.heap.size w w':=by
 have d:m.length=n:=by have:=hs.1;rwa[xW]at this
 cases a:acc op with
 | none=>
  have f:=cQ (show lZ m op addr off=(0,1) by simp[lZ,a]);have p:=aQt a;clear a hs d;go_in;go_wp2_with fail;refine(fK _).mono ?_;rintro e h ⟨rfl,rfl⟩;go_wp2;go_ret2;rw[f.out];exact⟨rfl,((Aq _ _).alloc (Aj _) _).alloc (by simp) _⟩
 | some r=>
  obtain⟨k,wd,st,q⟩:=r;obtain⟨hk,ak,_,_⟩:=iV a
  cases st with
  | true=>
   have f:=cQ (show lZ m op addr off=(0,1) by simp[lZ,a]);have p:=nJ a;clear a hs d;go_in;go_wp2_with fail;refine(fK _).mono ?_;rintro e h ⟨rfl,rfl⟩;go_wp2;go_ret2;rw[f.out];exact⟨rfl,((Aq _ _).alloc (Aj _) _).alloc (by simp) _⟩
  | false=>
   by_cases hp:(fX n wd addr off).2=0
   ·obtain⟨y,s,_,_⟩:=aVl hp;obtain⟨g,rfl⟩:=Ak (show 0<=wd by omega);simp only[Aw]at s;obtain⟨b,o,rfl,z,_⟩:=hs.2 (by omega);have t:(((m.drop (addr+off)).take g).map UInt8.ofNat).length=g:=(by simp;omega);have B:AllB ((m.drop (addr+off)).take g):=fun x u=>i x (List.mem_of_mem_drop (List.mem_of_mem_take u));refine((callsIn_wide (n:=10)).1 (cZj b o n c addr off (addr+off) g op k q _ w a hn ha l z v y t s ?_)).mono ?_
    ·intro j C;have:=hs.at_ (k:=addr+off+j) (by omega);rw[show o+(addr+off)+j=o+(addr+off+j)from by omega,this,bXf];have u:=i.get (k:=addr+off+j) (by omega);simp[C,AK,show addr+off+j<m.length from by omega];omega
    ·rintro e w' ⟨rfl,D⟩;refine⟨?_,D⟩;rw[bJh _ (by rw[t];omega),cZe B];simp[lZ,a,d,hp]
   ·have f:=cQ (show lZ m op addr off=(0,(fX n wd addr off).2) by simp[lZ,a,d,hp]);have al:((fX n wd addr off).2 != 0)=true:=(by simpa using hp);have p:=nJ a;clear a hs d hp;go_in;go_wp2_with fail;refine(fK _).mono ?_;rintro e h ⟨rfl,rfl⟩;go_wp2_with fail;refine(tY _ n c addr off k wd false q _ hn (by omega) (by omega) ha l).mono ?_;rintro e h ⟨rfl,E⟩;go_wp2;go_ret2;rw[f.out];exact⟨rfl,(((Aq _ _).alloc (Aj _) _).alloc (by simp) _).trans (E.mono (by simp;omega))⟩
end
end Go.Proofs.YtabibkpfgmolkaaDoor

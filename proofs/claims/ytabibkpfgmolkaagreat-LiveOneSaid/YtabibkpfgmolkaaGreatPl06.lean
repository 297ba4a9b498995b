/- Lemmas for the claim, part 6. Conditions: none. -/
import Derived.Test.YtabibkpfgmolkaaGreatPl05
import Derived.Deep.RegionHeld
import Derived.Lib.TrailingZeros
import Derived.Test.YtabibkpfgmolkaaGreatChecked
set_option maxRecDepth 100000
set_option maxHeartbeats 16000000
set_option linter.unusedVariables false
set_option linter.unusedSimpArgs false
open Go.Lib renaming hid→fQ
open Go.Proofs.Tryz renaming prog→fZ
open Go.Proofs.Tryz
open Go.RowKit
open Nat renaming lt_of_lt_of_le→Aj,le_trans→Aw,le_refl→Ay
open Go.RowKit.Below renaming heap_setCell→Aq,refl→AZ
open List renaming getElem?_eq_getElem→Ax,take_of_length_le→Az,take_succ_eq_append_getElem→Av,replicate→AQ,mem_or_eq_of_mem_set→AX,length_set→AK,getElem?_eq_none→AV,mem_of_getElem?→AW,countP_cons→Aa,range→Ac
open Go.World renaming setCell→Ak,cell?_of_block→AY,drewN→Ab
open Bool renaming and_eq_true→AJ
open Go renaming World→Ad,Value→Ae
open Go.RowKit renaming Below→Af
namespace Go.Proofs.YtabibkpfgmolkaaGreat
variable {w w' w0:Ad}{n i k g c fuel x:Nat}{v:Ae}{l m:List Nat}{e:TypeId}{A:Option Addr}
def aQn(n:Nat)(f:Nat->Bool):List Bool:=(Ac n).map f
theorem aKg(n:Nat)(f:Nat->Bool):(aQn n f).length=n:=by simp[aQn]
theorem aKh{f:Nat->Bool}(h:i<n):(aQn n f)[i]? = some (f i):=by simp[aQn,h]
theorem cKj(n:Nat)(f:Nat->Bool)(j:Nat)(b:Bool):(aQn n f).set j b=aQn n (fun i=>if i=j then b else f i):=by
 apply List.ext_getElem?;intro i;by_cases hi:i<n
 ·rw[aKh hi];by_cases e:j=i
  ·subst e;rw[List.getElem?_set_self (by rw[aKg];exact hi),if_pos rfl]
  ·rw[List.getElem?_set_ne e,aKh hi,if_neg (fun h=>e h.symm)]
 ·rw[AV (by rw[AK,aKg];omega),AV (by rw[aKg];omega)]
theorem cKk(n:Nat)(b:Bool):AQ n b=aQn n (fun _=>b):=by
 unfold aQn;rw[List.map_const'];simp
theorem bXp{α:Type}{p q:α->Bool}:∀ {l:List α},(∀ x∈l,p x=true->q x=true)->(∃ x∈l,q x=true/\p x=false)->l.countP p<l.countP q
 | [],_,⟨x,b,_⟩=>by simp at b
 | a :: l,h,⟨x,b,h1,h2⟩=>by
  have hle:l.countP p<=l.countP q:=List.countP_mono_left fun y c=>h y (by simp[c]);rw[Aa,Aa];rcases List.mem_cons.1 b with e | b
  ·subst e;rw[h1,h2];simp;omega
  ·have ih:=bXp (l:=l) (fun y c=>h y (by simp[c])) ⟨x,b,h1,h2⟩;have ha:=h a (by simp);cases hp:p a
   ·simp
    split <;> omega
   ·rw[ha hp];simp;omega
def aKi(n:Nat)(g:Nat->Bool):Nat:=(Ac n).countP fun i=>!g i
theorem dQb{g:Nat->Bool}(hi:i<n)(h:g i=false):aKi n (fun j=>if j=i then true else g j)<aKi n g:=by
 refine bXp (fun x _ a=>?_) ⟨i,List.mem_range.2 hi,by simp[h],by simp⟩;by_cases e:x=i
 ·simp[e]at a
 ·simpa[e]using a
def GInv(r:RowD)(g:Nat->Bool):Prop:=∃ D,DoneL r D/\∀ i:Nat,i<r.code.length->(g i=true↔i∈D)
def qV(g:Nat->Bool)(l:List Int):Bool:=l.any fun x=>!g x.toNat
theorem GInv.start(r:RowD):GInv r (fun _=>false):=⟨[],DoneL.nil r,fun i _=>by simp⟩
theorem GInv.gone{r:RowD}{g:Nat->Bool}(h:GInv r g)(hf:FlowOk r)(hs:qV g (edges r i)=false):GInv r (fun j=>if j=i then true else g j):=by
 obtain⟨D,h1,h2⟩:=h;refine⟨D ++ [i],h1.push fun k a=>?_,fun j b=>?_⟩
 ·obtain⟨k',e,c⟩:=hf.edges a;have d:k=k':=(by omega);subst d;refine(h2 k c).1 ?_;unfold qV at hs;rw[List.any_eq_false]at hs;have:=hs _ a
  simpa using this
 ·rw[List.mem_append];show(if j=i then true else g j)=true↔_;by_cases e:j=i
  ·subst e;simp
  ·rw[if_neg e,h2 j b];simp[e]
theorem GInv.done{r:RowD}{g:Nat->Bool}(h:GInv r g)(hf:FlowOk r)(b:∀ i,i<r.code.length->g i=false->qV g (edges r i)=true):(∃ i,i<r.code.length/\g i=false)↔¬Ranked r:=by
 obtain⟨D,h1,h2⟩:=h;constructor
 ·rintro⟨i,hi,hg⟩;refine aYb (S:=fun i=>i<r.code.length/\g i=false) ⟨i,hi,hg⟩ fun j ⟨c,d⟩=>?_;have:=b j c d;unfold qV at this;rw[List.any_eq_true]at this;obtain⟨x,a,f⟩:=this;obtain⟨k,e,l⟩:=hf.edges a;subst e;exact⟨k,a,l,by simpa using f⟩
 ·intro m;refine Classical.byContradiction fun hn=>m (h1.eZl fun i hi=>(h2 i hi).1 ?_);cases hg:g i
  ·exact absurd ⟨i,hi,hg⟩ hn
  ·rfl
theorem bXk{m:Nat}{l:List Int}(h:kK m l=true):l.length<=m:=by
 unfold kK at h;simp only[AJ,decide_eq_true_eq]at h;exact h.1
theorem aVh{s:SigD}(h:sigOk s=true):s.inn.length<=8/\s.out.length<=8:=by
 unfold sigOk at h;simp only[AJ]at h;exact⟨bXk h.1,bXk h.2⟩
theorem cYl(op:Int):(gX op).length<=2:=by
 unfold gX
 split <;> (try split) <;> simp
theorem aQq{e:EnvD}{s:SigD}{op:Int}{i o:List Int}(he:envOk e=true)(hs:sigOk s=true)(h:iZ e s op n=some (i,o)):i.length<=8/\o.length<=8:=by
 have h1:=aVh hs;unfold iZ at h
 split at h
 ·simp at h;obtain⟨rfl,rfl⟩:=h;simp
 split at h
 ·split at h <;> simp at h;obtain⟨rfl,rfl⟩:=h;simp
 split at h
 ·split at h <;> simp at h;obtain⟨rfl,rfl⟩:=h;simp
 split at h
 ·split at h <;> simp at h;obtain⟨rfl,rfl⟩:=h;simp
 split at h
 ·split at h <;> simp at h;obtain⟨rfl,rfl⟩:=h;exact⟨h1.2,by simp⟩
 split at h
 ·split at h <;> simp at h;obtain⟨rfl,rfl⟩:=h;simp
 split at h
 ·obtain⟨g,hg,h2⟩:=Option.map_eq_some_iff.1 h;injection h2 with h2 a;subst h2;subst a;unfold envOk at he;simp only[AJ,List.all_eq_true]at he;exact aVh (he.2.2 g (AW hg))
 split at h
 ·obtain⟨g,hg,h2⟩:=Option.map_eq_some_iff.1 h;injection h2 with h2 a;subst h2;subst a;simp
 split at h
 ·split at h
  ·simp at h;obtain⟨rfl,rfl⟩:=h;simp
  ·cases h
 split at h
 ·split at h <;> simp at h
  obtain⟨rfl,rfl⟩:=h;have:=cYl op;exact⟨by omega,by simp⟩
 ·unfold mY at h
  split at h
  ·cases h
  split at h
  ·split at h <;> simp at h;obtain⟨rfl,rfl⟩:=h;simp
  split at h
  ·split at h
   ·simp at h
    split at h <;> (injection h with h2 a;subst h2;subst a;simp)
   ·cases h
  ·split at h
   ·split at h <;> simp at h;obtain⟨rfl,rfl⟩:=h;simp
   split at h
   ·split at h <;> simp at h;obtain⟨rfl,rfl⟩:=h;simp
   ·cases h
section
variable {P:Program} {ops:Array Oper} {Q:Exit->Act->Ad->Prop} {md:Region.Mode} {S1 S2:Ad->Prop} {ap:Nat}
def SD(S1 S2:Ad->Prop)(ap:Nat)(listed:Array Bool)(w:Ad):Prop:=S1 w/\(listed.getD ap false=false->S2 w)
theorem SD.of_same{l l':Array Bool}(h:SD S1 S2 ap l w)(he:l'.getD ap false=l.getD ap false):SD S1 S2 ap l' w:=⟨h.1,fun e=>h.2 (he ▸ e)⟩
theorem SD.after{l:Array Bool}(h:S1 w)(he:l.getD ap false=true):SD S1 S2 ap l w:=⟨h,fun e=>by rw[he]at e;cases e⟩
def pJ(P:Program)(md:Region.Mode)(ops:Array Oper)(Q:Exit->Act->Ad->Prop)(S1 S2:Ad->Prop)(ap:Nat):Nat->Array Bool->Act->Ad->Prop
 | 0,listed,a,w=>Region.ready md ops listed = []/\Q .normal a w
 | fuel+1,listed,a,w=>
  (Region.ready md ops listed = []->Q .normal a w) /\
  ∀ i∈Region.ready md ops listed,wpOp P ops Q i (fun b w'=>SD S1 S2 ap (listed.setIfInBounds i true) w'/\pJ P md ops Q S1 S2 ap fuel (listed.setIfInBounds i true) b w') a w
theorem bQb:∀ (fuel:Nat) (listed:Array Bool) (a:Act) (w:Ad),pJ P md ops Q S1 S2 ap fuel listed a w->wpAny P md ops Q fuel listed a w
 | 0,_,_,_,h=>h
 | fuel+1,_,_,_,h=>⟨h.1,fun i hi=>wpOp_mono (fun b w' c=>bQb fuel _ b w' c.2) (h.2 i hi)⟩
def waits(md:Region.Mode)(ops:Array Oper)(ap i:Nat):Bool:=match ops[ap]? with
 | some o=>o.after.any fun e=>Region.binds md e && e.on == i
 | none=>false
theorem aKz{f:Oper}{v:Ae}{y:Ad->Prop}{edge:Prop}(hi:ops[i]? = some f)(z:∀ (j:Nat) (o:Oper) cs b,ops[j]? = some o->o.op ≠ .select cs b)
  (I:∀ c a w,Q (.panic c) (a.put f.dst v) w->Q (.panic c) a w) (J:i≠ap) (hedge:edge->waits md ops ap i=true)
  (A:∀ l w,(edge->l.getD ap false=false)->SD S1 S2 ap l w->y w) :
  ∀ (fuel:Nat) (listed:Array Bool) (a:Act) (w:Ad),
   (∀ j g,ops[j]? = some g->j≠i->listed.getD j true=false->(∀ e∈g.after,Region.binds md e=true->e.on≠i)->f.apart ops g=true) ->
   i∈Region.ready md ops listed->(edge->listed.getD ap false=false)->YieldsIf P ops y f v a->SD S1 S2 ap listed w ->
   pJ P md ops Q S1 S2 ap fuel (listed.setIfInBounds i true) (a.put f.dst v) w->pJ P md ops Q S1 S2 ap (fuel+1) listed a w:=by
 have same:∀ (l:Array Bool),(l.setIfInBounds i true).getD ap false=l.getD ap false:=fun l=>getD_set_ne false J;intro fuel
 induction fuel with
 | zero=>
  intro listed a w _ m p q n H;refine⟨fun h=>(by rw[h]at m;cases m),fun j r=>?_⟩;by_cases d:j=i
  ·subst d;exact q.wpOp hi (A _ _ p n) ⟨n.of_same (same _),H⟩
  ·have:=ready_mono r d;rw[H.1]at this;cases this
 | succ fuel K=>
  intro listed a w hfree m p q n H;refine⟨fun h=>(by rw[h]at m;cases m),fun j r=>?_⟩;by_cases d:j=i
  ·subst d;exact q.wpOp hi (A _ _ p n) ⟨n.of_same (same _),H⟩
  ·have h1:=H.2 j (ready_mono r d);obtain⟨B,g,s,L⟩:=mem_ready.1 r
   have C:∀ e∈g.after,Region.binds md e=true->e.on≠i:=fun e he hb heq=>by
    have h1:=L e he hb;have D:=(mem_ready.1 m).1;rw[heq]at h1;rcases Nat.lt_or_ge i listed.size with t | t
    ·simp[t]at D h1;rw[D]at h1;cases h1
    ·simp[Array.getElem?_eq_none t]at h1
   have h2:=wpOp_putIf s (hfree j g s d B C) (fun cs b=>z i f cs b hi) (fun cs b=>z j g cs b s) I q h1
   have M:∀ k ok,ops[k]? = some ok->k≠i->(listed.setIfInBounds j true).getD k true=false ->
     (∀ e∈ok.after,Region.binds md e=true->e.on≠i)->f.apart ops ok=true:=fun k ok N O E R=>by
    refine hfree k ok N O ?_ R;by_cases F:j=k
    ·subst F;exact B
    ·rw[getD_set_ne true F]at E;exact E
   have S:edge->(listed.setIfInBounds j true).getD ap false=false:=fun he=>by
    have T:j≠ap:=fun e=>by
     subst e;have u:=hedge he;unfold waits at u;rw[s]at u;obtain⟨x,U,hb⟩:=Array.any_eq_true'.1 u;simp only[AJ,beq_iff_eq]at hb;exact C x U hb.1 hb.2
    rw[getD_set_ne false T];exact p he
   refine wpOp_mono (fun V w' W=>?_) h2;obtain⟨X,Y,Z⟩:=W;have G:SD S1 S2 ap (listed.setIfInBounds j true) w':=Y.of_same (by rw[Array.setIfInBounds_comm _ _ (Ne.symm d)];exact(same _).symm);refine⟨G,K (listed.setIfInBounds j true) V w' M (ready_mono m (Ne.symm d)) S X G ?_⟩;rw[Array.setIfInBounds_comm _ _ d];exact Z
theorem fW{l:List Oper}{b:Oper}{v:Ae}{fuel:Nat}{listed:Array Bool}{a:Act}{w:Ad}(hi:l[i]? = some b)
  (hs:Region.noSelect l.toArray=true) (hf:Region.free md l.toArray listed i=true) (g:(Region.ready md l.toArray listed).contains i=true)
  (j:∀ c a w,Q (.panic c) (a.put b.dst v) w->Q (.panic c) a w) (k:(i != ap)=true) (m:YieldsIf P l.toArray S1 b v a) (d:SD S1 S2 ap listed w)
  (h:SD S1 S2 ap (listed.setIfInBounds i true) w->pJ P md l.toArray Q S1 S2 ap fuel (listed.setIfInBounds i true) (a.put b.dst v) w):pJ P md l.toArray Q S1 S2 ap (fuel+1) listed a w:=
 have e:i≠ap:=(by simpa using k);have f:l.toArray[i]? = some b:=(by simpa using hi)
 aKz (edge:=False) f (Region.noSelect_spec hs) j e (fun h=>h.elim) (fun _ _ _ h=>h.1) fuel listed a w (Region.free_spec f hf) (by simpa using g) (fun h=>h.elim) m d (h (d.of_same (getD_set_ne false e)))
theorem wtk(i:Nat){l:List Oper}{b:Oper}{v:Ae}{listed:Array Bool}{a d:Act}(e:SD S1 S2 ap listed w)(h:SD S1 S2 ap (listed.setIfInBounds i true) w->pJ P md l.toArray Q S1 S2 ap fuel (listed.setIfInBounds i true) d w)
  (hi:l[i]? = some b:=by rfl) (hs:Region.noSelect l.toArray=true:=by kernel_rfl) (hf:Region.free md l.toArray listed i=true:=by kernel_rfl) (f:(Region.ready md l.toArray listed).contains i=true:=by kernel_rfl)
  (g:∀ c a w,Q (.panic c) (a.put b.dst v) w->Q (.panic c) a w:=by exact fun _ _ _ h=>h) (j:(i != ap)=true:=by rfl) (k:Region.wanted b (yielded l.toArray a.tmps)=true:=by rfl)
  (m:∀ w,S1 w->(execOp a.eval b).run P w = .ok (.value v) w:=by(intro w n;(try dsimp only at n);go_simp;(try with_reducible rfl)))
  (ha:a.put b.dst v=d:=by((try simp only[Act.put,List.setIfInBounds_toArray,List.set_cons_zero,List.set_cons_succ]);(try rfl))):pJ P md l.toArray Q S1 S2 ap (fuel+1) listed a w:=
 fW hi hs hf f g j (Or.inl ⟨k,m⟩) e (fun o=>ha ▸ h o)
theorem qW{l:List Oper}{b:Oper}{v:Ae}{fuel:Nat}{listed:Array Bool}{a:Act}{w:Ad}(hi:l[i]? = some b)
  (hs:Region.noSelect l.toArray=true) (hf:Region.free md l.toArray listed i=true) (g:(Region.ready md l.toArray listed).contains i=true)
  (j:∀ c a w,Q (.panic c) (a.put b.dst v) w->Q (.panic c) a w) (k:(i != ap)=true) (m:waits md l.toArray ap i=true) (n:listed.getD ap false=false)
  (o:YieldsIf P l.toArray (fun w=>S1 w/\S2 w) b v a) (d:SD S1 S2 ap listed w)
  (h:SD S1 S2 ap (listed.setIfInBounds i true) w->pJ P md l.toArray Q S1 S2 ap fuel (listed.setIfInBounds i true) (a.put b.dst v) w):pJ P md l.toArray Q S1 S2 ap (fuel+1) listed a w:=
 have e:i≠ap:=(by simpa using k);have f:l.toArray[i]? = some b:=(by simpa using hi)
 aKz (edge:=True) f (Region.noSelect_spec hs) j e (fun _=>m) (fun _ _ h1 h=>⟨h.1,h.2 (h1 trivial)⟩) fuel listed a w (Region.free_spec f hf) (by simpa using g) (fun _=>n) o d (h (d.of_same (getD_set_ne false e)))
theorem jK{l:List Oper}{o:Oper}{fuel:Nat}{listed:Array Bool}{a:Act}{w:Ad}(c:Region.ready md l.toArray listed = [i])(ho:l[i]? = some o)
  (h:∀ b:Act->Ad->Prop,Shut (∀ a w,SD S1 S2 ap (listed.setIfInBounds i true) w->(SD S1 S2 ap (listed.setIfInBounds i true) w->pJ P md l.toArray Q S1 S2 ap fuel (listed.setIfInBounds i true) a w)->b a w)->if Region.wanted o (yielded l.toArray a.tmps)=true then Oper.wp P o a w b Q else b (a.put o.dst undef) w) :
  pJ P md l.toArray Q S1 S2 ap (fuel+1) listed a w:=
 ⟨fun d=>(by rw[c]at d;cases d),fun j e=>by
  rw[c]at e;have:=List.mem_singleton.1 e;subst this
  exact wpOp_step (by simpa using ho) (fun b f=>h b (fun a w h1 h2=>f a w ⟨h1,h2 h1⟩))⟩
theorem kQ{l:List Oper}{listed:Array Bool}{a:Act}(b:Region.ready md l.toArray listed = [])(h:Q .normal a w):∀ fuel,pJ P md l.toArray Q S1 S2 ap fuel listed a w
 | 0=>⟨b,h⟩
 | _+1=>⟨fun _=>h,by rw[b];simp⟩
theorem lX{l:List Oper}{id:Nat}{a:Act}(S1 S2:Ad->Prop)(ap:Nat)(b:P.follows .mixedOrders=true)(h1:S1 w.drew)(h2:S2 w.drew)
  (h:SD S1 S2 ap (Array.replicate l.length false) w.drew->pJ P .any l.toArray Q S1 S2 ap l.length (Array.replicate l.length false) a w.drew):(Code.region id l.toArray true).wp P Q a w:=
 wp_region_any b (bQb _ _ _ _ (by
  have c:=h ⟨h1,fun _=>h2⟩;rw[List.size_toArray]
  exact c))
end
structure RowsD where
 env:EnvD
 fns:List RowD
def RowsV(w:Ad)(v:Ae)(p:RowsD):Prop:=∃ a b d f,v = .agg #[a,.int .i64 p.env.imports,b,d,.bool p.env.mem,f]/\Structs 2 SigC w a p.env.sigs/\Ints w b p.env.globals/\Bools w d p.env.muts/\Structs 5 RowC w f p.fns
theorem RowsV.below{w w':Ad}{B:Nat}{r:Ae}{p:RowsD}(h:RowsV w r p)(hb:Af B w w')(c:w.heap.size<=B):RowsV w' r p:=by
 obtain⟨a,b,d,f,e,h1,h2,g,i⟩:=h;exact⟨a,b,d,f,e,h1.below hb c (fun r x q=>q.below hb c),h2.below hb c,g.below hb c,i.below hb c (fun r x q=>q.below hb c)⟩
theorem RowsV.env{w:Ad}{a b d f:Ae}{x:Int}{m:Bool}{p:RowsD}(h:RowsV w (.agg #[a,.int .i64 x,b,d,.bool m,f]) p):EnvV w (.agg #[a,.int .i64 p.env.imports,b,d,.bool p.env.mem]) p.env:=by
 obtain⟨a',b',d',f',e,h1,h2,c,h4⟩:=h;injection e with e;injection e with e;simp only[List.cons.injEq,and_true]at e;obtain⟨rfl,_,rfl,rfl,_,rfl⟩:=e;exact⟨a,b,d,rfl,h1,h2,c⟩
theorem Structs.row{l:List RowD}(h:Structs 5 RowC w (.slice A n c) l){x:RowD}(a:l[k]? = some x):
  ∃ b o p q r s,A=some ⟨b,o,none⟩/\b<w.heap.size/\w.cell? ⟨b,o+k*5,none⟩=some p/\w.cell? ⟨b,o+k*5+1,none⟩=some q/\w.cell? ⟨b,o+k*5+2,none⟩=some (.int .i64 x.places)/\w.cell? ⟨b,o+k*5+3,none⟩=some r/\w.cell? ⟨b,o+k*5+4,none⟩=some s /\
   Ints w p x.sig.inn/\Ints w q x.sig.out/\Ints w r x.params/\Structs 5 CodeC w s x.code:=by
 obtain⟨b,o,c',rr,e,hb,hr,⟨p,q,r,s,rfl,h1,h2,d,f⟩,hc⟩:=h.at (by omega) a;injection e with g e2 e3;exact⟨b,o,p,q,r,s,g,hb,hc 0 _ rfl,hc 1 _ rfl,hc 2 _ rfl,hc 3 _ rfl,hc 4 _ rfl,h1,h2,d,f⟩
theorem RowV.of{p q r s:Ae}{x:RowD}(h1:Ints w p x.sig.inn)(h2:Ints w q x.sig.out)(a:Ints w r x.params)(b:Structs 5 CodeC w s x.code):RowV w (.agg #[p,q,.int .i64 x.places,r,s]) x:=⟨p,q,r,s,rfl,h1,h2,a,b⟩
theorem dYi(w:Ad)(a b:Obj):Af w.heap.size w ((w.alloc a).alloc b):=((AZ _ _).alloc (Ay _) _).alloc (by simp) _
theorem aYy{a b:Ae}(k:Blk w g e #[a,b]):w.cell? ⟨g,0,none⟩=some a/\w.cell? ⟨g,1,none⟩=some b:=⟨by simpa using k.cell 0,by simpa using k.cell 1⟩
theorem eXg{a b c d f h:Ae}(k:Blk w g e #[a,b,c,d,f,h]):
  w.cell? ⟨g,0,none⟩=some a/\w.cell? ⟨g,1,none⟩=some b/\w.cell? ⟨g,2,none⟩=some c/\w.cell? ⟨g,3,none⟩=some d/\w.cell? ⟨g,4,none⟩=some f/\w.cell? ⟨g,5,none⟩=some h:=
 ⟨by simpa using k.cell 0,by simpa using k.cell 1,by simpa using k.cell 2,by simpa using k.cell 3,by simpa using k.cell 4,by simpa using k.cell 5⟩
structure ProgP (p:RowsD):Prop where
 env:envOk p.env=true
 len:(p.fns.length:Int)+p.env.imports=p.env.sigs.length
 row:∀ (i:Nat) r,p.fns[i]? = some r->CheckP p.env r/\p.env.sigs[p.env.imports.toNat+i]? = some r.sig
theorem mW{e:EnvD}(h:envOk e=true):e.sigs.length<=64/\0<=e.imports/\e.imports<=e.sigs.length:=by
 unfold envOk at h;simp only[AJ,decide_eq_true_eq]at h;exact⟨h.1.1,h.1.2.1,h.1.2.2.1⟩
def cWv(b:Bool)(w:Ad)(a:Ending)(w':Ad):Prop:=a = .returned (.bool b)/\∃ n,w'=w.drewN n
theorem aYz{l m:List Int}{x y:Int}(h:l.take k=m.take k)(a:l[k]? = some x)(b:m[k]? = some y):x=y->l.take (k+1)=m.take (k+1):=by
 intro e;subst e;obtain⟨h1,h2⟩:=List.getElem?_eq_some_iff.1 a;obtain⟨c,d⟩:=List.getElem?_eq_some_iff.1 b;rw[Av h1,Av c,h,h2,d]
theorem bWy{l m:List Int}{x y:Int}(b:l[k]? = some x)(a:m[k]? = some y)(h:x≠y):l≠m:=by
 intro e;subst e;rw[b]at a;injection a with a;exact h a
theorem eQk(v u:Ae)(l m:List Int)(w:Ad)(h1:Ints w v l)(h2:Ints w u m):Calls fZ 49 #[v,u] w (cWv (decide (l=m)) w):=by
 obtain⟨A1,c1,rfl⟩:=h1.shape;obtain⟨A2,c2,rfl⟩:=h2.shape;have H1:=fQ h1.ir;have j:=fQ h2.ir;have B:=h1.eXi.2.2.1;have C:=h2.eXi.2.2.1;clear h1 h2;by_cases hlen:l.length=m.length
 ·obtain⟨n,hn⟩:=fX l.length;have d:m.length=n:=(by omega);have p:=fQ hn;have q:=fQ d;rw[hn]at H1 B ⊢;rw[d]at j C ⊢;have D:((n:Int) != (n:Int))=false:=(by simp);clear hn d hlen;go_in;go_wp2;go_loopw [13] (fun i wr=>∃ k:Nat,k<=n/\i = .int .i64 k/\Hid (l.take k=m.take k/\∃ z,wr=w.drewN z)) (fun i _=>n - (intOf i).toNat)
  case atStart=>exact⟨0,by omega,rfl,fQ ⟨by simp,0,rfl⟩⟩
  case round=>
   obtain⟨k,hk,rfl,IM⟩:=hrel;obtain⟨c,z,rfl⟩:=IM.out;clear IM;by_cases r:k<n
   ·have E:decide ((k:Int)<n)=true:=(by simp;omega);have t2:(k:Int)<n:=(by omega);obtain⟨x,f⟩:∃ x,l[k]? = some x:=⟨_,Ax (by rw[p.out];exact r)⟩;obtain⟨y,g⟩:∃ y,m[k]? = some y:=⟨_,Ax (by rw[q.out];exact r)⟩;obtain⟨b,o,rfl,hb,hc⟩:=H1.out.cell f;obtain⟨b2,o2,rfl,ak,al⟩:=j.out.cell g;have s:=fQ f;have t:=fQ g;have F:=fQ c;clear f g c;by_cases a:x=y
    ·have q1:(x != y)=false:=(by simpa using a);have h:=fQ a;clear a;go_wp2_with fail;go_quiet (fail);go_wp2;exact⟨⟨k+1,by omega,by simp,fQ ⟨aYz F.out s.out t.out h.out,_,rfl⟩⟩,by simp[intOf];omega⟩
    ·have q1:(x != y)=true:=(by simpa using a);have h:=fQ a;clear a;go_wp2_with fail;go_quiet (fail);go_wp2;go_ret;exact⟨by rw[decide_eq_false (bWy s.out t.out h.out)];rfl,z+nq,by simp[Ab];omega⟩
   ·have E:decide ((k:Int)<n)=false:=by simp;omega
    have A:l=m:=by
     rw[<-Az (l:=l) (i:=k) (by have:=p.out;omega),<-Az (l:=m) (i:=k) (by have:=q.out;omega),c]
    have G:=fQ A;clear A c;go_wp2;go_ret;exact⟨by rw[decide_eq_true G.out];rfl,_,rfl⟩
 ·have H:l≠m:=fun e=>hlen (by rw[e]);have D:((l.length:Int) != (m.length:Int))=true:=(by simp;omega);go_in;go_wp2;go_ret;exact⟨by rw[decide_eq_false H];rfl,0,rfl⟩
theorem bZi(v u:Ae)(l m:List Int)(w:Ad)(h1:Ints w v l)(h2:Ints w u m):Calls fZ 43 #[v,u] w (cWv (decide (l=m)) w):=by
 obtain⟨A1,c1,rfl⟩:=h1.shape;obtain⟨A2,c2,rfl⟩:=h2.shape;have H1:=fQ h1.ir;have j:=fQ h2.ir;have B:=h1.eXi.2.2.1;have C:=h2.eXi.2.2.1;clear h1 h2;by_cases hlen:l.length=m.length
 ·obtain⟨n,hn⟩:=fX l.length;have d:m.length=n:=(by omega);have p:=fQ hn;have q:=fQ d;rw[hn]at H1 B ⊢;rw[d]at j C ⊢;have D:((n:Int) != (n:Int))=false:=(by simp);clear hn d hlen;go_in;go_wp2;go_loopw [5] (fun i wr=>∃ k:Nat,k<=n/\i = .int .i64 k/\Hid (l.take k=m.take k/\∃ z,wr=w.drewN z)) (fun i _=>n - (intOf i).toNat)
  case atStart=>exact⟨0,by omega,rfl,fQ ⟨by simp,0,rfl⟩⟩
  case round=>
   obtain⟨k,hk,rfl,IM⟩:=hrel;obtain⟨c,z,rfl⟩:=IM.out;clear IM;by_cases r:k<n
   ·have E:decide ((k:Int)<n)=true:=(by simp;omega);have t2:(k:Int)<n:=(by omega);obtain⟨x,f⟩:∃ x,l[k]? = some x:=⟨_,Ax (by rw[p.out];exact r)⟩;obtain⟨y,g⟩:∃ y,m[k]? = some y:=⟨_,Ax (by rw[q.out];exact r)⟩;obtain⟨b,o,rfl,hb,hc⟩:=H1.out.cell f;obtain⟨b2,o2,rfl,ak,al⟩:=j.out.cell g;have s:=fQ f;have t:=fQ g;have F:=fQ c;clear f g c;by_cases a:x=y
    ·have q1:(x != y)=false:=(by simpa using a);have h:=fQ a;clear a;go_wp2_with fail;go_quiet (fail);go_wp2;exact⟨⟨k+1,by omega,by simp,fQ ⟨aYz F.out s.out t.out h.out,_,rfl⟩⟩,by simp[intOf];omega⟩
    ·have q1:(x != y)=true:=(by simpa using a);have h:=fQ a;clear a;go_wp2_with fail;go_quiet (fail);go_wp2;go_ret;exact⟨by rw[decide_eq_false (bWy s.out t.out h.out)];rfl,z+nq,by simp[Ab];omega⟩
   ·have E:decide ((k:Int)<n)=false:=by simp;omega
    have A:l=m:=by
     rw[<-Az (l:=l) (i:=k) (by have:=p.out;omega),<-Az (l:=m) (i:=k) (by have:=q.out;omega),c]
    have G:=fQ A;clear A c;go_wp2;go_ret;exact⟨by rw[decide_eq_true G.out];rfl,_,rfl⟩
 ·have H:l≠m:=fun e=>hlen (by rw[e]);have D:((l.length:Int) != (m.length:Int))=true:=(by simp;omega);go_in;go_wp2;go_ret;exact⟨by rw[decide_eq_false H];rfl,0,rfl⟩
def bQa(s t:SigD):Bool:=decide (s.inn=t.inn) && decide (s.out=t.out)
theorem bZj{s t:SigD}:bQa s t=true↔s=t:=by
 cases s;cases t;simp[bQa]
theorem bWf(a b c d:Ae)(s t:SigD)(w:Ad)(ha:Ints w a s.inn)(hb:Ints w b s.out)(hc:Ints w c t.inn)(hd:Ints w d t.out):Calls fZ 19 #[.agg #[a,b],.agg #[c,d]] w fun f w'=>f = .returned (.bool (bQa s t))/\Af w.heap.size w w':=by
 have e:=fQ (dYi w (.cells #[a,b] 40) (.cells #[c,d] 40));have h1:=fQ (ha.below e.out (Ay _));have h2:=fQ (hb.below e.out (Ay _));have j:=fQ (hc.below e.out (Ay _));have k:=fQ (hd.below e.out (Ay _));have g:=Blk.alloc (Blk.new w 40 #[a,b]) (.cells #[c,d] 40);have h:=Blk.newAt (w.alloc (.cells #[a,b] 40)) (N:=w.heap.size+1) 40 #[c,d] (by simp);unfold bQa;clear ha hb hc hd;go_in;go_wp2_with fail;refine(bZi _ _ _ _ _ h1.out j.out).mono ?_;rintro f w1 ⟨rfl,z,rfl⟩;have i:=fQ (fK e.out z);cases hq:decide (s.inn=t.inn)
 ·go_wp2;go_ret;exact⟨by rw[hq];rfl,i.out⟩
 ·obtain⟨e0,e1⟩:=aYy (Blk.drewN g z);obtain⟨f0,f1⟩:=aYy (Blk.drewN h z);have y1:=Blk.lt (Blk.drewN g z);have y2:=Blk.lt (Blk.drewN h z);go_wp2_with fail;refine(bZi _ _ _ _ _ (h2.out.below (fK (AZ _ _) z) (Ay _)) (k.out.below (fK (AZ _ _) z) (Ay _))).mono ?_;rintro f w2 ⟨rfl,l,rfl⟩;have ab:=fQ (fK i.out l);go_wp2;go_ret;exact⟨by rw[hq];rfl,fK e.out _⟩
def dYj(p:RowsD)(w:Ad)(a:Ending)(w':Ad):Prop:=∃ b:Bool,a = .returned (.bool b)/\(b=true↔ProgP p)/\Af w.heap.size w w'
def LrInv(p:RowsD)(M:Nat)(w1:Ad)(k:Nat)(wr:Ad):Prop:=Af w1.heap.size w1 wr/\∀ (j:Nat) r,j<k->p.fns[j]? = some r->CheckP p.env r/\p.env.sigs[M+j]? = some r.sig
theorem LrInv.step{p:RowsD}{M:Nat}{w1 wr:Ad}{r:RowD}{s:SigD}(h:LrInv p M w1 k wr)(d:p.fns[k]? = some r)(hs:p.env.sigs[M+k]? = some s)(h1:s.inn=r.sig.inn)(h2:s.out=r.sig.out)(hc:CheckP p.env r)(hb:Af wr.heap.size wr w'):LrInv p M w1 (k+1) w':=by
 refine⟨h.1.trans (hb.mono h.1.size),fun j q c hq=>?_⟩;rcases Nat.lt_succ_iff_lt_or_eq.1 c with c | rfl
 ·exact h.2 j q c hq
 ·rw[d]at hq;injection hq with hq;subst hq;refine⟨hc,?_⟩;rw[hs];obtain⟨a,b⟩:=s;have h1:a=r.sig.inn:=h1;have h2:b=r.sig.out:=h2;subst h1;subst h2;rfl
section
variable {H:Type} {enc:TypeId×Ae->H} {w:Ad}
theorem aQj:pK enc fZ w 23 (fun w cs (l:List Int)=>∃ v,cs = [v]/\Ints w v l):=bYb underlying23 underlying3 (by kernel_rfl) (by kernel_rfl)
theorem cYn:pK enc fZ w 24 (fun w cs (l:List Bool)=>∃ v,cs = [v]/\Bools w v l):=bVf underlying24 underlying4 (by kernel_rfl) (show 1<=fZ.bytesOf 4 by decide +kernel)
theorem c1:fZ.cellsOf 23=1:=by kernel_rfl
theorem cJp:pK enc fZ w 40 SigC:=by
 intro fuel cs x h c;obtain⟨e,v0,e0,i0⟩:=kX underlying40 h c 0 0 1 23 rfl aQj rfl rfl c1;obtain⟨f,v1,d,g⟩:=kX underlying40 h c 1 1 1 23 rfl aQj rfl rfl c1;obtain⟨_,_,_,_,i,_,_⟩:=DataW.trod_struct underlying40 h;have j:cs.length=2:=i.trans (by kernel_rfl)
 match cs,j with
 | [a,b],_=>
  simp at e0 d;subst e0;subst d;exact⟨⟨e,f⟩,_,_,rfl,i0,g⟩
theorem dZh:pK enc fZ w 22 (fun w cs (l:List SigD)=>∃ v,cs = [v]/\Structs 2 SigC w v l):=by
 intro fuel cs x h a;obtain⟨l,v,e,hs,_⟩:=sQ (enc:=enc) (w:=w) underlying22 (show fZ.cellsOf 40=2 by kernel_rfl) (by omega) (show 1<=fZ.bytesOf 40 by decide +kernel) cJp fuel cs x h a;exact⟨l,v,e,hs⟩
theorem aZm:pK enc fZ w 3 (fun _ cs (a:Int)=>cs = [.int .i64 a]/\(Lit.int .i64 a).wf=true):=aXt underlying3
theorem dKt:pK enc fZ w 50 (fun _ cs (a:Int)=>cs = [.int .u64 a]/\(Lit.int .u64 a).wf=true):=aXt underlying50
theorem cYo:pK enc fZ w 4 (fun _ cs (a:Bool)=>cs = [.bool a]):=aWv underlying4
theorem ci:fZ.cellsOf 3=1:=by kernel_rfl
theorem cu:fZ.cellsOf 50=1:=by kernel_rfl
theorem cb:fZ.cellsOf 4=1:=by kernel_rfl
theorem cbs:fZ.cellsOf 24=1:=by kernel_rfl
theorem cgs:fZ.cellsOf 22=1:=by kernel_rfl
theorem cg:fZ.cellsOf 40=2:=by kernel_rfl
theorem ccs:fZ.cellsOf 41=1:=by kernel_rfl
theorem dKu:pK enc fZ w 26 eQn:=by
 intro fuel cs x h e;obtain⟨k,v0,e0,i0⟩:=kX underlying26 h e 0 0 1 22 rfl dZh rfl rfl cgs;obtain⟨l,g,i1⟩:=kX underlying26 h e 1 1 1 3 rfl aZm rfl rfl ci;obtain⟨m,v2,e2,n⟩:=kX underlying26 h e 2 2 1 23 rfl aQj rfl rfl c1;obtain⟨o,v3,i,p⟩:=kX underlying26 h e 3 3 1 24 rfl cYn rfl rfl cbs;obtain⟨q,j⟩:=kX underlying26 h e 4 4 1 4 rfl cYo rfl rfl cb;obtain⟨_,_,_,_,r,_,_⟩:=DataW.trod_struct underlying26 h;have s:cs.length=5:=r.trans (by kernel_rfl)
 match cs,s with
 | [a,b,c,d,f],_=>
  simp at e0 g e2 i j;subst e0;subst g;subst e2;subst i;subst j;exact⟨⟨k,l,m,o,q⟩,_,_,_,rfl,i0,n,p⟩
theorem dZi:pK enc fZ w 52 CodeC:=by
 intro fuel cs x h e;obtain⟨l,e0,i0⟩:=kX underlying52 h e 0 0 1 3 rfl aZm rfl rfl ci;obtain⟨g,i,m⟩:=kX underlying52 h e 1 1 1 50 rfl dKt rfl rfl cu;obtain⟨o,v2,e2,p⟩:=kX underlying52 h e 2 2 1 23 rfl aQj rfl rfl c1;obtain⟨q,v3,j,r⟩:=kX underlying52 h e 3 3 1 23 rfl aQj rfl rfl c1;obtain⟨s,v4,k,t⟩:=kX underlying52 h e 4 4 1 23 rfl aQj rfl rfl c1;obtain⟨_,_,_,_,u,_,_⟩:=DataW.trod_struct underlying52 h;have v:cs.length=5:=u.trans (by kernel_rfl)
 match cs,v with
 | [a,b,c,d,f],_=>
  simp at e0 i e2 j k;subst e0;subst i;subst e2;subst j;subst k;have y:=i64_bounds i0;have h1:=aWu m;obtain⟨n,rfl⟩:∃ n:Nat,g=n:=⟨g.toNat,by omega⟩;exact⟨⟨l,n,o,q,s⟩,_,_,_,rfl,⟨by show n<_;omega,y⟩,p,r,t⟩
theorem cYp:pK enc fZ w 41 (fun w cs (l:List CodeD)=>∃ v,cs = [v]/\Structs 5 CodeC w v l):=by
 intro fuel cs x h a;obtain⟨l,v,e,hs,_⟩:=sQ (enc:=enc) (w:=w) underlying41 (show fZ.cellsOf 52=5 by kernel_rfl) (by omega) (show 1<=fZ.bytesOf 52 by decide +kernel) dZi fuel cs x h a;exact⟨l,v,e,hs⟩
theorem dKv:pK enc fZ w 43 RowC:=by
 intro fuel cs x h e;obtain⟨j,e0⟩:=kX underlying43 h e 0 0 2 40 rfl cJp rfl rfl cg;obtain⟨k,g,i1⟩:=kX underlying43 h e 1 2 1 3 rfl aZm rfl rfl ci;obtain⟨l,v2,e2,m⟩:=kX underlying43 h e 2 3 1 23 rfl aQj rfl rfl c1;obtain⟨n,v3,i,o⟩:=kX underlying43 h e 3 4 1 41 rfl cYp rfl rfl ccs;obtain⟨_,_,_,_,p,_,_⟩:=DataW.trod_struct underlying43 h;have q:cs.length=5:=p.trans (by kernel_rfl)
 match cs,q with
 | [a,b,c,d,f],_=>
  simp at e0 g e2 i;obtain⟨x0,x1,x2,x3,x4⟩:=e0;subst g;subst e2;subst i;simp at x2;obtain⟨rfl,rfl⟩:=x2;exact⟨⟨j,k,l,n⟩,_,_,_,_,rfl,x3,x4,m,o⟩
end
theorem small_of{H:Type}{P:Program}{ts:List TypeId}{a:List (DataW H)}(h:(DataW.weightsEach P ts a).all (· <= reachBytes)=true){j:Nat}{t:TypeId}{d:DataW H}(b:ts[j]? = some t)(hd:a[j]? = some d):aZt P t d:=fun n hn=>by
 have:=List.all_eq_true.1 h n (DataW.weights_mem_each (j:=j) b hd n hn)
 simpa using this
section
variable {H:Type} {enc:TypeId×Ae->H} {w:Ad}
theorem cJq{r:Reach}{b0:Nat}{t:TypeId}{fs:Array Field}(b:fZ.underlying t=some (.struct fs))(a:Value.okWide fZ w r b0 t v):∃ cs,v = .agg cs:=by
 simp only[Value.okWide,b]at a;obtain⟨cs,rfl,_⟩:=a;exact⟨cs,rfl⟩
end
def tX(n addr a:Nat):Bool:=decide (addr<=1099511627776) && (decide (a<=1099511627776) && decide (addr+a<=n))
def sV(n:Nat)(wd:Int)(addr off:Nat):Int×Int:=
 if 4294967295<addr\/4294967295<off then(0,1)else if tX n (addr+off) wd.toNat then((addr+off:Nat),0)else(0,35)
def sxV(a:Nat)(q:Int):Int:=IntKind.u64.wrap (wrap64 (IntKind.u64.wrap (q*2 ^ (64 - 8*a))) / 2 ^ (64 - 8*a))
def aKo(k q:Int):Int:=if k=127 then q % 4294967296 else q
def xY(k:Int)(a:Nat)(b:Bool)(q:Int):Int:=aKo k (if b then sxV a q else q)
def leN:List Nat->Nat
 | []=>0
 | b :: l=>b+256*leN l
theorem aYo:∀ l:List Nat,AllB l->leN l<256 ^ l.length
 | [],_=>by simp[leN]
 | b :: l,h=>by
  have h1:=aYo l (fun x a=>h x (List.mem_cons_of_mem _ a));have h2:=h b (List.mem_cons_self ..);simp only[leN,List.length_cons,Nat.pow_succ];omega
def pV(m:List Nat)(op:Int)(addr off:Nat):Int×Int:=match acc op with
 | none=>(0,1)
 | some (k,wd,st,a)=>if st then(0,1)else if(sV m.length wd addr off).2=0 then(xY k wd.toNat a (leN ((m.drop (addr+off)).take wd.toNat)),0)else(0,(sV m.length wd addr off).2)
theorem bXt{addr off:Nat}{wd:Int}(h:(sV n wd addr off).2=0):sV n wd addr off=(((addr+off:Nat):Int),0)/\addr+off+wd.toNat<=n/\addr<=4294967295/\off<=4294967295:=by
 revert h
 unfold sV
 split
 ·intro h;simp at h
 ·split
  ·rename_i h1 h2;intro _;simp[tX]at h2;exact⟨rfl,by omega,by omega,by omega⟩
  ·intro h;simp at h
def aQc(n:Nat)(most:Int)(a:Nat):Bool:=decide (n % 256=0/\(n:Int)+256*a<=min most 4096)
def oV(m:List Nat)(most:Int)(a:Nat):List Nat:=if aQc m.length most a then m++AQ (256*a) 0 else m
def wW(n:Nat)(most:Int)(a:Nat):Nat:=if aQc n most a then n / 256 else 4294967295
theorem bXu(h:AllB m)(most:Int)(a:Nat):AllB (oV m most a):=by
 unfold oV
 split
 ·intro x b;rcases List.mem_append.1 b with h1 | h1
  ·exact h x h1
  ·rw[List.eq_of_mem_replicate h1];omega
 ·exact h
def putB(m:List Nat)(a N:Nat):Nat->List Nat
 | 0=>m
 | i+1=>(putB m a N i).set (a+i) (N / 256 ^ i % 256)
theorem aXn(m:List Nat)(a N:Nat):∀ i,(putB m a N i).length=m.length
 | 0=>rfl
 | i+1=>by rw[putB,AK,aXn m a N i]
theorem aJk{m:List Nat}(h:AllB m)(a N:Nat):∀ i,AllB (putB m a N i)
 | 0=>h
 | i+1=>fun x b=>by
  rw[putB]at b;rcases AX b with h1 | h1
  ·exact aJk h a N i x h1
  ·omega
def mK(n:Nat)(op:Int)(addr off N:Nat):Int:=match acc op with
 | none=>1
 | some (k,wd,st,_)=>if st=false then 1 else if k=127/\4294967295<N then 1 else(sV n wd addr off).2
def dVf(op:Int):Nat:=match acc op with
 | none=>0
 | some (_,wd,_,_)=>wd.toNat
def nW(m:List Nat)(op:Int)(addr off N:Nat):List Nat:=if mK m.length op addr off N=0 then putB m (addr+off) N (dVf op)else[]
def xK(a b:Nat)(x y:Int):List Bool:=[(a:Int) == b,(a:Int) != b,decide (x<y),decide (a<b),decide (y<x),decide (b<a),decide (x<=y),decide (a<=b),decide (y<=x),decide (b<=a)]
def oW(k:IntKind)(W a b by_:Nat)(x:Int):List Int:=[k.wrap (a+b),k.wrap (a - b),k.wrap (a*b),0,0,0,0,bits .and k a b,bits .or k a b,bits .xor k a b,k.wrap (a*2 ^ by_),k.wrap (x / 2 ^ by_),(a:Int) / 2 ^ by_,
 bits .or k (k.wrap (a*2 ^ by_)) ((a:Int) / 2 ^ (W - by_)),bits .or k ((a:Int) / 2 ^ by_) (k.wrap (a*2 ^ (W - by_)))]
def jQ(M least k:Int)(a b:Nat)(x y:Int):Int×Int:=
 if b=0 then(0,33)else if k=0 then(if y = -1/\x=least then(0,34)else((x.tdiv y) % M,0))else if k=1 then((a:Int) / b,0)else if k=2 then((x.tmod y) % M,0)else((a:Int) % b,0)
def hY(c d k:Int)(a b:Nat):Int×Int:=
 if d=126 then
  if c=1 then(b01 ((xK a b (wrap64 a) (wrap64 b)).getD k.toNat false),0)
  else if 3<=k/\k<=6 then jQ 18446744073709551616 (-9223372036854775808) (k - 3) a b (wrap64 a) (wrap64 b)
  else((oW .u64 64 a b (b % 64) (wrap64 a)).getD k.toNat 0,0)
 else
  if c=1 then(b01 ((xK a b (wrap32 a) (wrap32 b)).getD k.toNat false),0)
  else if 3<=k/\k<=6 then jQ 4294967296 (-2147483648) (k - 3) a b (wrap32 a) (wrap32 b)
  else((oW .u32 32 a b (b % 32) (wrap32 a)).getD k.toNat 0,0)
def aQe(W x:Nat):List Int:=[(W:Int) - Lib.bitLen x,Lib.ctz W x,Lib.popAux W x]
def bKp(k:Int)(x:Nat):Int:=if k=0 then IntKind.u64.wrap (wrap64 (wrap32 x))else x
def aWr(k:Int)(x:Nat):Int:=if k=0 then wrap64 (IntKind.i8.wrap x)else if k=1 then wrap64 (IntKind.i16.wrap x)else wrap64 (wrap32 x)
def rZ(k out:Int)(x:Nat):Int:=if out=127 then aWr k x % 4294967296 else IntKind.u64.wrap (aWr k x)
def u64V(l:List Nat):List Ae:=l.map fun c:Nat=>.int .u64 (c:Int)
def All64(l:List Nat):Prop:=∀ x∈l,x<18446744073709551616
def oJ(c d k:Int)(out:Int)(l:List Nat):Int×Int:=
 if c=0 then(b01 ((l.getD 0 0:Int) == 0),0)
 else if c=2 then((aQe (if d=126 then 64 else 32) (l.getD 0 0)).getD k.toNat 0,0)
 else if c=4 then((l.getD 0 0:Int) % 4294967296,0)
 else if c=5 then(bKp k (l.getD 0 0),0)
 else if c=6 then(rZ k out (l.getD 0 0),0)
 else hY c d k (l.getD 0 0) (l.getD 1 0)
def rJ(op:Int)(l:List Nat):Int×Int:=match fV op with
 | none=>(0,1)
 | some (a,_,c,d)=>if(gX op).length=l.length/\l.all (iK d)=true then oJ c d (op - a) (kW op) l else(0,1)
structure StD where
 mem:List Nat
 most:Int
 globals:List Nat
 fuel:Nat
 input:List Nat
 log:List Nat
def tZ(t:Int)(n:Nat):Nat:=if t=127 then n % 4294967296 else n
def lowL:List Int->List Nat->List Nat
 | t :: ts,n :: l=>tZ t n :: lowL ts l
 | _,_=>[]
theorem uW:∀ (ts:List Int) (l:List Nat),ts.length=l.length->(lowL ts l).length=l.length
 | [],[],_=>rfl
 | t :: ts,n :: l,h=>by simp[lowL,uW ts l (by simpa using h)]
 | [],n :: l,h=>by simp at h
 | t :: ts,[],h=>by simp at h
def hostV(n:Nat)(outs:List Int)(a:List Nat)(s:StD):List Nat×Int×StD:=
 if outs.length<=s.input.length then(lowL outs (s.input.take outs.length),0,{ s with log:=s.log++n :: a,input:=s.input.drop outs.length })
 else([],39,{ s with log:=s.log++n :: a,input:=[] })
def mZ(c:CodeD)(a:List Nat)(s:StD):Nat×Int×StD:=
 if c.op=256 then(c.n,0,s)
 else if c.op=272 then(a.getD 0 0,0,s)
 else if c.op=258 then if s.fuel=0 then(0,36,s)else(0,0,{ s with fuel:=s.fuel - 1 })
 else if c.op=27 then(if a.getD 2 0=0 then a.getD 1 0 else a.getD 0 0,0,s)
 else if c.op=35 then(s.globals.getD c.n 0,0,s)
 else if c.op=36 then(0,0,{ s with globals:=s.globals.set c.n (a.getD 0 0) })
 else if c.op=257 then(0,if tX s.mem.length (a.getD 0 0) c.n then 0 else 35,s)
 else match acc c.op with
  | some (_,_,true,_)=>if mK s.mem.length c.op (a.getD 0 0) c.n (a.getD 1 0)=0 then(0,0,{ s with mem:=nW s.mem c.op (a.getD 0 0) c.n (a.getD 1 0) })else(0,38,s)
  | some (_,_,false,_)=>if(pV s.mem c.op (a.getD 0 0) c.n).2=0 then((pV s.mem c.op (a.getD 0 0) c.n).1.toNat,0,s)else(0,38,s)
  | none=>
   if c.op=63 then(s.mem.length / 256,0,s)
   else if c.op=64 then(wW s.mem.length s.most (a.getD 0 0),0,{ s with mem:=oV s.mem s.most (a.getD 0 0) })
   else((rJ c.op a).1.toNat,(rJ c.op a).2,s)
inductive ActD
 | go (k:Nat)
 | ret (l:List Nat)
 | vals (l:List Nat) (s:StD)
 | trap (x:Int) (s:StD)
 | call (n:Nat)
def actV(e:EnvD)(c:CodeD)(k:Nat)(a:List Nat)(s:StD):ActD:=
 if c.op=276 then .ret a
 else if c.op=277 then .trap 32 s
 else if c.op=273 then .go (c.to.getD 0 0).toNat
 else if c.op=274 then .go (if a.getD 0 0=0 then k+1 else(c.to.getD 0 0).toNat)
 else if c.op=275 then .go (c.to.getD (min (a.getD 0 0) (c.to.length - 1)) 0).toNat
 else if c.op=16 then
  if(c.n:Int)<e.imports then
   let h:=hostV c.n ((e.sigs.getD c.n ⟨[],[]⟩).out) a s
   if h.2.1=0 then .vals h.1 h.2.2 else .trap h.2.1 h.2.2
  else .call c.n
 else
  let h:=mZ c a s
  if h.2.1=0 then .vals [h.1] h.2.2 else .trap h.2.1 h.2.2
def inK(e:EnvD)(s:SigD)(c:CodeD):List Int:=((iZ e s c.op c.n).getD ([],[])).1
def qX(V:List Nat)(l:List Int):List Nat:=l.map fun p=>V.getD p.toNat 0
def putV:List Int->List Nat->List Nat->List Nat
 | o :: os,n :: a,V=>putV os a (V.set o.toNat n)
 | _,_,V=>V
def zeroV(lost:Nat)(V:List Nat):List Nat:=AQ (min lost V.length) 0++V.drop lost
def initV(r:RowD)(a:List Nat):List Nat:=putV r.params a (AQ r.places.toNat 0)
def argV(e:EnvD)(r:RowD)(c:CodeD)(V:List Nat):List Nat:=lowL (inK e r.sig c) (qX V c.args)
structure ResD where
 out:List Nat
 s:StD
 e:Int
 cnt:Nat
 wds:Nat
inductive Ev (p:RowsD) (lost:Nat):Nat->RowD->Nat->List Nat->StD->ResD->Prop
 | ret {d:Nat} {r:RowD} {k:Nat} {V:List Nat} {s:StD} {c:CodeD} {l:List Nat} (hc:r.code[k]? = some c) (ha:actV p.env c k (argV p.env r c V) s = .ret l):Ev p lost d r k V s ⟨l,s,0,1,0⟩
 | trap {d:Nat} {r:RowD} {k:Nat} {V:List Nat} {s s':StD} {c:CodeD} {x:Int} (hc:r.code[k]? = some c) (ha:actV p.env c k (argV p.env r c V) s = .trap x s'):Ev p lost d r k V s ⟨[],s',x,1,0⟩
 | go {d:Nat} {r:RowD} {k k':Nat} {V:List Nat} {s:StD} {c:CodeD} {R:ResD} (hc:r.code[k]? = some c) (ha:actV p.env c k (argV p.env r c V) s = .go k') (hn:Ev p lost d r k' V s R):Ev p lost d r k V s { R with cnt:=1+R.cnt }
 | vals {d:Nat} {r:RowD} {k:Nat} {V:List Nat} {s s':StD} {c:CodeD} {l:List Nat} {R:ResD} (hc:r.code[k]? = some c) (ha:actV p.env c k (argV p.env r c V) s = .vals l s') (hn:Ev p lost d r (k+1) (putV c.outs l V) s' R):Ev p lost d r k V s { R with cnt:=1+R.cnt }
 | call {d:Nat} {r q:RowD} {k n:Nat} {V:List Nat} {s:StD} {c:CodeD} {g:SigD} {R1 R2:ResD} (hc:r.code[k]? = some c) (ha:actV p.env c k (argV p.env r c V) s = .call n) (hd:d<16) (hq:p.fns[n - p.env.imports.toNat]? = some q) (hg:p.env.sigs[n]? = some g)
   (h1:Ev p lost (d+1) q 0 (initV q (lowL g.inn (argV p.env r c V))) s R1) (he:R1.e=0) (h2:Ev p lost d r (k+1) (putV c.outs R1.out (zeroV lost V)) R1.s R2) :
   Ev p lost d r k V s ⟨R2.out,R2.s,R2.e,1+R1.cnt+R2.cnt,max (q.places.toNat+R1.wds) R2.wds⟩
 | callT {d:Nat} {r q:RowD} {k n:Nat} {V:List Nat} {s:StD} {c:CodeD} {g:SigD} {R1:ResD} (hc:r.code[k]? = some c) (ha:actV p.env c k (argV p.env r c V) s = .call n) (hd:d<16) (hq:p.fns[n - p.env.imports.toNat]? = some q) (hg:p.env.sigs[n]? = some g)
   (h1:Ev p lost (d+1) q 0 (initV q (lowL g.inn (argV p.env r c V))) s R1) (he:R1.e≠0):Ev p lost d r k V s ⟨[],R1.s,R1.e,1+R1.cnt,q.places.toNat+R1.wds⟩
 | deep {d:Nat} {r:RowD} {k n:Nat} {V:List Nat} {s:StD} {c:CodeD} (hc:r.code[k]? = some c) (ha:actV p.env c k (argV p.env r c V) s = .call n) (hd:16<=d):Ev p lost d r k V s ⟨[],s,37,1,0⟩
theorem Ev.one{p:RowsD}{lost d:Nat}{r:RowD}{V:List Nat}{s:StD}{R R':ResD}(h:Ev p lost d r k V s R)(g:Ev p lost d r k V s R'):R=R':=by
 induction h generalizing R' with
 | ret hc ha=>cases g <;> simp_all
 | trap hc ha=>cases g <;> simp_all
 | go hc ha hn m=>
  cases g with
  | go a b n=>
   rw[hc]at a;injection a with a;subst a;rw[ha]at b;injection b with b;subst b;rw[m n]
  | _=>simp_all
 | vals hc ha hn m=>
  cases g with
  | vals a b n=>
   rw[hc]at a;injection a with a;subst a;rw[ha]at b;injection b with b q;subst b;subst q;rw[m n]
  | _=>simp_all
 | call hc ha hd hq hg h1 he h2 ih1 ih2=>
  cases g with
  | call a b f c e i l o=>
   rw[hc]at a;injection a with a;subst a;rw[ha]at b;injection b with b;subst b;rw[hq]at c;injection c with c;subst c;rw[hg]at e;injection e with e;subst e;have j:=ih1 i;subst j;have e2:=ih2 o;subst e2;rfl
  | callT a b f c e i l=>
   rw[hc]at a;injection a with a;subst a;rw[ha]at b;injection b with b;subst b;rw[hq]at c;injection c with c;subst c;rw[hg]at e;injection e with e;subst e;have j:=ih1 i;subst j;exact absurd he l
  | deep a b f=>omega
  | _=>simp_all
 | callT hc ha hd hq hg h1 he ih1=>
  cases g with
  | call a b f c e i l o=>
   rw[hc]at a;injection a with a;subst a;rw[ha]at b;injection b with b;subst b;rw[hq]at c;injection c with c;subst c;rw[hg]at e;injection e with e;subst e;have j:=ih1 i;subst j;exact absurd l he
  | callT a b f c e i l=>
   rw[hc]at a;injection a with a;subst a;rw[ha]at b;injection b with b;subst b;rw[hq]at c;injection c with c;subst c;rw[hg]at e;injection e with e;subst e;have j:=ih1 i;subst j;rfl
  | deep a b f=>omega
  | _=>simp_all
 | deep hc ha hd=>
  cases g with
  | call a b f=>omega
  | callT a b f=>omega
  | deep a b f=>rfl
  | _=>simp_all
def UR(w:Ad)(v:Ae)(l:List Nat):Prop:=∃ A c,v = .slice A l.length c/\Src w A l.length (u64V l)/\l.length<=c/\(A=none->c=0)/\(l.length<=17592186043904/\c<=9223372036854775807)/\All64 l
def BR(w:Ad)(v:Ae)(m:List Nat):Prop:=∃ A c,v = .slice A m.length c/\Src w A m.length (bys m)/\m.length<=c/\(A=none->c=0)/\(m.length<=140737488355328/\c<=9223372036854775807)/\AllB m
theorem aJq(l m:List Nat):u64V (l++m)=u64V l++u64V m:=by simp[u64V]
theorem aJr(l:List Nat):∀ u∈u64V l,u.oneCell'=true:=by
 intro u a;simp only[u64V,List.mem_map]at a;obtain⟨x,_,rfl⟩:=a;rfl
theorem UR.shape(h:UR w v l):∃ A c,v = .slice A l.length c:=by
 obtain⟨A,c,e,_⟩:=h;exact⟨A,c,e⟩
theorem UR.below{w w':Ad}{B:Nat}{v:Ae}{l:List Nat}(h:UR w v l)(hb:Af B w w')(a:w.heap.size<=B):UR w' v l:=by
 obtain⟨A,c,e,hs,r⟩:=h;exact⟨A,c,e,hs.below hb a,r⟩
theorem BR.below{w w':Ad}{B:Nat}{v:Ae}{l:List Nat}(h:BR w v l)(hb:Af B w w')(a:w.heap.size<=B):BR w' v l:=by
 obtain⟨A,c,e,hs,r⟩:=h;exact⟨A,c,e,hs.below hb a,r⟩
theorem UR.len(h:UR w (.slice A n c) l):n=l.length/\Src w A n (u64V l)/\n<=c/\(A=none->c=0)/\(n<=17592186043904/\c<=9223372036854775807)/\All64 l:=by
 obtain⟨A',c',e,r⟩:=h;injection e with a e2 b;subst a;subst e2;subst b;exact⟨rfl,r⟩
theorem UR.cell{w:Ad}{A:Option Addr}{n c:Nat}{l:List Nat}(h:UR w (.slice A n c) l){k x:Nat}(a:l[k]? = some x):∃ b o,A=some ⟨b,o,none⟩/\b<w.heap.size/\w.cell? ⟨b,o+k,none⟩=some (.int .u64 (x:Int))/\x<18446744073709551616:=by
 obtain⟨hn,hs,_,_,_,d⟩:=h.len;have hk:=(List.getElem?_eq_some_iff.1 a).1;obtain⟨b,o,e,f,hc⟩:=hs.2 (by omega);exact⟨b,o,e,f,hc k _ (by simp[u64V,a]),d x (AW a)⟩
theorem bKk{d:List Ae}(h:Src w A n d)(hs:w.heap.size<=w'.heap.size)(hb:∀ k,(Value.slice A n c).ownBlock=some k->k<w.heap.size->w'.heap[k]? = w.heap[k]?):Src w' A n d:=
 ⟨h.1,fun hn=>by
  obtain⟨b,o,e,f,hc⟩:=h.2 hn;refine⟨b,o,e,Aj f hs,fun j u g=>?_⟩;have:=hb b (by rw[e];rfl) f
  exact(AY (w:=w) (a:=⟨b,o+j,none⟩) this).trans (hc j u g)⟩
theorem UR.heap{w w':Ad}{v:Ae}{l:List Nat}(h:UR w v l)(hs:w.heap.size<=w'.heap.size)(hb:∀ k,v.ownBlock=some k->k<w.heap.size->w'.heap[k]? = w.heap[k]?):UR w' v l:=by
 obtain⟨A,c,rfl,h1,r⟩:=h;exact⟨A,c,rfl,bKk h1 hs hb,r⟩
theorem BR.heap{w w':Ad}{v:Ae}{l:List Nat}(h:BR w v l)(hs:w.heap.size<=w'.heap.size)(hb:∀ k,v.ownBlock=some k->k<w.heap.size->w'.heap[k]? = w.heap[k]?):BR w' v l:=by
 obtain⟨A,c,rfl,h1,r⟩:=h;exact⟨A,c,rfl,bKk h1 hs hb,r⟩
theorem yX{base a:Nat}{b:List Ae}(k:w.ownsRow base e a v n b)(hb:∀ g,v.ownBlock=some g->g<w.heap.size->w'.heap[g]? = w.heap[g]?):w'.ownsRow base e a v n b:=by
 refine⟨k.1,?_⟩;rcases k.2 with h2 | ⟨g,cap,cur,h1,h2,hg,r⟩
 ·exact .inl h2
 ·refine .inr ⟨g,cap,cur,h1,h2,?_,r⟩;rw[hb g (by rw[h1];rfl) (Array.getElem?_eq_some_iff.1 hg).1];exact hg
theorem bKl(l:List Nat)(k n:Nat):(u64V l).set k (.int .u64 (n:Int))=u64V (l.set k n):=by
 unfold u64V;rw[List.map_set]
theorem cVr(h:All64 l)(k n:Nat)(hn:n<18446744073709551616):All64 (l.set k n):=fun x a=>by
 rcases AX a with h1 | h1
 ·exact h x h1
 ·omega
theorem pZ{b j:Nat}{u:Ae}(h:b≠g):(w.setCell ⟨g,j,none⟩ u).cell? ⟨b,i,none⟩=w.cell? ⟨b,i,none⟩:=AY (a:=⟨b,i,none⟩) (Aq _ _ _ _ h)
theorem dXe{w1 b:Ad}{r a:Option Nat}(h:w.grownBy w1 r)(k:w1.grownBy b a)(h1:a=r\/a=some w.heap.size):w.grownBy b r:=
 ⟨k.os.trans h.os,k.tape.trans h.tape,k.output.trans h.output,Aw h.size k.size,fun i hi hn=>by
  rw[k.block i (Aj hi h.size) (fun e=>?_),h.block i hi hn];rcases h1 with h1 | h1
  ·exact hn (e.trans h1)
  ·rw[h1]at e;injection e with e
   omega⟩
theorem wQ:(fZ.info? 50).map (fun i=>(i.zero,i.size,i.bytes))=some (some (.int .u64 0),1,8):=by kernel_rfl
theorem cQp{a:Nat}(h:a<18446744073709551616):bits .and .u64 (a:Int) 4294967295=((a % 4294967296:Nat):Int):=by
 rw[show(4294967295:Int)=((2 ^ 32 - 1:Nat):Int)from rfl,bits_and_u64_nat a (2 ^ 32 - 1) h (by decide)];exact congrArg Int.ofNat (Nat.and_two_pow_sub_one_eq_mod a 32)
theorem bZg{ks:List Int}{t:Int}(c:ks[k]? = some t)(d:l[k]? = some x):lowL (ks.take (k+1)) (l.take (k+1))=lowL (ks.take k) (l.take k) ++ [tZ t x]:=by
 induction k generalizing ks l with
 | zero=>
  match ks,l,c,d with
  | a :: ks,b :: l,c,d=>
   simp at c d;subst c;subst d;rfl
 | succ k e=>
  match ks,l,c,d with
  | a :: ks,b :: l,c,d=>
   simp only[List.getElem?_cons_succ]at c d;simp only[List.take_succ_cons,lowL,List.cons_append];rw[e c d]
def cVs(ks:List Int)(l:List Nat)(w:Ad)(a:Ending)(w':Ad):Prop:=∃ v,a = .returned v/\w'.ownsRow w.heap.size 50 1 v l.length (u64V (lowL ks l))/\Af w.heap.size w w'
theorem bWt(vk v:Ae)(ks:List Int)(l:List Nat)(w:Ad)(m:IR w vk ks)(r:UR w v l)(he:ks.length=l.length)(hz:l.length<=100000):Calls fZ 64 #[vk,v] w (cVs ks l w):=by
 obtain⟨A1,c1,rfl⟩:=m.shape;obtain⟨A2,c2,rfl⟩:=r.shape;have s:=fQ m;have I:=fQ r;obtain⟨n,hn⟩:=fX l.length;unfold cVs;rw[he]at s ⊢;rw[hn]at s I hz ⊢;have J:=fQ hn;have K:=fQ (show ks.length=n by omega);clear m r he hn;go_in;go_wp2_with fail;go_loopw [5,6] (fun v i wr=>∃ k:Nat,k<=n/\i = .int .i64 k/\Hid (wr.ownsRow w.heap.size 50 1 v k (u64V (lowL (ks.take k) (l.take k))))/\Hid (Af w.heap.size w wr)) (fun _ i _=>n - (intOf i).toNat)
 case atStart=>exact⟨0,by omega,rfl,fQ (World.ownsRow_nil _ _ _ _),fQ (AZ _ _)⟩
 case round=>
  obtain⟨k,m,rfl,iO,a⟩:=hrel;obtain⟨z,A,N,_⟩:=gZ iO.out;subst N;by_cases L:k<n
  ·have O:decide ((k:Int)<n)=true:=(by simp;omega);have t2:(k:Int)<n:=(by omega);obtain⟨t,p⟩:∃ t,ks[k]? = some t:=⟨_,Ax (by rw[K.out];exact L)⟩;obtain⟨x,q⟩:∃ x,l[k]? = some x:=⟨_,Ax (by rw[J.out];exact L)⟩;obtain⟨b,o,rfl,hb,hc⟩:=(s.out.below a.out (Ay _)).cell p;obtain⟨b2,o2,rfl,aq,ar,P⟩:=(I.out.below a.out (Ay _)).cell q;have M:=fQ (bZg p q);have hsz:=a.out.size;have fin:∀ y:Nat,tZ t x=y->∃ c:True,Hid ((wr.alloc (.cells #[.int .u64 (y:Int)] 50)).ownsRow w.heap.size 50 1 (.slice z k A) k (u64V (lowL (ks.take k) (l.take k))))/\Hid (Af w.heap.size w (wr.alloc (.cells #[.int .u64 (y:Int)] 50))):=fun y hy=>⟨trivial,fQ (jY iO.out _),fQ (a.out.alloc a.out.size _)⟩;by_cases d:t=127
   ·have Q:(t == 127)=true:=(by simp[d]);have ha:=cQp P;have e:=fQ (show tZ t x=x % 4294967296 by unfold tZ;rw[if_pos d]);obtain⟨_,f,B⟩:=fin _ e.out;clear p q d fin;go_wp2_with (at_builtin;refine kV _ rfl (.tmp 25) (.tmp 27) 30 rfl w.heap.size 50 (.int .u64 0) 1 8 underlying30 wQ rfl (by omega) (.slice z k A) k (u64V (lowL (ks.take k) (l.take k))) rfl f.out (some ⟨wr.heap.size,0,none⟩) 1 1 [.int .u64 ((x % 4294967296:Nat):Int)] rfl (Blk.eXm (cs:=#[.int .u64 ((x % 4294967296:Nat):Int)]) (Blk.newAt _ _ _ rfl) rfl) (fun u C=>by rw[List.mem_singleton.1 C];rfl) (by unfold maxLen;omega) (by omega) (by simp;omega) ?_);rintro D w' c g E _
    have h:w'.ownsRow w.heap.size 50 1 D (k+1) (u64V (lowL (ks.take (k+1)) (l.take (k+1)))):=by
     rw[M.out,e.out,aJq];exact c
    have F:=fQ h;have G:=fQ (jV B.out g (by simp;omega) (fun j H=>(f.out.lt j H).1));clear c h g E;go_wp2;exact⟨⟨k+1,by omega,by simp,F,G⟩,by simp[intOf];omega⟩
   ·have Q:(t == 127)=false:=(by simp[d]);have e:=fQ (show tZ t x=x by unfold tZ;rw[if_neg d]);obtain⟨_,f,B⟩:=fin _ e.out;clear p q d fin;go_wp2_with (at_builtin;refine kV _ rfl (.tmp 25) (.tmp 27) 30 rfl w.heap.size 50 (.int .u64 0) 1 8 underlying30 wQ rfl (by omega) (.slice z k A) k (u64V (lowL (ks.take k) (l.take k))) rfl f.out (some ⟨wr.heap.size,0,none⟩) 1 1 [.int .u64 (x:Int)] rfl (Blk.eXm (cs:=#[.int .u64 (x:Int)]) (Blk.newAt _ _ _ rfl) rfl) (fun u C=>by rw[List.mem_singleton.1 C];rfl) (by unfold maxLen;omega) (by omega) (by simp;omega) ?_);rintro D w' c g E _
    have h:w'.ownsRow w.heap.size 50 1 D (k+1) (u64V (lowL (ks.take (k+1)) (l.take (k+1)))):=by
     rw[M.out,e.out,aJq];exact c
    have F:=fQ h;have G:=fQ (jV B.out g (by simp;omega) (fun j H=>(f.out.lt j H).1));clear c h g E;go_wp2;exact⟨⟨k+1,by omega,by simp,F,G⟩,by simp[intOf];omega⟩
  ·have O:decide ((k:Int)<n)=false:=(by simp;omega);have R:n=k:=(by omega);subst R;have S:=fQ (show l.take n=l from Az (by rw[J.out];exact Ay _));have T:=fQ (show ks.take n=ks from Az (by rw[K.out];exact Ay _));go_wp2;go_ret;exact⟨_,rfl,by have:=iO.out;rw[S.out,T.out]at this;exact this,a.out⟩
def dVp(b:Bool)(w:Ad)(a:Ending)(w':Ad):Prop:=a = .returned (.bool b)/\∃ n,w'=w.drewN n
theorem cQq{y:Nat}(h:l.take k=m.take k)(a:l[k]? = some x)(b:m[k]? = some y):x=y->l.take (k+1)=m.take (k+1):=by
 intro e;subst e;obtain⟨h1,h2⟩:=List.getElem?_eq_some_iff.1 a;obtain⟨c,d⟩:=List.getElem?_eq_some_iff.1 b;rw[Av h1,Av c,h,h2,d]
theorem dXf{y:Nat}(b:l[k]? = some x)(a:m[k]? = some y)(h:x≠y):l≠m:=by
 intro e;subst e;rw[b]at a;injection a with a;exact h a
theorem aZd(v u:Ae)(l m:List Nat)(w:Ad)(h1:UR w v l)(h2:UR w u m):Calls fZ 12 #[v,u] w (dVp (decide (l=m)) w):=by
 obtain⟨A1,c1,rfl⟩:=h1.shape;obtain⟨A2,c2,rfl⟩:=h2.shape;have H1:=fQ h1;have j:=fQ h2;have B:=h1.len.2.2.2.2.1.1;have C:=h2.len.2.2.2.2.1.1;clear h1 h2;by_cases hlen:l.length=m.length
 ·obtain⟨n,hn⟩:=fX l.length;have d:m.length=n:=(by omega);have p:=fQ hn;have q:=fQ d;rw[hn]at H1 B ⊢;rw[d]at j C ⊢;have D:((n:Int) != (n:Int))=false:=(by simp);clear hn d hlen;go_in;go_wp2;go_loopw [5] (fun i wr=>∃ k:Nat,k<=n/\i = .int .i64 k/\Hid (l.take k=m.take k/\∃ z,wr=w.drewN z)) (fun i _=>n - (intOf i).toNat)
  case atStart=>exact⟨0,by omega,rfl,fQ ⟨by simp,0,rfl⟩⟩
  case round=>
   obtain⟨k,hk,rfl,IM⟩:=hrel;obtain⟨c,z,rfl⟩:=IM.out;clear IM;by_cases r:k<n
   ·have E:decide ((k:Int)<n)=true:=(by simp;omega);have t2:(k:Int)<n:=(by omega);obtain⟨x,f⟩:∃ x,l[k]? = some x:=⟨_,Ax (by rw[p.out];exact r)⟩;obtain⟨y,g⟩:∃ y,m[k]? = some y:=⟨_,Ax (by rw[q.out];exact r)⟩;obtain⟨b,o,rfl,hb,hc,_⟩:=H1.out.cell f;obtain⟨b2,o2,rfl,ak,al,_⟩:=j.out.cell g;have s:=fQ f;have t:=fQ g;have F:=fQ c;clear f g c;by_cases a:x=y
    ·have q1:((x:Int) != (y:Int))=false:=(by simp[a]);have h:=fQ a;clear a;go_wp2_with fail;go_quiet (fail);go_wp2;exact⟨⟨k+1,by omega,by simp,fQ ⟨cQq F.out s.out t.out h.out,_,rfl⟩⟩,by simp[intOf];omega⟩
    ·have q1:((x:Int) != (y:Int))=true:=(by simp;omega);have h:=fQ a;clear a;go_wp2_with fail;go_quiet (fail);go_wp2;go_ret;exact⟨by rw[decide_eq_false (dXf s.out t.out h.out)];rfl,z+nq,by simp[Ab];omega⟩
   ·have E:decide ((k:Int)<n)=false:=by simp;omega
    have A:l=m:=by
     rw[<-Az (l:=l) (i:=k) (by have:=p.out;omega),<-Az (l:=m) (i:=k) (by have:=q.out;omega),c]
    have G:=fQ A;clear A c;go_wp2;go_ret;exact⟨by rw[decide_eq_true G.out];rfl,_,rfl⟩
 ·have H:l≠m:=fun e=>hlen (by rw[e]);have D:((l.length:Int) != (m.length:Int))=true:=(by simp;omega);go_in;go_wp2;go_ret;exact⟨by rw[decide_eq_false H];rfl,0,rfl⟩
structure MaC where
 w0:Ad
 a:Ae
 b:Ae
 d:Ae
 f:Ae
 p:RowsD
 lost:Nat
 mb:Nat
 gv:Ae
structure MaS where
 s:StD
 lv:Ae
 iv:Ae
 mv:Ae
 cnt:Nat
 wmax:Nat
 wcur:Nat
 d:Nat
 e:Int
def MOwn(C:MaC)(x:MaS)(k:Nat):Prop:=k=C.mb\/C.gv.ownBlock=some k\/x.lv.ownBlock=some k\/x.iv.ownBlock=some k\/x.mv.ownBlock=some k
structure MK (C:MaC) (x x':MaS) (w w':Ad):Prop where
 os:w'.os=w.os
 tape:w'.tape=w.tape
 output:w'.output=w.output
 size:w.heap.size<=w'.heap.size
 keep:∀ k,k<w.heap.size->¬MOwn C x k->w'.heap[k]? = w.heap[k]? /\ ¬MOwn C x' k
theorem MK.trans{C:MaC}{x y z:MaS}{w1 a b:Ad}(h:MK C x y w1 a)(k:MK C y z a b):MK C x z w1 b:=
 ⟨k.os.trans h.os,k.tape.trans h.tape,k.output.trans h.output,Aw h.size k.size,fun i hi ho=>by
  have h1:=h.keep i hi ho;have h2:=k.keep i (Aj hi h.size) h1.2
  exact⟨h2.1.trans h1.1,h2.2⟩⟩
theorem MK.eXn{C:MaC}{x:MaS}(h:Af w.heap.size w w'):MK C x x w w':=⟨h.os,h.tape,h.output,h.size,fun k a ho=>⟨h.block k a,ho⟩⟩
theorem MK.to{C:MaC}{x x' y:MaS}(h:MK C x x' w w')(h1:y.lv=x'.lv)(h2:y.iv=x'.iv)(b:y.mv=x'.mv):MK C x y w w':=
 ⟨h.os,h.tape,h.output,h.size,fun k a ho=>⟨(h.keep k a ho).1,fun hn=>(h.keep k a ho).2 (by unfold MOwn at hn ⊢;rw[h1,h2,b]at hn;exact hn)⟩⟩
theorem MK.blk{C:MaC}{x x':MaS}(h:MK C x x' w w'){cs:Array Ae}(k:Blk w g e cs)(ho:¬MOwn C x g):Blk w' g e cs:=((h.keep g k.lt ho).1).trans k
theorem MK.eXl{C:MaC}{x y z:MaS}(h:MK C z x w0 w)(i:Nat)(u:Ae)(h1:y.lv=x.lv)(h2:y.iv=x.iv)(a:y.mv=x.mv):MK C z y w0 (w.setCell ⟨C.mb,i,none⟩ u):=by
 have hs:MK C x x w (w.setCell ⟨C.mb,i,none⟩ u):=⟨rfl,rfl,rfl,by simp[Ak],fun k hk ho=>⟨Aq _ _ _ _ (fun e=>ho (.inl e)),ho⟩⟩;exact(h.trans hs).to h1 h2 a
theorem MK.eXv{C:MaC}{x z:MaS}(h:MK C z x w0 w)(u:Ae)(hg:w0.heap.size<=g):MK C z x w0 (w.setCell ⟨g,i,none⟩ u):=
 ⟨h.os,h.tape,h.output,Aw h.size (by simp[Ak]),fun k a ho=>⟨(Aq _ _ _ _ (by show k≠g;omega)).trans (h.keep k a ho).1,(h.keep k a ho).2⟩⟩
theorem MK.below{C:MaC}{x z:MaS}(h:MK C z x w0 w)(hb:Af w.heap.size w w'):MK C z x w0 w':=h.trans (MK.eXn hb)
theorem MK.eXw{C:MaC}{x z:MaS}(h:MK C z x w0 w)(mv:Ae)(m:List Nat)(h1:∀ k,mv.ownBlock=some k->w0.heap.size<=k):MK C z { x with mv:=mv,s:={ x.s with mem:=m } } w0 (w.setCell ⟨C.mb,6,none⟩ mv):=
 ⟨h.os,h.tape,h.output,Aw h.size (by simp[Ak]),fun k b ho=>by
  have h2:=h.keep k b ho;refine⟨(Aq _ _ _ _ (fun e=>h2.2 (.inl e))).trans h2.1,?_⟩;rintro(a | a | a | a | a)
  ·exact h2.2 (.inl a)
  ·exact h2.2 (.inr (.inl a))
  ·exact h2.2 (.inr (.inr (.inl a)))
  ·exact h2.2 (.inr (.inr (.inr (.inl a))))
  ·have:=h1 k a;omega⟩
theorem MK.eZd{C:MaC}{x z:MaS}(h:MK C z x w0 w)(iv:Ae)(l:List Nat)(h1:∀ k,iv.ownBlock=some k->x.iv.ownBlock=some k):MK C z { x with iv:=iv,s:={ x.s with input:=l } } w0 (w.setCell ⟨C.mb,10,none⟩ iv):=
 ⟨h.os,h.tape,h.output,Aw h.size (by simp[Ak]),fun k b ho=>by
  have h2:=h.keep k b ho;refine⟨(Aq _ _ _ _ (fun e=>h2.2 (.inl e))).trans h2.1,?_⟩;rintro(a | a | a | a | a)
  ·exact h2.2 (.inl a)
  ·exact h2.2 (.inr (.inl a))
  ·exact h2.2 (.inr (.inr (.inl a)))
  ·exact h2.2 (.inr (.inr (.inr (.inl (h1 k a)))))
  ·exact h2.2 (.inr (.inr (.inr (.inr a))))⟩
theorem MK.eZe{C:MaC}{x z:MaS}(h:MK C z x w0 w)(lv:Ae)(l:List Nat)(hg:w.grownBy w' x.lv.ownBlock)(d:∀ k,lv.ownBlock=some k->x.lv.ownBlock=some k\/w.heap.size<=k):MK C z { x with lv:=lv,s:={ x.s with log:=l } } w0 (w'.setCell ⟨C.mb,11,none⟩ lv):=by
 refine⟨hg.os.trans h.os,hg.tape.trans h.tape,hg.output.trans h.output,Aw h.size (Aw hg.size (by simp[Ak])),fun k b ho=>?_⟩;have h2:=h.keep k b ho;have f:=Aj b h.size;have g:(w'.setCell ⟨C.mb,11,none⟩ lv).heap[k]? = w'.heap[k]?:=Aq _ _ _ _ (fun e=>h2.2 (.inl e));have e2:w'.heap[k]? = w.heap[k]?:=hg.block k f (fun e=>h2.2 (.inr (.inr (.inl e.symm))));refine⟨g.trans (e2.trans h2.1),?_⟩;rintro(a | a | a | a | a)
 ·exact h2.2 (.inl a)
 ·exact h2.2 (.inr (.inl a))
 ·rcases d k a with c | c
  ·exact h2.2 (.inr (.inr (.inl c)))
  ·omega
 ·exact h2.2 (.inr (.inr (.inr (.inl a))))
 ·exact h2.2 (.inr (.inr (.inr (.inr a))))
theorem MK.eZf{C:MaC}{x z:MaS}(h:MK C z x w0 w)(a:C.gv = .slice (some ⟨g,0,none⟩) n c)(k N:Nat)(u:Ae):MK C z { x with s:={ x.s with globals:=x.s.globals.set k N } } w0 (w.setCell ⟨g,k,none⟩ u):=
 ⟨h.os,h.tape,h.output,Aw h.size (by simp[Ak]),fun j b ho=>by
  have h2:=h.keep j b ho
  exact⟨(Aq _ _ _ _ (fun e=>h2.2 (.inr (.inl (by rw[a];show some g=some j;rw[show j=g from e]))))).trans h2.1,h2.2⟩⟩
theorem MK.grown{C:MaC}{x z:MaS}{r:Option Nat}(h:MK C z x w0 w)(hg:w.grownBy w' r)(b:∀ k,r=some k->w0.heap.size<=k):MK C z x w0 w':=
 ⟨hg.os.trans h.os,hg.tape.trans h.tape,hg.output.trans h.output,Aw h.size hg.size,fun k a ho=>by
  have h2:=h.keep k a ho
  exact⟨(hg.block k (Aj a h.size) (fun e=>by have:=b k e.symm;omega)).trans h2.1,h2.2⟩⟩
def mCells(C:MaC)(x:MaS):Array Ae:=#[C.a,.int .i64 C.p.env.imports,C.b,C.d,.bool C.p.env.mem,C.f,x.mv,.int .i64 x.s.most,C.gv,.int .i64 x.s.fuel,x.iv,x.lv,.int .i64 C.lost,.int .i64 x.cnt,.int .i64 x.wmax,.int .i64 x.wcur,.int .i64 x.d,.int .i64 x.e]
structure MRef (C:MaC) (x:MaS) (w:Ad):Prop where
 blk:Blk w C.mb 89 (mCells C x)
 mem:BR w x.mv x.s.mem
 inp:UR w x.iv x.s.input
 glo:w.ownsRow C.w0.heap.size 50 1 C.gv x.s.globals.length (u64V x.s.globals)
 log:w.ownsRow C.w0.heap.size 50 1 x.lv x.s.log.length (u64V x.s.log)
 bel:Af C.w0.heap.size C.w0 w
 mb:C.w0.heap.size<=C.mb
 gl:∀ k,C.gv.ownBlock=some k->x.lv.ownBlock≠some k/\x.iv.ownBlock≠some k/\x.mv.ownBlock≠some k
 ll:∀ k,x.lv.ownBlock=some k->x.iv.ownBlock≠some k/\x.mv.ownBlock≠some k
 ii:x.iv.ownBlock≠some C.mb
 mm:x.mv.ownBlock≠some C.mb
 il:∀ k,x.iv.ownBlock=some k->C.w0.heap.size<=k/\k<w.heap.size
 ml:∀ k,x.mv.ownBlock=some k->C.w0.heap.size<=k/\k<w.heap.size
 g64:All64 x.s.globals
 l64:All64 x.s.log
theorem MRef.heap{C:MaC}{x:MaS}{w w':Ad}(h:MRef C x w)(hs:w.heap.size<=w'.heap.size)(hb:∀ k,MOwn C x k->k<w.heap.size->w'.heap[k]? = w.heap[k]?)(b:Af C.w0.heap.size C.w0 w'):MRef C x w':=
 ⟨(hb C.mb (.inl rfl) h.blk.lt).trans h.blk,h.mem.heap hs (fun k a=>hb k (.inr (.inr (.inr (.inr a))))),h.inp.heap hs (fun k a=>hb k (.inr (.inr (.inr (.inl a))))),
  yX h.glo (fun k a=>hb k (.inr (.inl a))),yX h.log (fun k a=>hb k (.inr (.inr (.inl a)))),b,h.mb,h.gl,h.ll,h.ii,h.mm,(fun k a=>⟨(h.il k a).1,Aj (h.il k a).2 hs⟩),(fun k a=>⟨(h.ml k a).1,Aj (h.ml k a).2 hs⟩),h.g64,h.l64⟩
theorem MRef.below{C:MaC}{x:MaS}(h:MRef C x w)(hb:Af w.heap.size w w'):MRef C x w':=
 h.heap hb.size (fun k _ a=>hb.block k a) (h.bel.trans (hb.mono h.bel.size))
theorem MRef.drewN{C:MaC}{x:MaS}{w:Ad}(h:MRef C x w)(n:Nat):MRef C x (w.drewN n):=h.below (fK (AZ _ _) n)
theorem MRef.eXv{C:MaC}{x:MaS}(h:MRef C x w)(u:Ae)(hg:¬MOwn C x g)(a:C.w0.heap.size<=g):MRef C x (w.setCell ⟨g,i,none⟩ u):=
 h.heap (by simp[Ak]) (fun k b _=>Aq _ _ _ _ (fun e=>hg (by have:k=g:=e;rw[<-this];exact b))) (h.bel.setCell (p:=⟨g,i,none⟩) a _)
theorem MRef.eXl{C:MaC}{x y:MaS}(h:MRef C x w)(i:Nat)(u:Ae)(hc:(mCells C x).setIfInBounds i u=mCells C y)(h1:y.lv=x.lv)(h2:y.iv=x.iv)(b:y.mv=x.mv)(j:y.s.mem=x.s.mem)(l:y.s.input=x.s.input)(d:y.s.globals=x.s.globals)(f:y.s.log=x.s.log):MRef C y (w.setCell ⟨C.mb,i,none⟩ u):=by
 have g:∀ {k:Nat},k≠C.mb->(w.setCell ⟨C.mb,i,none⟩ u).heap[k]? = w.heap[k]?:=fun a=>Aq _ _ _ _ a;have c:w.heap.size<=(w.setCell ⟨C.mb,i,none⟩ u).heap.size:=(by simp[Ak]);have hb:=gQ h.blk i u;rw[hc]at hb;refine⟨hb,?_,?_,?_,?_,h.bel.setCell (p:=⟨C.mb,i,none⟩) h.mb _,h.mb,?_,?_,?_,?_,?_,?_,?_,?_⟩
 ·rw[b,j];exact h.mem.heap c (fun k a _=>g (fun e=>h.mm (e ▸ a)))
 ·rw[h2,l];exact h.inp.heap c (fun k a _=>g (fun e=>h.ii (e ▸ a)))
 ·rw[d];exact iQ h.glo (own_ne h.glo h.blk (by decide))
 ·rw[h1,f];exact iQ h.log (own_ne h.log h.blk (by decide))
 ·rw[h1,h2,b];exact h.gl
 ·rw[h1,h2,b];exact h.ll
 ·rw[h2];exact h.ii
 ·rw[b];exact h.mm
 ·rw[h2];exact fun k a=>⟨(h.il k a).1,Aj (h.il k a).2 c⟩
 ·rw[b];exact fun k a=>⟨(h.ml k a).1,Aj (h.ml k a).2 c⟩
 ·rw[d];exact h.g64
 ·rw[f];exact h.l64
theorem MRef.eXw{C:MaC}{x:MaS}(h:MRef C x w)(mv:Ae)(m:List Nat)(d:BR w mv m)(h1:∀ k,mv.ownBlock=some k->k≠C.mb/\C.gv.ownBlock≠some k/\x.lv.ownBlock≠some k)(h2:∀ k,mv.ownBlock=some k->C.w0.heap.size<=k/\k<w.heap.size):
  MRef C { x with mv:=mv,s:={ x.s with mem:=m } } (w.setCell ⟨C.mb,6,none⟩ mv):=by
 have c:∀ {k:Nat},k≠C.mb->(w.setCell ⟨C.mb,6,none⟩ mv).heap[k]? = w.heap[k]?:=fun a=>Aq _ _ _ _ a;have b:w.heap.size<=(w.setCell ⟨C.mb,6,none⟩ mv).heap.size:=(by simp[Ak]);have hb:=gQ h.blk 6 mv;refine⟨by simpa[mCells]using hb,d.heap b (fun k a _=>c (h1 k a).1),h.inp.heap b (fun k a _=>c (fun e=>h.ii (e ▸ a))),iQ h.glo (own_ne h.glo h.blk (by decide)),iQ h.log (own_ne h.log h.blk (by decide)),h.bel.setCell (p:=⟨C.mb,6,none⟩) h.mb _,h.mb,?_,?_,h.ii,?_,(fun k a=>⟨(h.il k a).1,Aj (h.il k a).2 b⟩),(fun k a=>⟨(h2 k a).1,Aj (h2 k a).2 b⟩),h.g64,h.l64⟩
 ·exact fun k a=>⟨(h.gl k a).1,(h.gl k a).2.1,fun hn=>(h1 k hn).2.1 a⟩
 ·exact fun k a=>⟨(h.ll k a).1,fun hn=>(h1 k hn).2.2 a⟩
 ·exact fun hn=>(h1 _ hn).1 rfl
theorem MRef.eZd{C:MaC}{x:MaS}(h:MRef C x w)(iv:Ae)(l:List Nat)(d:UR w iv l)(h1:∀ k,iv.ownBlock=some k->x.iv.ownBlock=some k):
  MRef C { x with iv:=iv,s:={ x.s with input:=l } } (w.setCell ⟨C.mb,10,none⟩ iv):=by
 have c:∀ {k:Nat},k≠C.mb->(w.setCell ⟨C.mb,10,none⟩ iv).heap[k]? = w.heap[k]?:=fun a=>Aq _ _ _ _ a;have b:w.heap.size<=(w.setCell ⟨C.mb,10,none⟩ iv).heap.size:=(by simp[Ak]);have hb:=gQ h.blk 10 iv;refine⟨by simpa[mCells]using hb,h.mem.heap b (fun k a _=>c (fun e=>h.mm (e ▸ a))),d.heap b (fun k a _=>c (fun e=>h.ii (e ▸ h1 k a))),iQ h.glo (own_ne h.glo h.blk (by decide)),iQ h.log (own_ne h.log h.blk (by decide)),h.bel.setCell (p:=⟨C.mb,10,none⟩) h.mb _,h.mb,?_,?_,?_,h.mm,(fun k a=>⟨(h.il k (h1 k a)).1,Aj (h.il k (h1 k a)).2 b⟩),(fun k a=>⟨(h.ml k a).1,Aj (h.ml k a).2 b⟩),h.g64,h.l64⟩
 ·exact fun k a=>⟨(h.gl k a).1,fun hn=>(h.gl k a).2.1 (h1 k hn),(h.gl k a).2.2⟩
 ·exact fun k a=>⟨fun hn=>(h.ll k a).1 (h1 k hn),(h.ll k a).2⟩
 ·exact fun hn=>h.ii (h1 _ hn)
theorem MRef.eZe{C:MaC}{x:MaS}(h:MRef C x w)(lv:Ae)(l:List Nat)(hg:w.grownBy w' x.lv.ownBlock)(ho:w'.ownsRow C.w0.heap.size 50 1 lv l.length (u64V l))(j:All64 l)(f:∀ k,lv.ownBlock=some k->x.lv.ownBlock=some k\/w.heap.size<=k):
  MRef C { x with lv:=lv,s:={ x.s with log:=l } } (w'.setCell ⟨C.mb,11,none⟩ lv):=by
 have old:∀ k,k<w.heap.size->x.lv.ownBlock≠some k->w'.heap[k]? = w.heap[k]?:=fun k a m=>hg.block k a (fun e=>m e.symm);have n:x.lv.ownBlock≠some C.mb:=own_ne h.log h.blk (by decide);have c:Blk w' C.mb 89 (mCells C x):=(old _ h.blk.lt n).trans h.blk;have g:w'.ownsRow C.w0.heap.size 50 1 C.gv x.s.globals.length (u64V x.s.globals):=yX h.glo (fun k a b=>old k b (h.gl k a).1);have o:BR w' x.mv x.s.mem:=h.mem.heap hg.size (fun k a b=>old k b (fun e=>(h.ll k e).2 a));have q:UR w' x.iv x.s.input:=h.inp.heap hg.size (fun k a b=>old k b (fun e=>(h.ll k e).1 a));have r:Af C.w0.heap.size C.w0 w':=h.bel.grown hg h.bel.size (fun k a=>(h.log.lt k a).1);have i:∀ {k:Nat},k≠C.mb->(w'.setCell ⟨C.mb,11,none⟩ lv).heap[k]? = w'.heap[k]?:=fun a=>Aq _ _ _ _ a;have d:w'.heap.size<=(w'.setCell ⟨C.mb,11,none⟩ lv).heap.size:=(by simp[Ak]);have hb:=gQ c 11 lv;have aj:∀ k,lv.ownBlock=some k->k≠C.mb:=fun k a e=>(own_ne ho c (by decide)) (e ▸ a);refine⟨by simpa[mCells]using hb,o.heap d (fun k a _=>i (fun e=>h.mm (e ▸ a))),q.heap d (fun k a _=>i (fun e=>h.ii (e ▸ a))),iQ g (own_ne g c (by decide)),iQ ho (own_ne ho c (by decide)),r.setCell (p:=⟨C.mb,11,none⟩) h.mb _,h.mb,?_,?_,h.ii,h.mm,(fun k a=>⟨(h.il k a).1,Aj (h.il k a).2 (Aw hg.size d)⟩),(fun k a=>⟨(h.ml k a).1,Aj (h.ml k a).2 (Aw hg.size d)⟩),h.g64,j⟩
 ·refine fun k a=>⟨fun hn=>?_,(h.gl k a).2⟩;rcases f k hn with h1 | h1
  ·exact(h.gl k a).1 h1
  ·have:=(h.glo.lt k a).2;omega
 ·refine fun k a=>⟨fun hn=>?_,fun hn=>?_⟩
  ·rcases f k a with h1 | h1
   ·exact(h.ll k h1).1 hn
   ·have:=(h.il k hn).2;omega
  ·rcases f k a with h1 | h1
   ·exact(h.ll k h1).2 hn
   ·have:=(h.ml k hn).2;omega
theorem MRef.eZf{C:MaC}{x:MaS}(h:MRef C x w)(d:C.gv = .slice (some ⟨g,0,none⟩) n c)(k N:Nat)(o:N<18446744073709551616):
  MRef C { x with s:={ x.s with globals:=x.s.globals.set k N } } (w.setCell ⟨g,k,none⟩ (.int .u64 (N:Int))):=by
 have f:C.gv.ownBlock=some g:=(by rw[d];rfl);have q:g≠C.mb:=fun e=>(own_ne h.glo h.blk (by decide)) (by rw[f,e]);have i:∀ {j:Nat},j≠g->(w.setCell ⟨g,k,none⟩ (.int .u64 (N:Int))).heap[j]? = w.heap[j]?:=fun r=>Aq _ _ _ _ r;have b:w.heap.size<=(w.setCell ⟨g,k,none⟩ (.int .u64 (N:Int))).heap.size:=(by simp[Ak]);have l:=h.gl g f;have m:=h.glo;rw[d]at m
 have t:n=x.s.globals.length:=by
  rcases m.2 with⟨h1,_⟩ | ⟨_,_,_,h1,_⟩
  ·cases h1
  ·injection h1
 subst t;refine⟨(i (fun e=>q e.symm)).trans h.blk,h.mem.heap b (fun j a _=>i (fun e=>l.2.2 (e ▸ a))),h.inp.heap b (fun j a _=>i (fun e=>l.2.1 (e ▸ a))),?_,iQ h.log l.1,h.bel.setCell (p:=⟨g,k,none⟩) (h.glo.lt g f).1 _,h.mb,h.gl,h.ll,h.ii,h.mm,(fun j a=>⟨(h.il j a).1,Aj (h.il j a).2 b⟩),(fun j a=>⟨(h.ml j a).1,Aj (h.ml j a).2 b⟩),cVr h.g64 k N o,h.l64⟩;rw[d];show(w.setCell ⟨g,k,none⟩ (.int .u64 (N:Int))).ownsRow C.w0.heap.size 50 1 (.slice (some ⟨g,0,none⟩) x.s.globals.length c) (x.s.globals.set k N).length (u64V (x.s.globals.set k N));rw[AK,<-bKl];exact(m.stored k (.int .u64 (N:Int))).1
theorem MRef.grown{C:MaC}{x:MaS}{w w':Ad}{r:Option Nat}(h:MRef C x w)(hg:w.grownBy w' r)(b:∀ k,r=some k->¬MOwn C x k/\C.w0.heap.size<=k):MRef C x w':=
 h.heap hg.size (fun k a c=>hg.block k c (fun e=>(b k e.symm).1 a)) (h.bel.grown hg h.bel.size (fun k a=>(b k a).2))
theorem MRef.live{C:MaC}{x:MaS}(h:MRef C x w)(a:MOwn C x k):k<w.heap.size:=by
 rcases a with rfl | h1 | h1 | h1 | h1
 ·exact h.blk.lt
 ·exact(h.glo.lt k h1).2
 ·exact(h.log.lt k h1).2
 ·exact(h.il k h1).2
 ·exact(h.ml k h1).2
theorem MRef.fresh{C:MaC}{x:MaS}(h:MRef C x w)(hk:w.heap.size<=k):¬MOwn C x k:=fun ho=>by have:=h.live ho;omega
theorem MRef.cell{C:MaC}{x:MaS}{w:Ad}(h:MRef C x w)(i:Nat):w.cell? ⟨C.mb,i,none⟩=(mCells C x)[i]?:=h.blk.cell i
end Go.Proofs.YtabibkpfgmolkaaGreat

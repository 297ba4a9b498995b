/- Lemmas for the claim, part 5. Conditions: none. -/
import Derived.Test.YtabibkpfgmolkaaGreatPk04
import Derived.Deep.RegionHeld
import Derived.Lib.TrailingZeros
import Derived.Test.YtabibkpfgmolkaaGreatChecked
set_option maxRecDepth 100000
set_option maxHeartbeats 16000000
set_option linter.unusedVariables false
set_option linter.unusedSimpArgs false
open Go.Lib renaming hid→fQ
open Go.Proofs.Tryz renaming prog→fZ
open Go.Proofs.Tryz
open Go.RowKit
open Nat renaming lt_of_lt_of_le→Aj,le_refl→Ax,le_trans→Ay,add_comm→Ai,mod_lt→Bj
open List renaming getElem?_eq_getElem→Aq,take_of_length_le→Ak,take_succ_eq_append_getElem→Aw,any_eq_true→AX,replicate→AZ,mem_or_eq_of_mem_set→AK,length_set→AW,getElem?_eq_none→AY,countP_mono_left→Aa,mem_of_getElem?→Ab,countP_cons→Ad,range→Ag,any_cons→Ah
open Go.RowKit.Below renaming heap_setCell→Az,refl→AQ
open Go.World renaming setCell→Av,cell?_of_block→Ac,drewN→Ae
open Bool renaming and_eq_true→AJ,or_eq_true→Af
open Int renaming toNat_natCast→AV
open Go renaming World→Bq,Value→Bx
open Go.RowKit renaming Below→Bz
namespace Go.Proofs.YtabibkpfgmolkaaGreat
variable {w w' w0:Bq}{i n k g p P fuel j x:Nat}{v:Bx}{l m:List Nat}{e:TypeId}{A:Option Addr}
def tW(n:Nat)(f:Nat->Bool):List Bool:=(Ag n).map f
theorem aKa(n:Nat)(f:Nat->Bool):(tW n f).length=n:=by simp[tW]
theorem aWr{f:Nat->Bool}(h:i<n):(tW n f)[i]? = some (f i):=by simp[tW,h]
theorem cXu{f g:Nat->Bool}(h:∀ i,i<n->f i=g i):tW n f=tW n g:=by
 unfold tW;exact List.map_congr_left fun i hi=>h i (List.mem_range.1 hi)
theorem dXp(n:Nat)(f:Nat->Bool)(j:Nat)(b:Bool):(tW n f).set j b=tW n (fun i=>if i=j then b else f i):=by
 apply List.ext_getElem?;intro i;by_cases hi:i<n
 ·rw[aWr hi];by_cases e:j=i
  ·subst e;rw[List.getElem?_set_self (by rw[aKa];exact hi),if_pos rfl]
  ·rw[List.getElem?_set_ne e,aWr hi,if_neg (fun h=>e h.symm)]
 ·rw[AY (by rw[AW,aKa];omega),AY (by rw[aKa];omega)]
theorem dXq(n:Nat)(b:Bool):AZ n b=tW n (fun _=>b):=by
 unfold tW;rw[List.map_const'];simp
theorem aWs{α:Type}{p q:α->Bool}:∀ {l:List α},(∀ x∈l,p x=true->q x=true)->(∃ x∈l,q x=true/\p x=false)->l.countP p<l.countP q
 | [],_,⟨x,b,_⟩=>by simp at b
 | a :: l,h,⟨x,b,h1,h2⟩=>by
  have hle:l.countP p<=l.countP q:=Aa fun y c=>h y (by simp[c]);rw[Ad,Ad];rcases List.mem_cons.1 b with e | b
  ·subst e;rw[h1,h2];simp;omega
  ·have ih:=aWs (l:=l) (fun y c=>h y (by simp[c])) ⟨x,b,h1,h2⟩;have ha:=h a (by simp);cases hp:p a
   ·simp
    split <;> omega
   ·rw[ha hp];simp;omega
def aWt(n:Nat)(g:Nat->Bool):Nat:=(Ag n).countP fun i=>!g i
theorem dVz{g:Nat->Bool}(hi:i<n)(h:g i=false):aWt n (fun j=>if j=i then true else g j)<aWt n g:=by
 refine aWs (fun x _ a=>?_) ⟨i,List.mem_range.2 hi,by simp[h],by simp⟩;by_cases e:x=i
 ·simp[e]at a
 ·simpa[e]using a
def cnt2(n P:Nat)(T:Nat->Nat->Bool):Nat:=(Ag (n*P)).countP fun q=>!T (q / P) (q % P)
def upd(T:Nat->Nat->Bool)(i:Nat)(f:Nat->Bool):Nat->Nat->Bool:=fun j=>if j=i then f else T j
theorem tZ(T:Nat->Nat->Bool)(i:Nat)(f:Nat->Bool):upd T i f i=f:=by simp[upd]
theorem sZ{T:Nat->Nat->Bool}{f:Nat->Bool}(h:j≠i):upd T i f j=T j:=by simp[upd,h]
theorem eXc{T:Nat->Nat->Bool}{f:Nat->Bool}(h:∀ p,p<P->T i p=true->f p=true):cnt2 n P (upd T i f)<=cnt2 n P T:=by
 refine Aa fun q hq a=>?_;by_cases e:q / P=i
 ·rw[e,tZ]at a;rw[e]
  have c:0<P:=by
   rcases Nat.eq_zero_or_pos P with b | b
   ·subst b;simp at hq
   ·exact b
  cases ht:T i (q % P)
  ·rfl
  ·rw[h _ (Bj _ c) ht]at a;simp at a
 ·rw[sZ e]at a;exact a
theorem eXd{T:Nat->Nat->Bool}{f:Nat->Bool}(h:∀ p,p<P->T i p=true->f p=true)(hi:i<n)(hp:p<P)(hd:f p≠T i p):cnt2 n P (upd T i f)<cnt2 n P T:=by
 have c:0<P:=by omega
 have hf:T i p=false/\f p=true:=by
  cases a:T i p
  ·rw[a]at hd;exact⟨rfl,by simpa using hd⟩
  ·exact absurd ((h p hp a).trans a.symm) hd
 have d:(i*P+p) / P=i:=(by rw[Ai,Nat.add_mul_div_right _ _ c,Nat.div_eq_of_lt hp];omega);have e2:(i*P+p) % P=p:=(by rw[Ai,Nat.add_mul_mod_self_right,Nat.mod_eq_of_lt hp])
 have g:i*P+p<n*P:=by
  have:=Nat.mul_le_mul_right P (show i+1<=n by omega);rw[Nat.add_mul]at this;omega
 refine aWs (fun q _ b=>?_) ⟨i*P+p,List.mem_range.2 g,by rw[d,e2,hf.1];rfl,by rw[d,e2,tZ,hf.2];rfl⟩;by_cases e:q / P=i
 ·rw[e,tZ]at b;rw[e];cases a:T i (q % P)
  ·rfl
  ·rw[h _ (Bj _ c) a]at b;simp at b
 ·rw[sZ e]at b;exact b
def GInv(r:RowD)(g:Nat->Bool):Prop:=∃ D,DoneL r D/\∀ i:Nat,i<r.code.length->(g i=true↔i∈D)
def sJ(g:Nat->Bool)(l:List Int):Bool:=l.any fun x=>!g x.toNat
theorem GInv.start(r:RowD):GInv r (fun _=>false):=⟨[],DoneL.nil r,fun i _=>by simp⟩
theorem GInv.gone{r:RowD}{g:Nat->Bool}(h:GInv r g)(hf:FlowOk r)(hs:sJ g (edges r i)=false):GInv r (fun j=>if j=i then true else g j):=by
 obtain⟨D,h1,h2⟩:=h;refine⟨D ++ [i],h1.push fun k a=>?_,fun j hj=>?_⟩
 ·obtain⟨k',e,b⟩:=hf.edges a;have c:k=k':=(by omega);subst c;refine(h2 k b).1 ?_;unfold sJ at hs;rw[List.any_eq_false]at hs;have:=hs _ a
  simpa using this
 ·rw[List.mem_append];show(if j=i then true else g j)=true↔_;by_cases e:j=i
  ·subst e;simp
  ·rw[if_neg e,h2 j hj];simp[e]
theorem GInv.done{r:RowD}{g:Nat->Bool}(h:GInv r g)(hf:FlowOk r)(b:∀ i,i<r.code.length->g i=false->sJ g (edges r i)=true):(∃ i,i<r.code.length/\g i=false)↔¬Ranked r:=by
 obtain⟨D,h1,h2⟩:=h;constructor
 ·rintro⟨i,hi,hg⟩;refine bXv (S:=fun i=>i<r.code.length/\g i=false) ⟨i,hi,hg⟩ fun j ⟨hj,c⟩=>?_;have:=b j hj c;unfold sJ at this;rw[AX]at this;obtain⟨x,a,d⟩:=this;obtain⟨k,e,f⟩:=hf.edges a;subst e;exact⟨k,a,f,by simpa using d⟩
 ·intro hr;refine Classical.byContradiction fun hn=>hr (h1.fXi fun i hi=>(h2 i hi).1 ?_);cases hg:g i
  ·exact absurd ⟨i,hi,hg⟩ hn
  ·rfl
def bh(l:List Int)(T:Nat->Nat->Bool)(p:Nat):Bool:=l.any fun x=>T x.toNat p
def Fv(c:CodeD)(i:Nat)(T:Nat->Nat->Bool)(p:Nat):Bool:=decide ((p:Int)∈c.args) || (bh (nextOf c i) T p && !decide ((p:Int)∈c.outs))
theorem eXe{l:List Int}{T T':Nat->Nat->Bool}(h:∀ j,T j p=true->T' j p=true)(a:bh l T p=true):bh l T' p=true:=by
 unfold bh at a ⊢;rw[AX]at a ⊢;obtain⟨x,b,h1⟩:=a;exact⟨x,b,h _ h1⟩
theorem cZn{c:CodeD}{T T':Nat->Nat->Bool}(h:∀ j,T j p=true->T' j p=true)(a:Fv c i T p=true):Fv c i T' p=true:=by
 unfold Fv at a ⊢;simp only[Af,AJ]at a ⊢;rcases a with a | ⟨a,h2⟩
 ·exact .inl a
 ·exact .inr ⟨eXe h a,h2⟩
theorem dWa{l:List Int}{T T':Nat->Nat->Bool}(h:∀ x∈l,T x.toNat p=T' x.toNat p):bh l T p=bh l T' p:=by
 unfold bh
 induction l with
 | nil=>rfl
 | cons a l b=>rw[Ah,Ah,h a (by simp),b (fun x c=>h x (by simp[c]))]
theorem dWb{r:RowD}(hf:FlowOk r){c:CodeD}(hc:r.code[i]? = some c){T T':Nat->Nat->Bool}(h:∀ j,j<r.code.length->T j p=T' j p):Fv c i T p=Fv c i T' p:=by
 unfold Fv;rw[dWa fun x a=>h _ (by have:=(hf.to i c hc).1 x a;omega)]
structure TInv (r:RowD) (P:Nat) (T:Nat->Nat->Bool):Prop where
 snd:∀ i p,i<r.code.length->p<P->T i p=true->Live r i p
 pre:∀ i c p,r.code[i]? = some c->p<P->T i p=true->Fv c i T p=true
theorem TInv.start(r:RowD)(P:Nat):TInv r P (fun _ _=>false):=⟨fun i p _ _ h=>(by cases h),fun i c p _ _ h=>by cases h⟩
theorem TInv.step{r:RowD}{P:Nat}{T:Nat->Nat->Bool}(h:TInv r P T)(hf:FlowOk r){i:Nat}{c:CodeD}(hc:r.code[i]? = some c):TInv r P (upd T i (Fv c i T)):=by
 have hi:=(List.getElem?_eq_some_iff.1 hc).1
 have mono:∀ p,p<P->∀ j,T j p=true->upd T i (Fv c i T) j p=true:=by
  intro p hp j a;by_cases e:j=i
  ·subst e;rw[tZ];exact h.pre j c p hc hp a
  ·rw[sZ e];exact a
 refine⟨fun j p hj hp a=>?_,fun j g p b hp a=>?_⟩
 ·by_cases e:j=i
  ·subst e;rw[tZ]at a;unfold Fv at a;simp only[Af,AJ,decide_eq_true_eq]at a;rcases a with a | ⟨a,l⟩
   ·exact .arg hc a
   ·unfold bh at a;rw[AX]at a;obtain⟨x,d,f⟩:=a;have hr:=(hf.to j c hc).1 x d;obtain⟨k,rfl⟩:∃ k:Nat,x=k:=⟨x.toNat,by omega⟩;rw[AV]at f;exact .step hc d (h.snd k p (by omega) hp f) (by simpa using l)
  ·rw[sZ e]at a;exact h.snd j p hj hp a
 ·by_cases e:j=i
  ·subst e;rw[tZ]at a;rw[hc]at b;injection b with b;subst b;exact cZn (mono p hp) a
  ·rw[sZ e]at a;exact cZn (mono p hp) (h.pre j g p b hp a)
theorem TInv.done{e:EnvD}{r:RowD}{T:Nat->Nat->Bool}(h:TInv r P T)(b:CheckP e r)(hP:r.places=P)(d:∀ i c p,r.code[i]? = some c->p<P->Fv c i T p=true->T i p=true):∀ i p,i<r.code.length->p<P->(T i p=true↔Live r i p):=by
 have hf:=b.fQl
 have key:∀ (i:Nat) (x:Int),Live r i x->T i x.toNat=true:=by
  intro i x a
  induction a with
  | arg hc f=>
   rename_i i c p;have hr:=Live.range b (.arg hc f);refine d i c p.toNat hc (by omega) ?_;unfold Fv;rw[show((p.toNat:Nat):Int)=p by omega,decide_eq_true f];rfl
  | step hc g a j l=>
   rename_i i k c p;have hr:=a.range b;refine d i c p.toNat hc (by omega) ?_;unfold Fv bh;rw[show((p.toNat:Nat):Int)=p by omega,decide_eq_false j]
   have:((nextOf c i).any fun x=>T x.toNat p.toNat)=true:=by
    rw[AX];exact⟨_,g,by simpa using l⟩
   rw[this];simp
 intro i p hi hp;refine⟨h.snd i p hi hp,fun a=>?_⟩;have:=key i p a
 simpa using this
theorem eXf{e:EnvD}{r:RowD}{T:Nat->Nat->Bool}(b:CheckP e r)(d:∀ i p,i<r.code.length->p<P->(T i p=true↔Live r i p)){c:CodeD}(hc:r.code[i]? = some c)(hp:p<P):bh (nextOf c i) T p=true↔LiveB r i p:=by
 unfold bh;rw[AX];constructor
 ·rintro⟨x,f,h⟩;have hr:=(b.fQl.to i c hc).1 x f;obtain⟨k,rfl⟩:∃ k:Nat,x=k:=⟨x.toNat,by omega⟩;rw[AV]at h;exact⟨c,hc,k,f,(d k p (by omega) hp).1 h⟩
 ·rintro⟨c',a,k,g,j⟩;rw[hc]at a;injection a with a;subst a;have hr:=(b.fQl.to i c hc).1 _ g;exact⟨_,g,by rw[AV];exact(d k p (by omega) hp).2 j⟩
theorem bKl{m:Nat}{l:List Int}(h:kK m l=true):l.length<=m:=by
 unfold kK at h;simp only[AJ,decide_eq_true_eq]at h;exact h.1
theorem aZp{s:SigD}(h:sigOk s=true):s.inn.length<=8/\s.out.length<=8:=by
 unfold sigOk at h;simp only[AJ]at h;exact⟨bKl h.1,bKl h.2⟩
theorem dVk(op:Int):(gJ op).length<=2:=by
 unfold gJ
 split <;> (try split) <;> simp
theorem aXy{e:EnvD}{s:SigD}{op:Int}{i o:List Int}(he:envOk e=true)(hs:sigOk s=true)(h:iX e s op n=some (i,o)):i.length<=8/\o.length<=8:=by
 have h1:=aZp hs;unfold iX at h
 split at h
 ·simp at h;obtain⟨rfl,rfl⟩:=h;simp
 split at h
 ·split at h <;> simp at h;obtain⟨rfl,rfl⟩:=h;simp
 split at h
 ·split at h <;> simp at h;obtain⟨rfl,rfl⟩:=h;simp
 split at h
 ·split at h <;> simp at h;obtain⟨rfl,rfl⟩:=h;simp
 split at h
 ·split at h <;> simp at h;obtain⟨rfl,rfl⟩:=h;exact⟨h1.2,by simp⟩
 split at h
 ·split at h <;> simp at h;obtain⟨rfl,rfl⟩:=h;simp
 split at h
 ·obtain⟨g,hg,h2⟩:=Option.map_eq_some_iff.1 h;injection h2 with h2 a;subst h2;subst a;unfold envOk at he;simp only[AJ,List.all_eq_true]at he;exact aZp (he.2.2 g (Ab hg))
 split at h
 ·obtain⟨g,hg,h2⟩:=Option.map_eq_some_iff.1 h;injection h2 with h2 a;subst h2;subst a;simp
 split at h
 ·split at h
  ·simp at h;obtain⟨rfl,rfl⟩:=h;simp
  ·cases h
 split at h
 ·split at h <;> simp at h
  obtain⟨rfl,rfl⟩:=h;have:=dVk op;exact⟨by omega,by simp⟩
 ·unfold nZ at h
  split at h
  ·cases h
  split at h
  ·split at h <;> simp at h;obtain⟨rfl,rfl⟩:=h;simp
  split at h
  ·split at h
   ·simp at h
    split at h <;> (injection h with h2 a;subst h2;subst a;simp)
   ·cases h
  ·split at h
   ·split at h <;> simp at h;obtain⟨rfl,rfl⟩:=h;simp
   split at h
   ·split at h <;> simp at h;obtain⟨rfl,rfl⟩:=h;simp
   ·cases h
section
variable {P:Program} {ops:Array Oper} {Q:Exit->Act->Bq->Prop} {md:Region.Mode} {S1 S2:Bq->Prop} {ap:Nat}
def SD(S1 S2:Bq->Prop)(ap:Nat)(listed:Array Bool)(w:Bq):Prop:=S1 w/\(listed.getD ap false=false->S2 w)
theorem SD.of_same{l l':Array Bool}(h:SD S1 S2 ap l w)(he:l'.getD ap false=l.getD ap false):SD S1 S2 ap l' w:=⟨h.1,fun e=>h.2 (he ▸ e)⟩
theorem SD.after{l:Array Bool}(h:S1 w)(he:l.getD ap false=true):SD S1 S2 ap l w:=⟨h,fun e=>by rw[he]at e;cases e⟩
def qQ(P:Program)(md:Region.Mode)(ops:Array Oper)(Q:Exit->Act->Bq->Prop)(S1 S2:Bq->Prop)(ap:Nat):Nat->Array Bool->Act->Bq->Prop
 | 0,listed,a,w=>Region.ready md ops listed = []/\Q .normal a w
 | fuel+1,listed,a,w=>
  (Region.ready md ops listed = []->Q .normal a w) /\
  ∀ i∈Region.ready md ops listed,wpOp P ops Q i (fun b w'=>SD S1 S2 ap (listed.setIfInBounds i true) w'/\qQ P md ops Q S1 S2 ap fuel (listed.setIfInBounds i true) b w') a w
theorem bZx:∀ (fuel:Nat) (listed:Array Bool) (a:Act) (w:Bq),qQ P md ops Q S1 S2 ap fuel listed a w->wpAny P md ops Q fuel listed a w
 | 0,_,_,_,h=>h
 | fuel+1,_,_,_,h=>⟨h.1,fun i hi=>wpOp_mono (fun b w' c=>bZx fuel _ b w' c.2) (h.2 i hi)⟩
def waits(md:Region.Mode)(ops:Array Oper)(ap i:Nat):Bool:=match ops[ap]? with
 | some o=>o.after.any fun e=>Region.binds md e && e.on == i
 | none=>false
theorem aYi{f:Oper}{v:Bx}{u:Bq->Prop}{edge:Prop}(hi:ops[i]? = some f)(y:∀ (j:Nat) (o:Oper) cs b,ops[j]? = some o->o.op ≠ .select cs b)
  (G:∀ c a w,Q (.panic c) (a.put f.dst v) w->Q (.panic c) a w) (I:i≠ap) (hedge:edge->waits md ops ap i=true)
  (z:∀ l w,(edge->l.getD ap false=false)->SD S1 S2 ap l w->u w) :
  ∀ (fuel:Nat) (listed:Array Bool) (a:Act) (w:Bq),
   (∀ j g,ops[j]? = some g->j≠i->listed.getD j true=false->(∀ e∈g.after,Region.binds md e=true->e.on≠i)->f.apart ops g=true) ->
   i∈Region.ready md ops listed->(edge->listed.getD ap false=false)->YieldsIf P ops u f v a->SD S1 S2 ap listed w ->
   qQ P md ops Q S1 S2 ap fuel (listed.setIfInBounds i true) (a.put f.dst v) w->qQ P md ops Q S1 S2 ap (fuel+1) listed a w:=by
 have same:∀ (l:Array Bool),(l.setIfInBounds i true).getD ap false=l.getD ap false:=fun l=>getD_set_ne false I;intro fuel
 induction fuel with
 | zero=>
  intro listed a w _ hr p q m H;refine⟨fun h=>(by rw[h]at hr;cases hr),fun j hj=>?_⟩;by_cases d:j=i
  ·subst d;exact q.wpOp hi (z _ _ p m) ⟨m.of_same (same _),H⟩
  ·have:=ready_mono hj d;rw[H.1]at this;cases this
 | succ fuel J=>
  intro listed a w hfree hr p q m H;refine⟨fun h=>(by rw[h]at hr;cases hr),fun j hj=>?_⟩;by_cases d:j=i
  ·subst d;exact q.wpOp hi (z _ _ p m) ⟨m.of_same (same _),H⟩
  ·have h1:=H.2 j (ready_mono hj d);obtain⟨A,g,r,K⟩:=mem_ready.1 hj
   have B:∀ e∈g.after,Region.binds md e=true->e.on≠i:=fun e he n heq=>by
    have h1:=K e he n;have C:=(mem_ready.1 hr).1;rw[heq]at h1;rcases Nat.lt_or_ge i listed.size with s | s
    ·simp[s]at C h1;rw[C]at h1;cases h1
    ·simp[Array.getElem?_eq_none s]at h1
   have h2:=wpOp_putIf r (hfree j g r d A B) (fun cs b=>y i f cs b hi) (fun cs b=>y j g cs b r) G q h1
   have L:∀ k ok,ops[k]? = some ok->k≠i->(listed.setIfInBounds j true).getD k true=false ->
     (∀ e∈ok.after,Region.binds md e=true->e.on≠i)->f.apart ops ok=true:=fun k ok M N D O=>by
    refine hfree k ok M N ?_ O;by_cases E:j=k
    ·subst E;exact A
    ·rw[getD_set_ne true E]at D;exact D
   have R:edge->(listed.setIfInBounds j true).getD ap false=false:=fun he=>by
    have S:j≠ap:=fun e=>by
     subst e;have t:=hedge he;unfold waits at t;rw[r]at t;obtain⟨x,T,n⟩:=Array.any_eq_true'.1 t;simp only[AJ,beq_iff_eq]at n;exact B x T n.1 n.2
    rw[getD_set_ne false S];exact p he
   refine wpOp_mono (fun U w' V=>?_) h2;obtain⟨W,X,Y⟩:=V;have F:SD S1 S2 ap (listed.setIfInBounds j true) w':=X.of_same (by rw[Array.setIfInBounds_comm _ _ (Ne.symm d)];exact(same _).symm);refine⟨F,J (listed.setIfInBounds j true) U w' L (ready_mono hr (Ne.symm d)) R W F ?_⟩;rw[Array.setIfInBounds_comm _ _ d];exact Y
theorem gX{l:List Oper}{b:Oper}{v:Bx}{fuel:Nat}{listed:Array Bool}{a:Act}{w:Bq}(hi:l[i]? = some b)
  (hs:Region.noSelect l.toArray=true) (hf:Region.free md l.toArray listed i=true) (hr:(Region.ready md l.toArray listed).contains i=true)
  (g:∀ c a w,Q (.panic c) (a.put b.dst v) w->Q (.panic c) a w) (j:(i != ap)=true) (k:YieldsIf P l.toArray S1 b v a) (d:SD S1 S2 ap listed w)
  (h:SD S1 S2 ap (listed.setIfInBounds i true) w->qQ P md l.toArray Q S1 S2 ap fuel (listed.setIfInBounds i true) (a.put b.dst v) w):qQ P md l.toArray Q S1 S2 ap (fuel+1) listed a w:=
 have e:i≠ap:=(by simpa using j);have f:l.toArray[i]? = some b:=(by simpa using hi)
 aYi (edge:=False) f (Region.noSelect_spec hs) g e (fun h=>h.elim) (fun _ _ _ h=>h.1) fuel listed a w (Region.free_spec f hf) (by simpa using hr) (fun h=>h.elim) k d (h (d.of_same (getD_set_ne false e)))
theorem wtk(i:Nat){l:List Oper}{b:Oper}{v:Bx}{listed:Array Bool}{a d:Act}(e:SD S1 S2 ap listed w)(h:SD S1 S2 ap (listed.setIfInBounds i true) w->qQ P md l.toArray Q S1 S2 ap fuel (listed.setIfInBounds i true) d w)
  (hi:l[i]? = some b:=by rfl) (hs:Region.noSelect l.toArray=true:=by kernel_rfl) (hf:Region.free md l.toArray listed i=true:=by kernel_rfl) (hr:(Region.ready md l.toArray listed).contains i=true:=by kernel_rfl)
  (f:∀ c a w,Q (.panic c) (a.put b.dst v) w->Q (.panic c) a w:=by exact fun _ _ _ h=>h) (g:(i != ap)=true:=by rfl) (j:Region.wanted b (yielded l.toArray a.tmps)=true:=by rfl)
  (k:∀ w,S1 w->(execOp a.eval b).run P w = .ok (.value v) w:=by(intro w m;(try dsimp only at m);go_simp;(try with_reducible rfl)))
  (ha:a.put b.dst v=d:=by((try simp only[Act.put,List.setIfInBounds_toArray,List.set_cons_zero,List.set_cons_succ]);(try rfl))):qQ P md l.toArray Q S1 S2 ap (fuel+1) listed a w:=
 gX hi hs hf hr f g (Or.inl ⟨j,k⟩) e (fun n=>ha ▸ h n)
theorem uW{l:List Oper}{b:Oper}{v:Bx}{fuel:Nat}{listed:Array Bool}{a:Act}{w:Bq}(hi:l[i]? = some b)
  (hs:Region.noSelect l.toArray=true) (hf:Region.free md l.toArray listed i=true) (hr:(Region.ready md l.toArray listed).contains i=true)
  (g:∀ c a w,Q (.panic c) (a.put b.dst v) w->Q (.panic c) a w) (j:(i != ap)=true) (k:waits md l.toArray ap i=true) (m:listed.getD ap false=false)
  (n:YieldsIf P l.toArray (fun w=>S1 w/\S2 w) b v a) (d:SD S1 S2 ap listed w)
  (h:SD S1 S2 ap (listed.setIfInBounds i true) w->qQ P md l.toArray Q S1 S2 ap fuel (listed.setIfInBounds i true) (a.put b.dst v) w):qQ P md l.toArray Q S1 S2 ap (fuel+1) listed a w:=
 have e:i≠ap:=(by simpa using j);have f:l.toArray[i]? = some b:=(by simpa using hi)
 aYi (edge:=True) f (Region.noSelect_spec hs) g e (fun _=>k) (fun _ _ h1 h=>⟨h.1,h.2 (h1 trivial)⟩) fuel listed a w (Region.free_spec f hf) (by simpa using hr) (fun _=>m) n d (h (d.of_same (getD_set_ne false e)))
theorem jK{l:List Oper}{o:Oper}{fuel:Nat}{listed:Array Bool}{a:Act}{w:Bq}(hr:Region.ready md l.toArray listed = [i])(d:l[i]? = some o)
  (h:∀ b:Act->Bq->Prop,Shut (∀ a w,SD S1 S2 ap (listed.setIfInBounds i true) w->(SD S1 S2 ap (listed.setIfInBounds i true) w->qQ P md l.toArray Q S1 S2 ap fuel (listed.setIfInBounds i true) a w)->b a w)->if Region.wanted o (yielded l.toArray a.tmps)=true then Oper.wp P o a w b Q else b (a.put o.dst undef) w) :
  qQ P md l.toArray Q S1 S2 ap (fuel+1) listed a w:=
 ⟨fun c=>(by rw[hr]at c;cases c),fun j hj=>by
  rw[hr]at hj;have:=List.mem_singleton.1 hj;subst this
  exact wpOp_step (by simpa using d) (fun b e=>h b (fun a w h1 h2=>e a w ⟨h1,h2 h1⟩))⟩
theorem kX{l:List Oper}{listed:Array Bool}{a:Act}(hr:Region.ready md l.toArray listed = [])(h:Q .normal a w):∀ fuel,qQ P md l.toArray Q S1 S2 ap fuel listed a w
 | 0=>⟨hr,h⟩
 | _+1=>⟨fun _=>h,by rw[hr];simp⟩
theorem lZ{l:List Oper}{id:Nat}{a:Act}(S1 S2:Bq->Prop)(ap:Nat)(b:P.follows .mixedOrders=true)(h1:S1 w.drew)(h2:S2 w.drew)
  (h:SD S1 S2 ap (Array.replicate l.length false) w.drew->qQ P .any l.toArray Q S1 S2 ap l.length (Array.replicate l.length false) a w.drew):(Code.region id l.toArray true).wp P Q a w:=
 wp_region_any b (bZx _ _ _ _ (by
  have c:=h ⟨h1,fun _=>h2⟩;rw[List.size_toArray]
  exact c))
end
structure RowsD where
 env:EnvD
 fns:List RowD
def RowsV(w:Bq)(v:Bx)(p:RowsD):Prop:=∃ a b d f,v = .agg #[a,.int .i64 p.env.imports,b,d,.bool p.env.mem,f]/\Structs 2 SigC w a p.env.sigs/\Ints w b p.env.globals/\Bools w d p.env.muts/\Structs 5 RowC w f p.fns
theorem RowsV.below{w w':Bq}{B:Nat}{r:Bx}{p:RowsD}(h:RowsV w r p)(c:Bz B w w')(g:w.heap.size<=B):RowsV w' r p:=by
 obtain⟨a,b,d,f,e,h1,h2,i,j⟩:=h;exact⟨a,b,d,f,e,h1.below c g (fun r x q=>q.below c g),h2.below c g,i.below c g,j.below c g (fun r x q=>q.below c g)⟩
theorem RowsV.env{w:Bq}{a b d f:Bx}{x:Int}{m:Bool}{p:RowsD}(h:RowsV w (.agg #[a,.int .i64 x,b,d,.bool m,f]) p):EnvV w (.agg #[a,.int .i64 p.env.imports,b,d,.bool p.env.mem]) p.env:=by
 obtain⟨a',b',d',f',e,h1,h2,c,h4⟩:=h;injection e with e;injection e with e;simp only[List.cons.injEq,and_true]at e;obtain⟨rfl,_,rfl,rfl,_,rfl⟩:=e;exact⟨a,b,d,rfl,h1,h2,c⟩
theorem Structs.row{c:Nat}{l:List RowD}(h:Structs 5 RowC w (.slice A n c) l){x:RowD}(a:l[k]? = some x):
  ∃ b o p q r s,A=some ⟨b,o,none⟩/\b<w.heap.size/\w.cell? ⟨b,o+k*5,none⟩=some p/\w.cell? ⟨b,o+k*5+1,none⟩=some q/\w.cell? ⟨b,o+k*5+2,none⟩=some (.int .i64 x.places)/\w.cell? ⟨b,o+k*5+3,none⟩=some r/\w.cell? ⟨b,o+k*5+4,none⟩=some s /\
   Ints w p x.sig.inn/\Ints w q x.sig.out/\Ints w r x.params/\Structs 5 CodeC w s x.code:=by
 obtain⟨b,o,c',rr,e,d,hr,⟨p,q,r,s,rfl,h1,h2,f,g⟩,hc⟩:=h.at (by omega) a;injection e with i e2 e3;exact⟨b,o,p,q,r,s,i,d,hc 0 _ rfl,hc 1 _ rfl,hc 2 _ rfl,hc 3 _ rfl,hc 4 _ rfl,h1,h2,f,g⟩
theorem RowV.of{p q r s:Bx}{x:RowD}(h1:Ints w p x.sig.inn)(h2:Ints w q x.sig.out)(a:Ints w r x.params)(b:Structs 5 CodeC w s x.code):RowV w (.agg #[p,q,.int .i64 x.places,r,s]) x:=⟨p,q,r,s,rfl,h1,h2,a,b⟩
theorem bZu(w:Bq)(a b:Obj):Bz w.heap.size w ((w.alloc a).alloc b):=((AQ _ _).alloc (Ax _) _).alloc (by simp) _
theorem aYz{a b:Bx}(k:Blk w g e #[a,b]):w.cell? ⟨g,0,none⟩=some a/\w.cell? ⟨g,1,none⟩=some b:=⟨by simpa using k.cell 0,by simpa using k.cell 1⟩
theorem aJq{a b c d f h:Bx}(k:Blk w g e #[a,b,c,d,f,h]):
  w.cell? ⟨g,0,none⟩=some a/\w.cell? ⟨g,1,none⟩=some b/\w.cell? ⟨g,2,none⟩=some c/\w.cell? ⟨g,3,none⟩=some d/\w.cell? ⟨g,4,none⟩=some f/\w.cell? ⟨g,5,none⟩=some h:=
 ⟨by simpa using k.cell 0,by simpa using k.cell 1,by simpa using k.cell 2,by simpa using k.cell 3,by simpa using k.cell 4,by simpa using k.cell 5⟩
structure ProgP (p:RowsD):Prop where
 env:envOk p.env=true
 len:(p.fns.length:Int)+p.env.imports=p.env.sigs.length
 row:∀ (i:Nat) r,p.fns[i]? = some r->CheckP p.env r/\p.env.sigs[p.env.imports.toNat+i]? = some r.sig
theorem lV{e:EnvD}(h:envOk e=true):e.sigs.length<=64/\0<=e.imports/\e.imports<=e.sigs.length:=by
 unfold envOk at h;simp only[AJ,decide_eq_true_eq]at h;exact⟨h.1.1,h.1.2.1,h.1.2.2.1⟩
def dKc(b:Bool)(w:Bq)(a:Ending)(w':Bq):Prop:=a = .returned (.bool b)/\∃ n,w'=w.drewN n
theorem bZv{l m:List Int}{x y:Int}(h:l.take k=m.take k)(a:l[k]? = some x)(b:m[k]? = some y):x=y->l.take (k+1)=m.take (k+1):=by
 intro e;subst e;obtain⟨h1,h2⟩:=List.getElem?_eq_some_iff.1 a;obtain⟨c,d⟩:=List.getElem?_eq_some_iff.1 b;rw[Aw h1,Aw c,h,h2,d]
theorem cZy{l m:List Int}{x y:Int}(b:l[k]? = some x)(a:m[k]? = some y)(h:x≠y):l≠m:=by
 intro e;subst e;rw[b]at a;injection a with a;exact h a
theorem bVj(v u:Bx)(l m:List Int)(w:Bq)(h1:Ints w v l)(h2:Ints w u m):Calls fZ 49 #[v,u] w (dKc (decide (l=m)) w):=by
 obtain⟨A1,c1,rfl⟩:=h1.shape;obtain⟨A2,c2,rfl⟩:=h2.shape;have H1:=fQ h1.ir;have j:=fQ h2.ir;have B:=h1.fQb.2.2.1;have C:=h2.fQb.2.2.1;clear h1 h2;by_cases hlen:l.length=m.length
 ·obtain⟨n,hn⟩:=fX l.length;have d:m.length=n:=(by omega);have p:=fQ hn;have q:=fQ d;rw[hn]at H1 B ⊢;rw[d]at j C ⊢;have D:((n:Int) != (n:Int))=false:=(by simp);clear hn d hlen;go_in;go_wp2;go_loopw [13] (fun i wr=>∃ k:Nat,k<=n/\i = .int .i64 k/\Hid (l.take k=m.take k/\∃ z,wr=w.drewN z)) (fun i _=>n - (intOf i).toNat)
  case atStart=>exact⟨0,by omega,rfl,fQ ⟨by simp,0,rfl⟩⟩
  case round=>
   obtain⟨k,hk,rfl,IM⟩:=hrel;obtain⟨c,z,rfl⟩:=IM.out;clear IM;by_cases r:k<n
   ·have E:decide ((k:Int)<n)=true:=(by simp;omega);have t2:(k:Int)<n:=(by omega);obtain⟨x,f⟩:∃ x,l[k]? = some x:=⟨_,Aq (by rw[p.out];exact r)⟩;obtain⟨y,g⟩:∃ y,m[k]? = some y:=⟨_,Aq (by rw[q.out];exact r)⟩;obtain⟨b,o,rfl,hb,hc⟩:=H1.out.cell f;obtain⟨b2,o2,rfl,ak,al⟩:=j.out.cell g;have s:=fQ f;have t:=fQ g;have F:=fQ c;clear f g c;by_cases a:x=y
    ·have q1:(x != y)=false:=(by simpa using a);have h:=fQ a;clear a;go_wp2_with fail;go_quiet (fail);go_wp2;exact⟨⟨k+1,by omega,by simp,fQ ⟨bZv F.out s.out t.out h.out,_,rfl⟩⟩,by simp[intOf];omega⟩
    ·have q1:(x != y)=true:=(by simpa using a);have h:=fQ a;clear a;go_wp2_with fail;go_quiet (fail);go_wp2;go_ret;exact⟨by rw[decide_eq_false (cZy s.out t.out h.out)];rfl,z+nq,by simp[Ae];omega⟩
   ·have E:decide ((k:Int)<n)=false:=by simp;omega
    have A:l=m:=by
     rw[<-Ak (l:=l) (i:=k) (by have:=p.out;omega),<-Ak (l:=m) (i:=k) (by have:=q.out;omega),c]
    have G:=fQ A;clear A c;go_wp2;go_ret;exact⟨by rw[decide_eq_true G.out];rfl,_,rfl⟩
 ·have H:l≠m:=fun e=>hlen (by rw[e]);have D:((l.length:Int) != (m.length:Int))=true:=(by simp;omega);go_in;go_wp2;go_ret;exact⟨by rw[decide_eq_false H];rfl,0,rfl⟩
theorem bVk(v u:Bx)(l m:List Int)(w:Bq)(h1:Ints w v l)(h2:Ints w u m):Calls fZ 43 #[v,u] w (dKc (decide (l=m)) w):=by
 obtain⟨A1,c1,rfl⟩:=h1.shape;obtain⟨A2,c2,rfl⟩:=h2.shape;have H1:=fQ h1.ir;have j:=fQ h2.ir;have B:=h1.fQb.2.2.1;have C:=h2.fQb.2.2.1;clear h1 h2;by_cases hlen:l.length=m.length
 ·obtain⟨n,hn⟩:=fX l.length;have d:m.length=n:=(by omega);have p:=fQ hn;have q:=fQ d;rw[hn]at H1 B ⊢;rw[d]at j C ⊢;have D:((n:Int) != (n:Int))=false:=(by simp);clear hn d hlen;go_in;go_wp2;go_loopw [5] (fun i wr=>∃ k:Nat,k<=n/\i = .int .i64 k/\Hid (l.take k=m.take k/\∃ z,wr=w.drewN z)) (fun i _=>n - (intOf i).toNat)
  case atStart=>exact⟨0,by omega,rfl,fQ ⟨by simp,0,rfl⟩⟩
  case round=>
   obtain⟨k,hk,rfl,IM⟩:=hrel;obtain⟨c,z,rfl⟩:=IM.out;clear IM;by_cases r:k<n
   ·have E:decide ((k:Int)<n)=true:=(by simp;omega);have t2:(k:Int)<n:=(by omega);obtain⟨x,f⟩:∃ x,l[k]? = some x:=⟨_,Aq (by rw[p.out];exact r)⟩;obtain⟨y,g⟩:∃ y,m[k]? = some y:=⟨_,Aq (by rw[q.out];exact r)⟩;obtain⟨b,o,rfl,hb,hc⟩:=H1.out.cell f;obtain⟨b2,o2,rfl,ak,al⟩:=j.out.cell g;have s:=fQ f;have t:=fQ g;have F:=fQ c;clear f g c;by_cases a:x=y
    ·have q1:(x != y)=false:=(by simpa using a);have h:=fQ a;clear a;go_wp2_with fail;go_quiet (fail);go_wp2;exact⟨⟨k+1,by omega,by simp,fQ ⟨bZv F.out s.out t.out h.out,_,rfl⟩⟩,by simp[intOf];omega⟩
    ·have q1:(x != y)=true:=(by simpa using a);have h:=fQ a;clear a;go_wp2_with fail;go_quiet (fail);go_wp2;go_ret;exact⟨by rw[decide_eq_false (cZy s.out t.out h.out)];rfl,z+nq,by simp[Ae];omega⟩
   ·have E:decide ((k:Int)<n)=false:=by simp;omega
    have A:l=m:=by
     rw[<-Ak (l:=l) (i:=k) (by have:=p.out;omega),<-Ak (l:=m) (i:=k) (by have:=q.out;omega),c]
    have G:=fQ A;clear A c;go_wp2;go_ret;exact⟨by rw[decide_eq_true G.out];rfl,_,rfl⟩
 ·have H:l≠m:=fun e=>hlen (by rw[e]);have D:((l.length:Int) != (m.length:Int))=true:=(by simp;omega);go_in;go_wp2;go_ret;exact⟨by rw[decide_eq_false H];rfl,0,rfl⟩
def bZw(s t:SigD):Bool:=decide (s.inn=t.inn) && decide (s.out=t.out)
theorem bVl{s t:SigD}:bZw s t=true↔s=t:=by
 cases s;cases t;simp[bZw]
theorem cXz(a b c d:Bx)(s t:SigD)(w:Bq)(ha:Ints w a s.inn)(g:Ints w b s.out)(hc:Ints w c t.inn)(hd:Ints w d t.out):Calls fZ 19 #[.agg #[a,b],.agg #[c,d]] w fun f w'=>f = .returned (.bool (bZw s t))/\Bz w.heap.size w w':=by
 have e:=fQ (bZu w (.cells #[a,b] 40) (.cells #[c,d] 40));have h1:=fQ (ha.below e.out (Ax _));have h2:=fQ (g.below e.out (Ax _));have k:=fQ (hc.below e.out (Ax _));have l:=fQ (hd.below e.out (Ax _));have h:=Blk.alloc (Blk.new w 40 #[a,b]) (.cells #[c,d] 40);have i:=Blk.newAt (w.alloc (.cells #[a,b] 40)) (N:=w.heap.size+1) 40 #[c,d] (by simp);unfold bZw;clear ha g hc hd;go_in;go_wp2_with fail;refine(bVk _ _ _ _ _ h1.out k.out).mono ?_;rintro f w1 ⟨rfl,z,rfl⟩;have j:=fQ (fK e.out z);cases hq:decide (s.inn=t.inn)
 ·go_wp2;go_ret;exact⟨by rw[hq];rfl,j.out⟩
 ·obtain⟨e0,e1⟩:=aYz (Blk.drewN h z);obtain⟨f0,f1⟩:=aYz (Blk.drewN i z);have y1:=Blk.lt (Blk.drewN h z);have y2:=Blk.lt (Blk.drewN i z);go_wp2_with fail;refine(bVk _ _ _ _ _ (h2.out.below (fK (AQ _ _) z) (Ax _)) (l.out.below (fK (AQ _ _) z) (Ax _))).mono ?_;rintro f w2 ⟨rfl,m,rfl⟩;have ab:=fQ (fK j.out m);go_wp2;go_ret;exact⟨by rw[hq];rfl,fK e.out _⟩
def dKd(p:RowsD)(w:Bq)(a:Ending)(w':Bq):Prop:=∃ b:Bool,a = .returned (.bool b)/\(b=true↔ProgP p)/\Bz w.heap.size w w'
def LrInv(p:RowsD)(M:Nat)(w1:Bq)(k:Nat)(wr:Bq):Prop:=Bz w1.heap.size w1 wr/\∀ (j:Nat) r,j<k->p.fns[j]? = some r->CheckP p.env r/\p.env.sigs[M+j]? = some r.sig
theorem LrInv.step{p:RowsD}{M:Nat}{w1 wr:Bq}{r:RowD}{s:SigD}(h:LrInv p M w1 k wr)(hr:p.fns[k]? = some r)(hs:p.env.sigs[M+k]? = some s)(h1:s.inn=r.sig.inn)(h2:s.out=r.sig.out)(hc:CheckP p.env r)(c:Bz wr.heap.size wr w'):LrInv p M w1 (k+1) w':=by
 refine⟨h.1.trans (c.mono h.1.size),fun j q hj hq=>?_⟩;rcases Nat.lt_succ_iff_lt_or_eq.1 hj with hj | rfl
 ·exact h.2 j q hj hq
 ·rw[hr]at hq;injection hq with hq;subst hq;refine⟨hc,?_⟩;rw[hs];obtain⟨a,b⟩:=s;have h1:a=r.sig.inn:=h1;have h2:b=r.sig.out:=h2;subst h1;subst h2;rfl
theorem cVg(p:RowsD)(v:Bx)(w:Bq)(hv:RowsV w v p):Calls fZ 28 #[v] w (dKd p w):=by
 obtain⟨a,b,d,f,rfl,h1,h2,h3,h4⟩:=hv;have az:=fQ (show EnvV w (.agg #[a,.int .i64 p.env.imports,b,d,.bool p.env.mem]) p.env from⟨a,b,d,rfl,h1,h2,h3⟩);obtain⟨sA,sc,rfl,_,aY,_⟩:=h1.len;obtain⟨fA,fc,rfl,_,aJ,_⟩:=h4.len;have aA:=fQ h1;have aB:=fQ h4;have al:=fQ ((AQ w.heap.size w).alloc (Ax _) (.cells #[.slice sA p.env.sigs.length sc,.int .i64 p.env.imports,b,d,.bool p.env.mem,.slice fA p.fns.length fc] 29));have K0:=fQ (Blk.new w 29 #[.slice sA p.env.sigs.length sc,.int .i64 p.env.imports,b,d,.bool p.env.mem,.slice fA p.fns.length fc]);clear h1 h2 h3 h4;go_in;go_wp2_with fail;refine(aJf _ p.env _ (az.out.below al.out (Ax _))).mono ?_;rintro en w1 ⟨rfl,an⟩;have o:=fQ (al.out.trans (an.mono al.out.size));have KP:=fQ (K0.out.below an K0.out.lt);clear an;cases E:envOk p.env
 ·go_wp2_with fail;go_ret;exact⟨false,rfl,⟨fun h=>(by cases h),fun h=>(by have:=h.env;rw[E]at this;cases this)⟩,o.out⟩
 have aK:=lV E;obtain⟨M,hM⟩:∃ M:Nat,p.env.imports=(M:Int):=⟨p.env.imports.toNat,by omega⟩;obtain⟨n,hn⟩:=fX p.fns.length;obtain⟨L,hL⟩:=fX p.env.sigs.length;obtain⟨S,hS⟩:=fX (n+M);have aL:=fQ E;have q:=fQ hM;have F:=fQ hn;have G:=fQ hL;have C:=fQ hS;have aM:M<=64:=(by omega);have aN:L<=64:=(by omega);rw[hn]at aJ;have aO:IntKind.i64.wrap ((n:Int)+(M:Int))=(S:Int):=(by rw[show(n:Int)+(M:Int)=(S:Int) by omega];exact IntWalk.i64_in _ (by omega));obtain⟨e0,l,e2,t,u,m⟩:=aJq KP.out;rw[hM]at l ⊢;rw[hL]at e0 aA ⊢;rw[hn]at m aB ⊢;have y1:=KP.out.lt;have aC:=fQ (show ∀ w',Bz w1.heap.size w1 w'->_/\_/\_/\_/\_/\_ from fun w' x=>⟨(x.cell (p:=⟨w.heap.size,_,none⟩) y1).trans e0,(x.cell (p:=⟨w.heap.size,_,none⟩) y1).trans l,(x.cell (p:=⟨w.heap.size,_,none⟩) y1).trans e2,(x.cell (p:=⟨w.heap.size,_,none⟩) y1).trans t,(x.cell (p:=⟨w.heap.size,_,none⟩) y1).trans u,(x.cell (p:=⟨w.heap.size,_,none⟩) y1).trans m⟩);clear E aK hM hn hL hS;by_cases aP:S=L
 ·subst aP;have q0:((S:Int) != (S:Int))=false:=(by simp);go_wp2_with fail;go_loopw [27] (fun i wr=>∃ k:Nat,k<=n/\i = .int .i64 k/\Hid (LrInv p M w1 k wr)) (fun i _=>n - (intOf i).toNat)
  case atStart=>exact⟨0,by omega,rfl,fQ ⟨AQ _ _,fun j r hj=>by omega⟩⟩
  case round=>
   clear e0 l e2 t u m q0 aO;obtain⟨k,hk,rfl,e⟩:=hrel;by_cases aQ:k<n
   ·as_aux_lemma=>
    have t1:decide ((k:Int)<n)=true:=(by simp;omega);have t2:(k:Int)<n:=(by omega);obtain⟨r,hr⟩:∃ r,p.fns[k]? = some r:=⟨_,Aq (by rw[F.out];exact aQ)⟩;obtain⟨X,hX⟩:=fX (M+k);obtain⟨s,hs⟩:∃ s,p.env.sigs[X]? = some s:=⟨_,Aq (by have:=C.out;have:=G.out;omega)⟩;have H:=fQ hr;have ao:=fQ (show p.env.sigs[M+k]? = some s from hX ▸ hs);have aZ:IntKind.i64.wrap ((M:Int)+(k:Int))=(X:Int):=(by rw[show(M:Int)+(k:Int)=(X:Int) by omega];exact IntWalk.i64_in _ (by have:=C.out;omega));have t3:(X:Int)<S:=(by have:=C.out;omega);have c:=o.out.trans (e.out.1.mono o.out.size);have g:=fQ c;obtain⟨y,fo,x0,x1,x3,x4,rfl,A,g0,g1,g2,g3,g4,I,J,i3,i4⟩:=aB.out.row hr;obtain⟨sb,so,u0,u1,rfl,aq,g5,g6,i5,i6⟩:=aA.out.sig hs;replace g0:=(c.cell (p:=⟨y,_,none⟩) A).trans g0;replace g1:=(c.cell (p:=⟨y,_,none⟩) A).trans g1;replace g2:=(c.cell (p:=⟨y,_,none⟩) A).trans g2;replace g3:=(c.cell (p:=⟨y,_,none⟩) A).trans g3;replace g4:=(c.cell (p:=⟨y,_,none⟩) A).trans g4;replace g5:=(c.cell (p:=⟨sb,_,none⟩) aq).trans g5;replace g6:=(c.cell (p:=⟨sb,_,none⟩) aq).trans g6;have z1:y<wr.heap.size:=(by have:=c.size;omega);have z2:sb<wr.heap.size:=(by have:=c.size;omega);obtain⟨A0,K,rfl⟩:=I.shape;obtain⟨O,c1,rfl⟩:=J.shape;obtain⟨P,Q,rfl⟩:=i3.shape;obtain⟨R,T,rfl,_⟩:=i4.len;obtain⟨B0,U,rfl⟩:=i5.shape;obtain⟨V,W,rfl⟩:=i6.shape;have aR:=fQ (I.below c (Ax _));have aS:=fQ (J.below c (Ax _));have aT:=fQ (i5.below c (Ax _));have aU:=fQ (i6.below c (Ax _));have aV:=fQ ((RowV.of I J i3 i4).below c (Ax _));obtain⟨e0,l,e2,t,u,m⟩:=aC.out _ e.out.1;have y2:w.heap.size<wr.heap.size:=Aj y1 e.out.1.size;have ar:=fQ (bZu wr (.cells #[.slice A0 r.sig.inn.length K,.slice O r.sig.out.length c1,.int .i64 r.places,.slice P r.params.length Q,.slice R r.code.length T] 43) (.cells #[.slice B0 s.inn.length U,.slice V s.out.length W] 40));have KR:=fQ (Blk.alloc (Blk.new wr 43 #[.slice A0 r.sig.inn.length K,.slice O r.sig.out.length c1,.int .i64 r.places,.slice P r.params.length Q,.slice R r.code.length T]) (.cells #[.slice B0 s.inn.length U,.slice V s.out.length W] 40));have KS:=fQ (Blk.newAt (wr.alloc (.cells #[.slice A0 r.sig.inn.length K,.slice O r.sig.out.length c1,.int .i64 r.places,.slice P r.params.length Q,.slice R r.code.length T] 43)) (N:=wr.heap.size+1) 40 #[.slice B0 s.inn.length U,.slice V s.out.length W] (by simp));clear hr hs hX c I J i3 i4 i5 i6 A aq;go_wp2_with fail;refine(bVj _ _ _ _ _ (aT.out.below ar.out (Ax _)) (aR.out.below ar.out (Ax _))).mono ?_;rintro en Y ⟨rfl,z,au⟩;have D:=fQ (show Bz wr.heap.size wr Y from au ▸ fK ar.out z);have av:=(show Bz (((wr.alloc (.cells #[.slice A0 r.sig.inn.length K,.slice O r.sig.out.length c1,.int .i64 r.places,.slice P r.params.length Q,.slice R r.code.length T] 43)).alloc (.cells #[.slice B0 s.inn.length U,.slice V s.out.length W] 40)).heap.size) _ Y from au ▸ fK (AQ _ _) z);have Z:=fQ (KR.out.below av KR.out.lt);have aD:=fQ (KS.out.below av KS.out.lt)
    clear av au;clear g0 g1 g2 g3 g4 g5 g6;cases aw:decide (s.inn=r.sig.inn)
    ·go_wp2_with fail;go_ret;refine⟨false,rfl,⟨fun h=>(by cases h),fun h=>?_⟩,g.out.trans (D.out.mono g.out.size)⟩;have h1:=(h.row k r H.out).2;rw[show p.env.imports.toNat=M by rw[q.out];rfl,ao.out]at h1;injection h1 with h1;rw[h1]at aw;simp at aw
    ·have aW:=fQ (of_decide_eq_true aw);obtain⟨v0,v1⟩:=aYz aD.out;obtain⟨r0,r1,r2,r3,r4⟩:=gQ Z.out;have y3:=Blk.lt aD.out;have y4:=Blk.lt Z.out;go_wp2_with fail;refine(bVj _ _ _ _ _ (aU.out.below D.out (Ax _)) (aS.out.below D.out (Ax _))).mono ?_;rintro en w3 ⟨rfl,z2,aE⟩;have ax:=(show Bz Y.heap.size Y w3 from aE ▸ fK (AQ _ _) z2);have B:=fQ (D.out.trans (ax.mono D.out.size));have aF:=fQ (Z.out.below ax Z.out.lt);clear aE ax;clear v0 v1 r0 r1 r2 r3 r4 y3 y4;cases ay:decide (s.out=r.sig.out)
     ·go_wp2_with fail;go_ret;refine⟨false,rfl,⟨fun h=>(by cases h),fun h=>?_⟩,g.out.trans (B.out.mono g.out.size)⟩;have h1:=(h.row k r H.out).2;rw[show p.env.imports.toNat=M by rw[q.out];rfl,ao.out]at h1;injection h1 with h1;rw[h1]at ay;simp at ay
     ·have aX:=fQ (of_decide_eq_true ay);obtain⟨r0,r1,r2,r3,r4⟩:=gQ aF.out;have y4:=Blk.lt aF.out;clear e0 l e2 t u m;obtain⟨e0,l,e2,t,u,m⟩:=aC.out _ (e.out.1.trans (B.out.mono e.out.1.size));go_wp2_with fail;refine(aWq p.env r _ _ _ ?_ (aV.out.below B.out (Ax _))).mono ?_
      ·have:=(az.out.below (g.out.trans (B.out.mono g.out.size)) (Ax _));rw[q.out,G.out]at this;exact this
      rintro en w4 ⟨bb,rfl,aG,hb⟩;have aH:=fQ (B.out.trans (hb.mono B.out.size));have aI:=fQ aG;clear aG hb r0 r1 r2 r3 r4 y4 e0 l e2 t u m;cases bb
      ·go_wp2_with fail;go_ret;refine⟨false,rfl,⟨fun h=>(by cases h),fun h=>?_⟩,g.out.trans (aH.out.mono g.out.size)⟩;exact aI.out.2 (h.row k r H.out).1
      ·go_wp2_with fail;exact⟨⟨k+1,by omega,by simp,fQ (e.out.step H.out ao.out aW.out aX.out (aI.out.1 trivial) aH.out)⟩,by simp[intOf];omega⟩
   ·as_aux_lemma=>
    have t1:decide ((k:Int)<n)=false:=(by simp;omega);go_wp2_with fail;go_ret;refine⟨true,rfl,⟨fun _=>⟨aL.out,?_,fun i r hi=>?_⟩,fun _=>rfl⟩,o.out.trans (e.out.1.mono o.out.size)⟩
    ·have:=q.out;have:=F.out;have:=G.out;have:=C.out;omega
    ·rw[show p.env.imports.toNat=M by rw[q.out];rfl];exact e.out.2 i r (by have:=(List.getElem?_eq_some_iff.1 hi).1;have:=F.out;omega) hi
 ·have q0:((S:Int) != (L:Int))=true:=(by simp;omega);go_wp2_with fail;go_ret;refine⟨false,rfl,⟨fun h=>(by cases h),fun h=>?_⟩,o.out⟩;have:=h.len;have:=q.out;have:=F.out;have:=G.out;have:=C.out;omega
section
variable {H:Type} {enc:TypeId×Bx->H} {w:Bq}
theorem aXr:qX enc fZ w 23 (fun w cs (l:List Int)=>∃ v,cs = [v]/\Ints w v l):=cJg underlying23 underlying3 (by kernel_rfl) (by kernel_rfl)
theorem dVm:qX enc fZ w 24 (fun w cs (l:List Bool)=>∃ v,cs = [v]/\Bools w v l):=cQz underlying24 underlying4 (by kernel_rfl) (show 1<=fZ.bytesOf 4 by decide +kernel)
theorem c1:fZ.cellsOf 23=1:=by kernel_rfl
theorem dQv:qX enc fZ w 40 SigC:=by
 intro fuel cs x h c;obtain⟨e,v0,e0,i0⟩:=kZ underlying40 h c 0 0 1 23 rfl aXr rfl rfl c1;obtain⟨f,v1,d,g⟩:=kZ underlying40 h c 1 1 1 23 rfl aXr rfl rfl c1;obtain⟨_,_,_,_,i,_,_⟩:=DataW.trod_struct underlying40 h;have j:cs.length=2:=i.trans (by kernel_rfl)
 match cs,j with
 | [a,b],_=>
  simp at e0 d;subst e0;subst d;exact⟨⟨e,f⟩,_,_,rfl,i0,g⟩
theorem eXa:qX enc fZ w 22 (fun w cs (l:List SigD)=>∃ v,cs = [v]/\Structs 2 SigC w v l):=by
 intro fuel cs x h a;obtain⟨l,v,e,hs,_⟩:=uY (enc:=enc) (w:=w) underlying22 (show fZ.cellsOf 40=2 by kernel_rfl) (by omega) (show 1<=fZ.bytesOf 40 by decide +kernel) dQv fuel cs x h a;exact⟨l,v,e,hs⟩
theorem aKs:qX enc fZ w 3 (fun _ cs (a:Int)=>cs = [.int .i64 a]/\(Lit.int .i64 a).wf=true):=aJt underlying3
theorem eJv:qX enc fZ w 50 (fun _ cs (a:Int)=>cs = [.int .u64 a]/\(Lit.int .u64 a).wf=true):=aJt underlying50
theorem dVn:qX enc fZ w 4 (fun _ cs (a:Bool)=>cs = [.bool a]):=bXp underlying4
theorem ci:fZ.cellsOf 3=1:=by kernel_rfl
theorem cu:fZ.cellsOf 50=1:=by kernel_rfl
theorem cb:fZ.cellsOf 4=1:=by kernel_rfl
theorem cbs:fZ.cellsOf 24=1:=by kernel_rfl
theorem cgs:fZ.cellsOf 22=1:=by kernel_rfl
theorem cg:fZ.cellsOf 40=2:=by kernel_rfl
theorem ccs:fZ.cellsOf 41=1:=by kernel_rfl
theorem eJw:qX enc fZ w 26 eYj:=by
 intro fuel cs x h e;obtain⟨k,v0,e0,i0⟩:=kZ underlying26 h e 0 0 1 22 rfl eXa rfl rfl cgs;obtain⟨l,g,i1⟩:=kZ underlying26 h e 1 1 1 3 rfl aKs rfl rfl ci;obtain⟨m,v2,e2,n⟩:=kZ underlying26 h e 2 2 1 23 rfl aXr rfl rfl c1;obtain⟨o,v3,i,p⟩:=kZ underlying26 h e 3 3 1 24 rfl dVm rfl rfl cbs;obtain⟨q,j⟩:=kZ underlying26 h e 4 4 1 4 rfl dVn rfl rfl cb;obtain⟨_,_,_,_,r,_,_⟩:=DataW.trod_struct underlying26 h;have s:cs.length=5:=r.trans (by kernel_rfl)
 match cs,s with
 | [a,b,c,d,f],_=>
  simp at e0 g e2 i j;subst e0;subst g;subst e2;subst i;subst j;exact⟨⟨k,l,m,o,q⟩,_,_,_,rfl,i0,n,p⟩
theorem eXb:qX enc fZ w 52 CodeC:=by
 intro fuel cs x h e;obtain⟨l,e0,i0⟩:=kZ underlying52 h e 0 0 1 3 rfl aKs rfl rfl ci;obtain⟨g,i,m⟩:=kZ underlying52 h e 1 1 1 50 rfl eJv rfl rfl cu;obtain⟨o,v2,e2,p⟩:=kZ underlying52 h e 2 2 1 23 rfl aXr rfl rfl c1;obtain⟨q,v3,j,r⟩:=kZ underlying52 h e 3 3 1 23 rfl aXr rfl rfl c1;obtain⟨s,v4,k,t⟩:=kZ underlying52 h e 4 4 1 23 rfl aXr rfl rfl c1;obtain⟨_,_,_,_,u,_,_⟩:=DataW.trod_struct underlying52 h;have v:cs.length=5:=u.trans (by kernel_rfl)
 match cs,v with
 | [a,b,c,d,f],_=>
  simp at e0 i e2 j k;subst e0;subst i;subst e2;subst j;subst k;have y:=bXo i0;have h1:=bXn m;obtain⟨n,rfl⟩:∃ n:Nat,g=n:=⟨g.toNat,by omega⟩;exact⟨⟨l,n,o,q,s⟩,_,_,_,rfl,⟨by show n<_;omega,y⟩,p,r,t⟩
theorem dVo:qX enc fZ w 41 (fun w cs (l:List CodeD)=>∃ v,cs = [v]/\Structs 5 CodeC w v l):=by
 intro fuel cs x h a;obtain⟨l,v,e,hs,_⟩:=uY (enc:=enc) (w:=w) underlying41 (show fZ.cellsOf 52=5 by kernel_rfl) (by omega) (show 1<=fZ.bytesOf 52 by decide +kernel) eXb fuel cs x h a;exact⟨l,v,e,hs⟩
theorem eJx:qX enc fZ w 43 RowC:=by
 intro fuel cs x h e;obtain⟨j,e0⟩:=kZ underlying43 h e 0 0 2 40 rfl dQv rfl rfl cg;obtain⟨k,g,i1⟩:=kZ underlying43 h e 1 2 1 3 rfl aKs rfl rfl ci;obtain⟨l,v2,e2,m⟩:=kZ underlying43 h e 2 3 1 23 rfl aXr rfl rfl c1;obtain⟨n,v3,i,o⟩:=kZ underlying43 h e 3 4 1 41 rfl dVo rfl rfl ccs;obtain⟨_,_,_,_,p,_,_⟩:=DataW.trod_struct underlying43 h;have q:cs.length=5:=p.trans (by kernel_rfl)
 match cs,q with
 | [a,b,c,d,f],_=>
  simp at e0 g e2 i;obtain⟨x0,x1,x2,x3,x4⟩:=e0;subst g;subst e2;subst i;simp at x2;obtain⟨rfl,rfl⟩:=x2;exact⟨⟨j,k,l,n⟩,_,_,_,_,rfl,x3,x4,m,o⟩
end
theorem small_of{H:Type}{P:Program}{ts:List TypeId}{a:List (DataW H)}(h:(DataW.weightsEach P ts a).all (· <= reachBytes)=true){t:TypeId}{d:DataW H}(b:ts[j]? = some t)(hd:a[j]? = some d):aVf P t d:=fun n hn=>by
 have:=List.all_eq_true.1 h n (DataW.weights_mem_each (j:=j) b hd n hn)
 simpa using this
section
variable {H:Type} {enc:TypeId×Bx->H} {w:Bq}
theorem dQw{r:Reach}{b:Nat}{t:TypeId}{fs:Array Field}(c:fZ.underlying t=some (.struct fs))(a:Value.okWide fZ w r b t v):∃ cs,v = .agg cs:=by
 simp only[Value.okWide,c]at a;obtain⟨cs,rfl,_⟩:=a;exact⟨cs,rfl⟩
end
def wJ(n addr a:Nat):Bool:=decide (addr<=1099511627776) && (decide (a<=1099511627776) && decide (addr+a<=n))
def vK(n:Nat)(wd:Int)(addr off:Nat):Int×Int:=
 if 4294967295<addr\/4294967295<off then(0,1)else if wJ n (addr+off) wd.toNat then((addr+off:Nat),0)else(0,35)
def sxV(a:Nat)(q:Int):Int:=IntKind.u64.wrap (wrap64 (IntKind.u64.wrap (q*2 ^ (64 - 8*a))) / 2 ^ (64 - 8*a))
def aWx(k q:Int):Int:=if k=127 then q % 4294967296 else q
def aQo(k:Int)(a:Nat)(b:Bool)(q:Int):Int:=aWx k (if b then sxV a q else q)
def leN:List Nat->Nat
 | []=>0
 | b :: l=>b+256*leN l
theorem bZk:∀ l:List Nat,AllB l->leN l<256 ^ l.length
 | [],_=>by simp[leN]
 | b :: l,h=>by
  have h1:=bZk l (fun x a=>h x (List.mem_cons_of_mem _ a));have h2:=h b (List.mem_cons_self ..);simp only[leN,List.length_cons,Nat.pow_succ];omega
def qZ(m:List Nat)(op:Int)(addr off:Nat):Int×Int:=match acc op with
 | none=>(0,1)
 | some (k,wd,st,a)=>if st then(0,1)else if(vK m.length wd addr off).2=0 then(aQo k wd.toNat a (leN ((m.drop (addr+off)).take wd.toNat)),0)else(0,(vK m.length wd addr off).2)
theorem bKt{addr off:Nat}{wd:Int}(h:(vK n wd addr off).2=0):vK n wd addr off=(((addr+off:Nat):Int),0)/\addr+off+wd.toNat<=n/\addr<=4294967295/\off<=4294967295:=by
 revert h
 unfold vK
 split
 ·intro h;simp at h
 ·split
  ·rename_i h1 h2;intro _;simp[wJ]at h2;exact⟨rfl,by omega,by omega,by omega⟩
  ·intro h;simp at h
def aXi(n:Nat)(most:Int)(a:Nat):Bool:=decide (n % 256=0/\(n:Int)+256*a<=min most 4096)
def pZ(m:List Nat)(most:Int)(a:Nat):List Nat:=if aXi m.length most a then m++AZ (256*a) 0 else m
def aQb(n:Nat)(most:Int)(a:Nat):Nat:=if aXi n most a then n / 256 else 4294967295
theorem bKu(h:AllB m)(most:Int)(a:Nat):AllB (pZ m most a):=by
 unfold pZ
 split
 ·intro x b;rcases List.mem_append.1 b with h1 | h1
  ·exact h x h1
  ·rw[List.eq_of_mem_replicate h1];omega
 ·exact h
def putB(m:List Nat)(a N:Nat):Nat->List Nat
 | 0=>m
 | i+1=>(putB m a N i).set (a+i) (N / 256 ^ i % 256)
theorem aJj(m:List Nat)(a N:Nat):∀ i,(putB m a N i).length=m.length
 | 0=>rfl
 | i+1=>by rw[putB,AW,aJj m a N i]
theorem aVu{m:List Nat}(h:AllB m)(a N:Nat):∀ i,AllB (putB m a N i)
 | 0=>h
 | i+1=>fun x b=>by
  rw[putB]at b;rcases AK b with h1 | h1
  ·exact aVu h a N i x h1
  ·omega
def nQ(n:Nat)(op:Int)(addr off N:Nat):Int:=match acc op with
 | none=>1
 | some (k,wd,st,_)=>if st=false then 1 else if k=127/\4294967295<N then 1 else(vK n wd addr off).2
def eKg(op:Int):Nat:=match acc op with
 | none=>0
 | some (_,wd,_,_)=>wd.toNat
def oX(m:List Nat)(op:Int)(addr off N:Nat):List Nat:=if nQ m.length op addr off N=0 then putB m (addr+off) N (eKg op)else[]
def aQj(a b:Nat)(x y:Int):List Bool:=[(a:Int) == b,(a:Int) != b,decide (x<y),decide (a<b),decide (y<x),decide (b<a),decide (x<=y),decide (a<=b),decide (y<=x),decide (b<=a)]
def pJ(k:IntKind)(W a b by_:Nat)(x:Int):List Int:=[k.wrap (a+b),k.wrap (a - b),k.wrap (a*b),0,0,0,0,bits .and k a b,bits .or k a b,bits .xor k a b,k.wrap (a*2 ^ by_),k.wrap (x / 2 ^ by_),(a:Int) / 2 ^ by_,
 bits .or k (k.wrap (a*2 ^ by_)) ((a:Int) / 2 ^ (W - by_)),bits .or k ((a:Int) / 2 ^ by_) (k.wrap (a*2 ^ (W - by_)))]
def jZ(M least k:Int)(a b:Nat)(x y:Int):Int×Int:=
 if b=0 then(0,33)else if k=0 then(if y = -1/\x=least then(0,34)else((x.tdiv y) % M,0))else if k=1 then((a:Int) / b,0)else if k=2 then((x.tmod y) % M,0)else((a:Int) % b,0)
def hY(c d k:Int)(a b:Nat):Int×Int:=
 if d=126 then
  if c=1 then(b01 ((aQj a b (wrap64 a) (wrap64 b)).getD k.toNat false),0)
  else if 3<=k/\k<=6 then jZ 18446744073709551616 (-9223372036854775808) (k - 3) a b (wrap64 a) (wrap64 b)
  else((pJ .u64 64 a b (b % 64) (wrap64 a)).getD k.toNat 0,0)
 else
  if c=1 then(b01 ((aQj a b (wrap32 a) (wrap32 b)).getD k.toNat false),0)
  else if 3<=k/\k<=6 then jZ 4294967296 (-2147483648) (k - 3) a b (wrap32 a) (wrap32 b)
  else((pJ .u32 32 a b (b % 32) (wrap32 a)).getD k.toNat 0,0)
def aXk(W x:Nat):List Int:=[(W:Int) - Lib.bitLen x,Lib.ctz W x,Lib.popAux W x]
def cQg(k:Int)(x:Nat):Int:=if k=0 then IntKind.u64.wrap (wrap64 (wrap32 x))else x
def bXj(k:Int)(x:Nat):Int:=if k=0 then wrap64 (IntKind.i8.wrap x)else if k=1 then wrap64 (IntKind.i16.wrap x)else wrap64 (wrap32 x)
def uQ(k out:Int)(x:Nat):Int:=if out=127 then bXj k x % 4294967296 else IntKind.u64.wrap (bXj k x)
def u64V(l:List Nat):List Bx:=l.map fun c:Nat=>.int .u64 (c:Int)
def All64(l:List Nat):Prop:=∀ x∈l,x<18446744073709551616
def oW(c d k:Int)(out:Int)(l:List Nat):Int×Int:=
 if c=0 then(b01 ((l.getD 0 0:Int) == 0),0)
 else if c=2 then((aXk (if d=126 then 64 else 32) (l.getD 0 0)).getD k.toNat 0,0)
 else if c=4 then((l.getD 0 0:Int) % 4294967296,0)
 else if c=5 then(cQg k (l.getD 0 0),0)
 else if c=6 then(uQ k out (l.getD 0 0),0)
 else hY c d k (l.getD 0 0) (l.getD 1 0)
def uX(op:Int)(l:List Nat):Int×Int:=match fY op with
 | none=>(0,1)
 | some (a,_,c,d)=>if(gJ op).length=l.length/\l.all (iV d)=true then oW c d (op - a) (kW op) l else(0,1)
structure StD where
 mem:List Nat
 most:Int
 globals:List Nat
 fuel:Nat
 input:List Nat
 log:List Nat
def wV(t:Int)(n:Nat):Nat:=if t=127 then n % 4294967296 else n
def lowL:List Int->List Nat->List Nat
 | t :: ts,n :: l=>wV t n :: lowL ts l
 | _,_=>[]
theorem xY:∀ (ts:List Int) (l:List Nat),ts.length=l.length->(lowL ts l).length=l.length
 | [],[],_=>rfl
 | t :: ts,n :: l,h=>by simp[lowL,xY ts l (by simpa using h)]
 | [],n :: l,h=>by simp at h
 | t :: ts,[],h=>by simp at h
def hostV(n:Nat)(outs:List Int)(a:List Nat)(s:StD):List Nat×Int×StD:=
 if outs.length<=s.input.length then(lowL outs (s.input.take outs.length),0,{ s with log:=s.log++n :: a,input:=s.input.drop outs.length })
 else([],39,{ s with log:=s.log++n :: a,input:=[] })
def mK(c:CodeD)(a:List Nat)(s:StD):Nat×Int×StD:=
 if c.op=256 then(c.n,0,s)
 else if c.op=272 then(a.getD 0 0,0,s)
 else if c.op=258 then if s.fuel=0 then(0,36,s)else(0,0,{ s with fuel:=s.fuel - 1 })
 else if c.op=27 then(if a.getD 2 0=0 then a.getD 1 0 else a.getD 0 0,0,s)
 else if c.op=35 then(s.globals.getD c.n 0,0,s)
 else if c.op=36 then(0,0,{ s with globals:=s.globals.set c.n (a.getD 0 0) })
 else if c.op=257 then(0,if wJ s.mem.length (a.getD 0 0) c.n then 0 else 35,s)
 else match acc c.op with
  | some (_,_,true,_)=>if nQ s.mem.length c.op (a.getD 0 0) c.n (a.getD 1 0)=0 then(0,0,{ s with mem:=oX s.mem c.op (a.getD 0 0) c.n (a.getD 1 0) })else(0,38,s)
  | some (_,_,false,_)=>if(qZ s.mem c.op (a.getD 0 0) c.n).2=0 then((qZ s.mem c.op (a.getD 0 0) c.n).1.toNat,0,s)else(0,38,s)
  | none=>
   if c.op=63 then(s.mem.length / 256,0,s)
   else if c.op=64 then(aQb s.mem.length s.most (a.getD 0 0),0,{ s with mem:=pZ s.mem s.most (a.getD 0 0) })
   else((uX c.op a).1.toNat,(uX c.op a).2,s)
inductive ActD
 | go (k:Nat)
 | ret (l:List Nat)
 | vals (l:List Nat) (s:StD)
 | trap (x:Int) (s:StD)
 | call (n:Nat)
def actV(e:EnvD)(c:CodeD)(k:Nat)(a:List Nat)(s:StD):ActD:=
 if c.op=276 then .ret a
 else if c.op=277 then .trap 32 s
 else if c.op=273 then .go (c.to.getD 0 0).toNat
 else if c.op=274 then .go (if a.getD 0 0=0 then k+1 else(c.to.getD 0 0).toNat)
 else if c.op=275 then .go (c.to.getD (min (a.getD 0 0) (c.to.length - 1)) 0).toNat
 else if c.op=16 then
  if(c.n:Int)<e.imports then
   let h:=hostV c.n ((e.sigs.getD c.n ⟨[],[]⟩).out) a s
   if h.2.1=0 then .vals h.1 h.2.2 else .trap h.2.1 h.2.2
  else .call c.n
 else
  let h:=mK c a s
  if h.2.1=0 then .vals [h.1] h.2.2 else .trap h.2.1 h.2.2
def inK(e:EnvD)(s:SigD)(c:CodeD):List Int:=((iX e s c.op c.n).getD ([],[])).1
def rJ(V:List Nat)(l:List Int):List Nat:=l.map fun p=>V.getD p.toNat 0
def putV:List Int->List Nat->List Nat->List Nat
 | o :: os,n :: a,V=>putV os a (V.set o.toNat n)
 | _,_,V=>V
def zeroV(lost:Nat)(V:List Nat):List Nat:=AZ (min lost V.length) 0++V.drop lost
def initV(r:RowD)(a:List Nat):List Nat:=putV r.params a (AZ r.places.toNat 0)
def argV(e:EnvD)(r:RowD)(c:CodeD)(V:List Nat):List Nat:=lowL (inK e r.sig c) (rJ V c.args)
structure ResD where
 out:List Nat
 s:StD
 e:Int
 cnt:Nat
 wds:Nat
inductive Ev (p:RowsD) (lost:Nat):Nat->RowD->Nat->List Nat->StD->ResD->Prop
 | ret {d:Nat} {r:RowD} {k:Nat} {V:List Nat} {s:StD} {c:CodeD} {l:List Nat} (hc:r.code[k]? = some c) (ha:actV p.env c k (argV p.env r c V) s = .ret l):Ev p lost d r k V s ⟨l,s,0,1,0⟩
 | trap {d:Nat} {r:RowD} {k:Nat} {V:List Nat} {s s':StD} {c:CodeD} {x:Int} (hc:r.code[k]? = some c) (ha:actV p.env c k (argV p.env r c V) s = .trap x s'):Ev p lost d r k V s ⟨[],s',x,1,0⟩
 | go {d:Nat} {r:RowD} {k k':Nat} {V:List Nat} {s:StD} {c:CodeD} {R:ResD} (hc:r.code[k]? = some c) (ha:actV p.env c k (argV p.env r c V) s = .go k') (hn:Ev p lost d r k' V s R):Ev p lost d r k V s { R with cnt:=1+R.cnt }
 | vals {d:Nat} {r:RowD} {k:Nat} {V:List Nat} {s s':StD} {c:CodeD} {l:List Nat} {R:ResD} (hc:r.code[k]? = some c) (ha:actV p.env c k (argV p.env r c V) s = .vals l s') (hn:Ev p lost d r (k+1) (putV c.outs l V) s' R):Ev p lost d r k V s { R with cnt:=1+R.cnt }
 | call {d:Nat} {r q:RowD} {k n:Nat} {V:List Nat} {s:StD} {c:CodeD} {g:SigD} {R1 R2:ResD} (hc:r.code[k]? = some c) (ha:actV p.env c k (argV p.env r c V) s = .call n) (hd:d<16) (hq:p.fns[n - p.env.imports.toNat]? = some q) (hg:p.env.sigs[n]? = some g)
   (h1:Ev p lost (d+1) q 0 (initV q (lowL g.inn (argV p.env r c V))) s R1) (he:R1.e=0) (h2:Ev p lost d r (k+1) (putV c.outs R1.out (zeroV lost V)) R1.s R2) :
   Ev p lost d r k V s ⟨R2.out,R2.s,R2.e,1+R1.cnt+R2.cnt,max (q.places.toNat+R1.wds) R2.wds⟩
 | callT {d:Nat} {r q:RowD} {k n:Nat} {V:List Nat} {s:StD} {c:CodeD} {g:SigD} {R1:ResD} (hc:r.code[k]? = some c) (ha:actV p.env c k (argV p.env r c V) s = .call n) (hd:d<16) (hq:p.fns[n - p.env.imports.toNat]? = some q) (hg:p.env.sigs[n]? = some g)
   (h1:Ev p lost (d+1) q 0 (initV q (lowL g.inn (argV p.env r c V))) s R1) (he:R1.e≠0):Ev p lost d r k V s ⟨[],R1.s,R1.e,1+R1.cnt,q.places.toNat+R1.wds⟩
 | deep {d:Nat} {r:RowD} {k n:Nat} {V:List Nat} {s:StD} {c:CodeD} (hc:r.code[k]? = some c) (ha:actV p.env c k (argV p.env r c V) s = .call n) (hd:16<=d):Ev p lost d r k V s ⟨[],s,37,1,0⟩
theorem Ev.one{p:RowsD}{lost d:Nat}{r:RowD}{V:List Nat}{s:StD}{R R':ResD}(h:Ev p lost d r k V s R)(g:Ev p lost d r k V s R'):R=R':=by
 induction h generalizing R' with
 | ret hc ha=>cases g <;> simp_all
 | trap hc ha=>cases g <;> simp_all
 | go hc ha hn m=>
  cases g with
  | go a b n=>
   rw[hc]at a;injection a with a;subst a;rw[ha]at b;injection b with b;subst b;rw[m n]
  | _=>simp_all
 | vals hc ha hn m=>
  cases g with
  | vals a b n=>
   rw[hc]at a;injection a with a;subst a;rw[ha]at b;injection b with b q;subst b;subst q;rw[m n]
  | _=>simp_all
 | call hc ha hd hq hg h1 he h2 ih1 ih2=>
  cases g with
  | call a b f c e i l o=>
   rw[hc]at a;injection a with a;subst a;rw[ha]at b;injection b with b;subst b;rw[hq]at c;injection c with c;subst c;rw[hg]at e;injection e with e;subst e;have j:=ih1 i;subst j;have e2:=ih2 o;subst e2;rfl
  | callT a b f c e i l=>
   rw[hc]at a;injection a with a;subst a;rw[ha]at b;injection b with b;subst b;rw[hq]at c;injection c with c;subst c;rw[hg]at e;injection e with e;subst e;have j:=ih1 i;subst j;exact absurd he l
  | deep a b f=>omega
  | _=>simp_all
 | callT hc ha hd hq hg h1 he ih1=>
  cases g with
  | call a b f c e i l o=>
   rw[hc]at a;injection a with a;subst a;rw[ha]at b;injection b with b;subst b;rw[hq]at c;injection c with c;subst c;rw[hg]at e;injection e with e;subst e;have j:=ih1 i;subst j;exact absurd l he
  | callT a b f c e i l=>
   rw[hc]at a;injection a with a;subst a;rw[ha]at b;injection b with b;subst b;rw[hq]at c;injection c with c;subst c;rw[hg]at e;injection e with e;subst e;have j:=ih1 i;subst j;rfl
  | deep a b f=>omega
  | _=>simp_all
 | deep hc ha hd=>
  cases g with
  | call a b f=>omega
  | callT a b f=>omega
  | deep a b f=>rfl
  | _=>simp_all
def UR(w:Bq)(v:Bx)(l:List Nat):Prop:=∃ A c,v = .slice A l.length c/\Src w A l.length (u64V l)/\l.length<=c/\(A=none->c=0)/\(l.length<=17592186043904/\c<=9223372036854775807)/\All64 l
def BR(w:Bq)(v:Bx)(m:List Nat):Prop:=∃ A c,v = .slice A m.length c/\Src w A m.length (bys m)/\m.length<=c/\(A=none->c=0)/\(m.length<=140737488355328/\c<=9223372036854775807)/\AllB m
theorem aVz(l m:List Nat):u64V (l++m)=u64V l++u64V m:=by simp[u64V]
theorem aWa(l:List Nat):∀ u∈u64V l,u.oneCell'=true:=by
 intro u a;simp only[u64V,List.mem_map]at a;obtain⟨x,_,rfl⟩:=a;rfl
theorem UR.shape(h:UR w v l):∃ A c,v = .slice A l.length c:=by
 obtain⟨A,c,e,_⟩:=h;exact⟨A,c,e⟩
theorem UR.below{w w':Bq}{B:Nat}{v:Bx}{l:List Nat}(h:UR w v l)(a:Bz B w w')(b:w.heap.size<=B):UR w' v l:=by
 obtain⟨A,c,e,hs,r⟩:=h;exact⟨A,c,e,hs.below a b,r⟩
theorem BR.below{w w':Bq}{B:Nat}{v:Bx}{l:List Nat}(h:BR w v l)(a:Bz B w w')(b:w.heap.size<=B):BR w' v l:=by
 obtain⟨A,c,e,hs,r⟩:=h;exact⟨A,c,e,hs.below a b,r⟩
theorem UR.len{c:Nat}(h:UR w (.slice A n c) l):n=l.length/\Src w A n (u64V l)/\n<=c/\(A=none->c=0)/\(n<=17592186043904/\c<=9223372036854775807)/\All64 l:=by
 obtain⟨A',c',e,r⟩:=h;injection e with a e2 b;subst a;subst e2;subst b;exact⟨rfl,r⟩
theorem UR.cell{w:Bq}{A:Option Addr}{n c:Nat}{l:List Nat}(h:UR w (.slice A n c) l){k x:Nat}(a:l[k]? = some x):∃ b o,A=some ⟨b,o,none⟩/\b<w.heap.size/\w.cell? ⟨b,o+k,none⟩=some (.int .u64 (x:Int))/\x<18446744073709551616:=by
 obtain⟨hn,hs,_,_,_,d⟩:=h.len;have hk:=(List.getElem?_eq_some_iff.1 a).1;obtain⟨b,o,e,f,hc⟩:=hs.2 (by omega);exact⟨b,o,e,f,hc k _ (by simp[u64V,a]),d x (Ab a)⟩
theorem cQa{c:Nat}{xs:List Bx}(h:Src w A n xs)(hs:w.heap.size<=w'.heap.size)(f:∀ k,(Value.slice A n c).ownBlock=some k->k<w.heap.size->w'.heap[k]? = w.heap[k]?):Src w' A n xs:=
 ⟨h.1,fun hn=>by
  obtain⟨b,o,e,d,hc⟩:=h.2 hn;refine⟨b,o,e,Aj d hs,fun j u g=>?_⟩;have:=f b (by rw[e];rfl) d
  exact(Ac (w:=w) (a:=⟨b,o+j,none⟩) this).trans (hc j u g)⟩
theorem UR.heap{w w':Bq}{v:Bx}{l:List Nat}(h:UR w v l)(hs:w.heap.size<=w'.heap.size)(a:∀ k,v.ownBlock=some k->k<w.heap.size->w'.heap[k]? = w.heap[k]?):UR w' v l:=by
 obtain⟨A,c,rfl,h1,r⟩:=h;exact⟨A,c,rfl,cQa h1 hs a,r⟩
theorem BR.heap{w w':Bq}{v:Bx}{l:List Nat}(h:BR w v l)(hs:w.heap.size<=w'.heap.size)(a:∀ k,v.ownBlock=some k->k<w.heap.size->w'.heap[k]? = w.heap[k]?):BR w' v l:=by
 obtain⟨A,c,rfl,h1,r⟩:=h;exact⟨A,c,rfl,cQa h1 hs a,r⟩
theorem aJm{base a:Nat}{xs:List Bx}(k:w.ownsRow base e a v n xs)(b:∀ g,v.ownBlock=some g->g<w.heap.size->w'.heap[g]? = w.heap[g]?):w'.ownsRow base e a v n xs:=by
 refine⟨k.1,?_⟩;rcases k.2 with h2 | ⟨g,cap,cur,h1,h2,hg,r⟩
 ·exact .inl h2
 ·refine .inr ⟨g,cap,cur,h1,h2,?_,r⟩;rw[b g (by rw[h1];rfl) (Array.getElem?_eq_some_iff.1 hg).1];exact hg
theorem cQb(l:List Nat)(k n:Nat):(u64V l).set k (.int .u64 (n:Int))=u64V (l.set k n):=by
 unfold u64V;rw[List.map_set]
theorem dZy(h:All64 l)(k n:Nat)(hn:n<18446744073709551616):All64 (l.set k n):=fun x a=>by
 rcases AK a with h1 | h1
 ·exact h x h1
 ·omega
theorem pY{b:Nat}{u:Bx}(h:b≠g):(w.setCell ⟨g,j,none⟩ u).cell? ⟨b,i,none⟩=w.cell? ⟨b,i,none⟩:=Ac (a:=⟨b,i,none⟩) (Az _ _ _ _ h)
theorem dYd{w1 b:Bq}{r a:Option Nat}(h:w.grownBy w1 r)(k:w1.grownBy b a)(h1:a=r\/a=some w.heap.size):w.grownBy b r:=
 ⟨k.os.trans h.os,k.tape.trans h.tape,k.output.trans h.output,Ay h.size k.size,fun i hi hn=>by
  rw[k.block i (Aj hi h.size) (fun e=>?_),h.block i hi hn];rcases h1 with h1 | h1
  ·exact hn (e.trans h1)
  ·rw[h1]at e;injection e with e
   omega⟩
theorem zV:(fZ.info? 50).map (fun i=>(i.zero,i.size,i.bytes))=some (some (.int .u64 0),1,8):=by kernel_rfl
theorem cKy{a:Nat}(h:a<18446744073709551616):bits .and .u64 (a:Int) 4294967295=((a % 4294967296:Nat):Int):=by
 rw[show(4294967295:Int)=((2 ^ 32 - 1:Nat):Int)from rfl,bits_and_u64_nat a (2 ^ 32 - 1) h (by decide)];exact congrArg Int.ofNat (Nat.and_two_pow_sub_one_eq_mod a 32)
theorem bVh{ks:List Int}{t:Int}(c:ks[k]? = some t)(d:l[k]? = some x):lowL (ks.take (k+1)) (l.take (k+1))=lowL (ks.take k) (l.take k) ++ [wV t x]:=by
 induction k generalizing ks l with
 | zero=>
  match ks,l,c,d with
  | a :: ks,b :: l,c,d=>
   simp at c d;subst c;subst d;rfl
 | succ k e=>
  match ks,l,c,d with
  | a :: ks,b :: l,c,d=>
   simp only[List.getElem?_cons_succ]at c d;simp only[List.take_succ_cons,lowL,List.cons_append];rw[e c d]
def dZz(ks:List Int)(l:List Nat)(w:Bq)(a:Ending)(w':Bq):Prop:=∃ v,a = .returned v/\w'.ownsRow w.heap.size 50 1 v l.length (u64V (lowL ks l))/\Bz w.heap.size w w'
theorem cZt(vk v:Bx)(ks:List Int)(l:List Nat)(w:Bq)(m:IR w vk ks)(r:UR w v l)(he:ks.length=l.length)(hz:l.length<=100000):Calls fZ 64 #[vk,v] w (dZz ks l w):=by
 obtain⟨A1,c1,rfl⟩:=m.shape;obtain⟨A2,c2,rfl⟩:=r.shape;have s:=fQ m;have H:=fQ r;obtain⟨n,hn⟩:=fX l.length;unfold dZz;rw[he]at s ⊢;rw[hn]at s H hz ⊢;have I:=fQ hn;have J:=fQ (show ks.length=n by omega);clear m r he hn;go_in;go_wp2_with fail;go_loopw [5,6] (fun v i wr=>∃ k:Nat,k<=n/\i = .int .i64 k/\Hid (wr.ownsRow w.heap.size 50 1 v k (u64V (lowL (ks.take k) (l.take k))))/\Hid (Bz w.heap.size w wr)) (fun _ i _=>n - (intOf i).toNat)
 case atStart=>exact⟨0,by omega,rfl,fQ (World.ownsRow_nil _ _ _ _),fQ (AQ _ _)⟩
 case round=>
  obtain⟨k,m,rfl,iO,a⟩:=hrel;obtain⟨z,A,M,_⟩:=fW iO.out;subst M;by_cases K:k<n
  ·have N:decide ((k:Int)<n)=true:=(by simp;omega);have t2:(k:Int)<n:=(by omega);obtain⟨t,p⟩:∃ t,ks[k]? = some t:=⟨_,Aq (by rw[J.out];exact K)⟩;obtain⟨x,q⟩:∃ x,l[k]? = some x:=⟨_,Aq (by rw[I.out];exact K)⟩;obtain⟨b,o,rfl,hb,hc⟩:=(s.out.below a.out (Ax _)).cell p;obtain⟨b2,o2,rfl,aq,ar,O⟩:=(H.out.below a.out (Ax _)).cell q;have L:=fQ (bVh p q);have hsz:=a.out.size;have fin:∀ y:Nat,wV t x=y->∃ c:True,Hid ((wr.alloc (.cells #[.int .u64 (y:Int)] 50)).ownsRow w.heap.size 50 1 (.slice z k A) k (u64V (lowL (ks.take k) (l.take k))))/\Hid (Bz w.heap.size w (wr.alloc (.cells #[.int .u64 (y:Int)] 50))):=fun y hy=>⟨trivial,fQ (iJ iO.out _),fQ (a.out.alloc a.out.size _)⟩;by_cases d:t=127
   ·have P:(t == 127)=true:=(by simp[d]);have ha:=cKy O;have e:=fQ (show wV t x=x % 4294967296 by unfold wV;rw[if_pos d]);obtain⟨_,f,B⟩:=fin _ e.out;clear p q d fin;go_wp2_with (at_builtin;refine jY _ rfl (.tmp 25) (.tmp 27) 30 rfl w.heap.size 50 (.int .u64 0) 1 8 underlying30 zV rfl (by omega) (.slice z k A) k (u64V (lowL (ks.take k) (l.take k))) rfl f.out (some ⟨wr.heap.size,0,none⟩) 1 1 [.int .u64 ((x % 4294967296:Nat):Int)] rfl (Blk.fQc (cs:=#[.int .u64 ((x % 4294967296:Nat):Int)]) (Blk.newAt _ _ _ rfl) rfl) (fun u C=>by rw[List.mem_singleton.1 C];rfl) (by unfold maxLen;omega) (by omega) (by simp;omega) ?_);rintro D w' c g E _
    have h:w'.ownsRow w.heap.size 50 1 D (k+1) (u64V (lowL (ks.take (k+1)) (l.take (k+1)))):=by
     rw[L.out,e.out,aVz];exact c
    have F:=fQ h;have G:=fQ (iK B.out g (by simp;omega) (fun j hj=>(f.out.lt j hj).1));clear c h g E;go_wp2;exact⟨⟨k+1,by omega,by simp,F,G⟩,by simp[intOf];omega⟩
   ·have P:(t == 127)=false:=(by simp[d]);have e:=fQ (show wV t x=x by unfold wV;rw[if_neg d]);obtain⟨_,f,B⟩:=fin _ e.out;clear p q d fin;go_wp2_with (at_builtin;refine jY _ rfl (.tmp 25) (.tmp 27) 30 rfl w.heap.size 50 (.int .u64 0) 1 8 underlying30 zV rfl (by omega) (.slice z k A) k (u64V (lowL (ks.take k) (l.take k))) rfl f.out (some ⟨wr.heap.size,0,none⟩) 1 1 [.int .u64 (x:Int)] rfl (Blk.fQc (cs:=#[.int .u64 (x:Int)]) (Blk.newAt _ _ _ rfl) rfl) (fun u C=>by rw[List.mem_singleton.1 C];rfl) (by unfold maxLen;omega) (by omega) (by simp;omega) ?_);rintro D w' c g E _
    have h:w'.ownsRow w.heap.size 50 1 D (k+1) (u64V (lowL (ks.take (k+1)) (l.take (k+1)))):=by
     rw[L.out,e.out,aVz];exact c
    have F:=fQ h;have G:=fQ (iK B.out g (by simp;omega) (fun j hj=>(f.out.lt j hj).1));clear c h g E;go_wp2;exact⟨⟨k+1,by omega,by simp,F,G⟩,by simp[intOf];omega⟩
  ·have N:decide ((k:Int)<n)=false:=(by simp;omega);have Q:n=k:=(by omega);subst Q;have R:=fQ (show l.take n=l from Ak (by rw[I.out];exact Ax _));have S:=fQ (show ks.take n=ks from Ak (by rw[J.out];exact Ax _));go_wp2;go_ret;exact⟨_,rfl,by have:=iO.out;rw[R.out,S.out]at this;exact this,a.out⟩
def eKq(b:Bool)(w:Bq)(a:Ending)(w':Bq):Prop:=a = .returned (.bool b)/\∃ n,w'=w.drewN n
theorem cKz{y:Nat}(h:l.take k=m.take k)(a:l[k]? = some x)(b:m[k]? = some y):x=y->l.take (k+1)=m.take (k+1):=by
 intro e;subst e;obtain⟨h1,h2⟩:=List.getElem?_eq_some_iff.1 a;obtain⟨c,d⟩:=List.getElem?_eq_some_iff.1 b;rw[Aw h1,Aw c,h,h2,d]
theorem dYe{y:Nat}(b:l[k]? = some x)(a:m[k]? = some y)(h:x≠y):l≠m:=by
 intro e;subst e;rw[b]at a;injection a with a;exact h a
theorem aZb(v u:Bx)(l m:List Nat)(w:Bq)(h1:UR w v l)(h2:UR w u m):Calls fZ 12 #[v,u] w (eKq (decide (l=m)) w):=by
 obtain⟨A1,c1,rfl⟩:=h1.shape;obtain⟨A2,c2,rfl⟩:=h2.shape;have H1:=fQ h1;have j:=fQ h2;have B:=h1.len.2.2.2.2.1.1;have C:=h2.len.2.2.2.2.1.1;clear h1 h2;by_cases hlen:l.length=m.length
 ·obtain⟨n,hn⟩:=fX l.length;have d:m.length=n:=(by omega);have p:=fQ hn;have q:=fQ d;rw[hn]at H1 B ⊢;rw[d]at j C ⊢;have D:((n:Int) != (n:Int))=false:=(by simp);clear hn d hlen;go_in;go_wp2;go_loopw [5] (fun i wr=>∃ k:Nat,k<=n/\i = .int .i64 k/\Hid (l.take k=m.take k/\∃ z,wr=w.drewN z)) (fun i _=>n - (intOf i).toNat)
  case atStart=>exact⟨0,by omega,rfl,fQ ⟨by simp,0,rfl⟩⟩
  case round=>
   obtain⟨k,hk,rfl,IM⟩:=hrel;obtain⟨c,z,rfl⟩:=IM.out;clear IM;by_cases r:k<n
   ·have E:decide ((k:Int)<n)=true:=(by simp;omega);have t2:(k:Int)<n:=(by omega);obtain⟨x,f⟩:∃ x,l[k]? = some x:=⟨_,Aq (by rw[p.out];exact r)⟩;obtain⟨y,g⟩:∃ y,m[k]? = some y:=⟨_,Aq (by rw[q.out];exact r)⟩;obtain⟨b,o,rfl,hb,hc,_⟩:=H1.out.cell f;obtain⟨b2,o2,rfl,ak,al,_⟩:=j.out.cell g;have s:=fQ f;have t:=fQ g;have F:=fQ c;clear f g c;by_cases a:x=y
    ·have q1:((x:Int) != (y:Int))=false:=(by simp[a]);have h:=fQ a;clear a;go_wp2_with fail;go_quiet (fail);go_wp2;exact⟨⟨k+1,by omega,by simp,fQ ⟨cKz F.out s.out t.out h.out,_,rfl⟩⟩,by simp[intOf];omega⟩
    ·have q1:((x:Int) != (y:Int))=true:=(by simp;omega);have h:=fQ a;clear a;go_wp2_with fail;go_quiet (fail);go_wp2;go_ret;exact⟨by rw[decide_eq_false (dYe s.out t.out h.out)];rfl,z+nq,by simp[Ae];omega⟩
   ·have E:decide ((k:Int)<n)=false:=by simp;omega
    have A:l=m:=by
     rw[<-Ak (l:=l) (i:=k) (by have:=p.out;omega),<-Ak (l:=m) (i:=k) (by have:=q.out;omega),c]
    have G:=fQ A;clear A c;go_wp2;go_ret;exact⟨by rw[decide_eq_true G.out];rfl,_,rfl⟩
 ·have H:l≠m:=fun e=>hlen (by rw[e]);have D:((l.length:Int) != (m.length:Int))=true:=(by simp;omega);go_in;go_wp2;go_ret;exact⟨by rw[decide_eq_false H];rfl,0,rfl⟩
structure MaC where
 w0:Bq
 a:Bx
 b:Bx
 d:Bx
 f:Bx
 p:RowsD
 lost:Nat
 mb:Nat
 gv:Bx
structure MaS where
 s:StD
 lv:Bx
 iv:Bx
 mv:Bx
 cnt:Nat
 wmax:Nat
 wcur:Nat
 d:Nat
 e:Int
def MOwn(C:MaC)(x:MaS)(k:Nat):Prop:=k=C.mb\/C.gv.ownBlock=some k\/x.lv.ownBlock=some k\/x.iv.ownBlock=some k\/x.mv.ownBlock=some k
structure MK (C:MaC) (x x':MaS) (w w':Bq):Prop where
 os:w'.os=w.os
 tape:w'.tape=w.tape
 output:w'.output=w.output
 size:w.heap.size<=w'.heap.size
 keep:∀ k,k<w.heap.size->¬MOwn C x k->w'.heap[k]? = w.heap[k]? /\ ¬MOwn C x' k
theorem MK.trans{C:MaC}{x y z:MaS}{w1 a b:Bq}(h:MK C x y w1 a)(k:MK C y z a b):MK C x z w1 b:=
 ⟨k.os.trans h.os,k.tape.trans h.tape,k.output.trans h.output,Ay h.size k.size,fun i hi c=>by
  have h1:=h.keep i hi c;have h2:=k.keep i (Aj hi h.size) h1.2
  exact⟨h2.1.trans h1.1,h2.2⟩⟩
theorem MK.fQh{C:MaC}{x:MaS}(h:Bz w.heap.size w w'):MK C x x w w':=⟨h.os,h.tape,h.output,h.size,fun k a b=>⟨h.block k a,b⟩⟩
theorem MK.to{C:MaC}{x x' y:MaS}(h:MK C x x' w w')(h1:y.lv=x'.lv)(h2:y.iv=x'.iv)(c:y.mv=x'.mv):MK C x y w w':=
 ⟨h.os,h.tape,h.output,h.size,fun k a b=>⟨(h.keep k a b).1,fun hn=>(h.keep k a b).2 (by unfold MOwn at hn ⊢;rw[h1,h2,c]at hn;exact hn)⟩⟩
theorem MK.blk{C:MaC}{x x':MaS}(h:MK C x x' w w'){cs:Array Bx}(k:Blk w g e cs)(a:¬MOwn C x g):Blk w' g e cs:=((h.keep g k.lt a).1).trans k
theorem MK.fQg{C:MaC}{x y z:MaS}(h:MK C z x w0 w)(i:Nat)(u:Bx)(h1:y.lv=x.lv)(h2:y.iv=x.iv)(b:y.mv=x.mv):MK C z y w0 (w.setCell ⟨C.mb,i,none⟩ u):=by
 have hs:MK C x x w (w.setCell ⟨C.mb,i,none⟩ u):=⟨rfl,rfl,rfl,by simp[Av],fun k hk a=>⟨Az _ _ _ _ (fun e=>a (.inl e)),a⟩⟩;exact(h.trans hs).to h1 h2 b
theorem MK.fQp{C:MaC}{x z:MaS}(h:MK C z x w0 w)(u:Bx)(hg:w0.heap.size<=g):MK C z x w0 (w.setCell ⟨g,i,none⟩ u):=
 ⟨h.os,h.tape,h.output,Ay h.size (by simp[Av]),fun k a b=>⟨(Az _ _ _ _ (by show k≠g;omega)).trans (h.keep k a b).1,(h.keep k a b).2⟩⟩
theorem MK.below{C:MaC}{x z:MaS}(h:MK C z x w0 w)(a:Bz w.heap.size w w'):MK C z x w0 w':=h.trans (MK.fQh a)
theorem MK.fQq{C:MaC}{x z:MaS}(h:MK C z x w0 w)(mv:Bx)(m:List Nat)(h1:∀ k,mv.ownBlock=some k->w0.heap.size<=k):MK C z { x with mv:=mv,s:={ x.s with mem:=m } } w0 (w.setCell ⟨C.mb,6,none⟩ mv):=
 ⟨h.os,h.tape,h.output,Ay h.size (by simp[Av]),fun k b c=>by
  have h2:=h.keep k b c;refine⟨(Az _ _ _ _ (fun e=>h2.2 (.inl e))).trans h2.1,?_⟩;rintro(a | a | a | a | a)
  ·exact h2.2 (.inl a)
  ·exact h2.2 (.inr (.inl a))
  ·exact h2.2 (.inr (.inr (.inl a)))
  ·exact h2.2 (.inr (.inr (.inr (.inl a))))
  ·have:=h1 k a;omega⟩
theorem MK.fQy{C:MaC}{x z:MaS}(h:MK C z x w0 w)(iv:Bx)(l:List Nat)(h1:∀ k,iv.ownBlock=some k->x.iv.ownBlock=some k):MK C z { x with iv:=iv,s:={ x.s with input:=l } } w0 (w.setCell ⟨C.mb,10,none⟩ iv):=
 ⟨h.os,h.tape,h.output,Ay h.size (by simp[Av]),fun k b c=>by
  have h2:=h.keep k b c;refine⟨(Az _ _ _ _ (fun e=>h2.2 (.inl e))).trans h2.1,?_⟩;rintro(a | a | a | a | a)
  ·exact h2.2 (.inl a)
  ·exact h2.2 (.inr (.inl a))
  ·exact h2.2 (.inr (.inr (.inl a)))
  ·exact h2.2 (.inr (.inr (.inr (.inl (h1 k a)))))
  ·exact h2.2 (.inr (.inr (.inr (.inr a))))⟩
theorem MK.fQz{C:MaC}{x z:MaS}(h:MK C z x w0 w)(lv:Bx)(l:List Nat)(hg:w.grownBy w' x.lv.ownBlock)(d:∀ k,lv.ownBlock=some k->x.lv.ownBlock=some k\/w.heap.size<=k):MK C z { x with lv:=lv,s:={ x.s with log:=l } } w0 (w'.setCell ⟨C.mb,11,none⟩ lv):=by
 refine⟨hg.os.trans h.os,hg.tape.trans h.tape,hg.output.trans h.output,Ay h.size (Ay hg.size (by simp[Av])),fun k b f=>?_⟩;have h2:=h.keep k b f;have g:=Aj b h.size;have i:(w'.setCell ⟨C.mb,11,none⟩ lv).heap[k]? = w'.heap[k]?:=Az _ _ _ _ (fun e=>h2.2 (.inl e));have e2:w'.heap[k]? = w.heap[k]?:=hg.block k g (fun e=>h2.2 (.inr (.inr (.inl e.symm))));refine⟨i.trans (e2.trans h2.1),?_⟩;rintro(a | a | a | a | a)
 ·exact h2.2 (.inl a)
 ·exact h2.2 (.inr (.inl a))
 ·rcases d k a with c | c
  ·exact h2.2 (.inr (.inr (.inl c)))
  ·omega
 ·exact h2.2 (.inr (.inr (.inr (.inl a))))
 ·exact h2.2 (.inr (.inr (.inr (.inr a))))
theorem MK.fXa{C:MaC}{x z:MaS}(h:MK C z x w0 w){c:Nat}(a:C.gv = .slice (some ⟨g,0,none⟩) n c)(k N:Nat)(u:Bx):MK C z { x with s:={ x.s with globals:=x.s.globals.set k N } } w0 (w.setCell ⟨g,k,none⟩ u):=
 ⟨h.os,h.tape,h.output,Ay h.size (by simp[Av]),fun j hj b=>by
  have h2:=h.keep j hj b
  exact⟨(Az _ _ _ _ (fun e=>h2.2 (.inr (.inl (by rw[a];show some g=some j;rw[show j=g from e]))))).trans h2.1,h2.2⟩⟩
theorem MK.grown{C:MaC}{x z:MaS}{r:Option Nat}(h:MK C z x w0 w)(hg:w.grownBy w' r)(hr:∀ k,r=some k->w0.heap.size<=k):MK C z x w0 w':=
 ⟨hg.os.trans h.os,hg.tape.trans h.tape,hg.output.trans h.output,Ay h.size hg.size,fun k a b=>by
  have h2:=h.keep k a b
  exact⟨(hg.block k (Aj a h.size) (fun e=>by have:=hr k e.symm;omega)).trans h2.1,h2.2⟩⟩
def mCells(C:MaC)(x:MaS):Array Bx:=#[C.a,.int .i64 C.p.env.imports,C.b,C.d,.bool C.p.env.mem,C.f,x.mv,.int .i64 x.s.most,C.gv,.int .i64 x.s.fuel,x.iv,x.lv,.int .i64 C.lost,.int .i64 x.cnt,.int .i64 x.wmax,.int .i64 x.wcur,.int .i64 x.d,.int .i64 x.e]
structure MRef (C:MaC) (x:MaS) (w:Bq):Prop where
 blk:Blk w C.mb 89 (mCells C x)
 mem:BR w x.mv x.s.mem
 inp:UR w x.iv x.s.input
 glo:w.ownsRow C.w0.heap.size 50 1 C.gv x.s.globals.length (u64V x.s.globals)
 log:w.ownsRow C.w0.heap.size 50 1 x.lv x.s.log.length (u64V x.s.log)
 bel:Bz C.w0.heap.size C.w0 w
 mb:C.w0.heap.size<=C.mb
 gl:∀ k,C.gv.ownBlock=some k->x.lv.ownBlock≠some k/\x.iv.ownBlock≠some k/\x.mv.ownBlock≠some k
 ll:∀ k,x.lv.ownBlock=some k->x.iv.ownBlock≠some k/\x.mv.ownBlock≠some k
 ii:x.iv.ownBlock≠some C.mb
 mm:x.mv.ownBlock≠some C.mb
 il:∀ k,x.iv.ownBlock=some k->C.w0.heap.size<=k/\k<w.heap.size
 ml:∀ k,x.mv.ownBlock=some k->C.w0.heap.size<=k/\k<w.heap.size
 g64:All64 x.s.globals
 l64:All64 x.s.log
theorem MRef.heap{C:MaC}{x:MaS}{w w':Bq}(h:MRef C x w)(hs:w.heap.size<=w'.heap.size)(b:∀ k,MOwn C x k->k<w.heap.size->w'.heap[k]? = w.heap[k]?)(c:Bz C.w0.heap.size C.w0 w'):MRef C x w':=
 ⟨(b C.mb (.inl rfl) h.blk.lt).trans h.blk,h.mem.heap hs (fun k a=>b k (.inr (.inr (.inr (.inr a))))),h.inp.heap hs (fun k a=>b k (.inr (.inr (.inr (.inl a))))),
  aJm h.glo (fun k a=>b k (.inr (.inl a))),aJm h.log (fun k a=>b k (.inr (.inr (.inl a)))),c,h.mb,h.gl,h.ll,h.ii,h.mm,(fun k a=>⟨(h.il k a).1,Aj (h.il k a).2 hs⟩),(fun k a=>⟨(h.ml k a).1,Aj (h.ml k a).2 hs⟩),h.g64,h.l64⟩
theorem MRef.below{C:MaC}{x:MaS}(h:MRef C x w)(a:Bz w.heap.size w w'):MRef C x w':=
 h.heap a.size (fun k _ b=>a.block k b) (h.bel.trans (a.mono h.bel.size))
theorem MRef.drewN{C:MaC}{x:MaS}{w:Bq}(h:MRef C x w)(n:Nat):MRef C x (w.drewN n):=h.below (fK (AQ _ _) n)
theorem MRef.fQp{C:MaC}{x:MaS}(h:MRef C x w)(u:Bx)(hg:¬MOwn C x g)(a:C.w0.heap.size<=g):MRef C x (w.setCell ⟨g,i,none⟩ u):=
 h.heap (by simp[Av]) (fun k b _=>Az _ _ _ _ (fun e=>hg (by have:k=g:=e;rw[<-this];exact b))) (h.bel.setCell (p:=⟨g,i,none⟩) a _)
theorem MRef.fQg{C:MaC}{x y:MaS}(h:MRef C x w)(i:Nat)(u:Bx)(hc:(mCells C x).setIfInBounds i u=mCells C y)(h1:y.lv=x.lv)(h2:y.iv=x.iv)(b:y.mv=x.mv)(l:y.s.mem=x.s.mem)(m:y.s.input=x.s.input)(d:y.s.globals=x.s.globals)(f:y.s.log=x.s.log):MRef C y (w.setCell ⟨C.mb,i,none⟩ u):=by
 have g:∀ {k:Nat},k≠C.mb->(w.setCell ⟨C.mb,i,none⟩ u).heap[k]? = w.heap[k]?:=fun a=>Az _ _ _ _ a;have c:w.heap.size<=(w.setCell ⟨C.mb,i,none⟩ u).heap.size:=(by simp[Av]);have j:=fV h.blk i u;rw[hc]at j;refine⟨j,?_,?_,?_,?_,h.bel.setCell (p:=⟨C.mb,i,none⟩) h.mb _,h.mb,?_,?_,?_,?_,?_,?_,?_,?_⟩
 ·rw[b,l];exact h.mem.heap c (fun k a _=>g (fun e=>h.mm (e ▸ a)))
 ·rw[h2,m];exact h.inp.heap c (fun k a _=>g (fun e=>h.ii (e ▸ a)))
 ·rw[d];exact gY h.glo (own_ne h.glo h.blk (by decide))
 ·rw[h1,f];exact gY h.log (own_ne h.log h.blk (by decide))
 ·rw[h1,h2,b];exact h.gl
 ·rw[h1,h2,b];exact h.ll
 ·rw[h2];exact h.ii
 ·rw[b];exact h.mm
 ·rw[h2];exact fun k a=>⟨(h.il k a).1,Aj (h.il k a).2 c⟩
 ·rw[b];exact fun k a=>⟨(h.ml k a).1,Aj (h.ml k a).2 c⟩
 ·rw[d];exact h.g64
 ·rw[f];exact h.l64
theorem MRef.fQq{C:MaC}{x:MaS}(h:MRef C x w)(mv:Bx)(m:List Nat)(d:BR w mv m)(h1:∀ k,mv.ownBlock=some k->k≠C.mb/\C.gv.ownBlock≠some k/\x.lv.ownBlock≠some k)(h2:∀ k,mv.ownBlock=some k->C.w0.heap.size<=k/\k<w.heap.size):
  MRef C { x with mv:=mv,s:={ x.s with mem:=m } } (w.setCell ⟨C.mb,6,none⟩ mv):=by
 have c:∀ {k:Nat},k≠C.mb->(w.setCell ⟨C.mb,6,none⟩ mv).heap[k]? = w.heap[k]?:=fun a=>Az _ _ _ _ a;have b:w.heap.size<=(w.setCell ⟨C.mb,6,none⟩ mv).heap.size:=(by simp[Av]);have f:=fV h.blk 6 mv;refine⟨by simpa[mCells]using f,d.heap b (fun k a _=>c (h1 k a).1),h.inp.heap b (fun k a _=>c (fun e=>h.ii (e ▸ a))),gY h.glo (own_ne h.glo h.blk (by decide)),gY h.log (own_ne h.log h.blk (by decide)),h.bel.setCell (p:=⟨C.mb,6,none⟩) h.mb _,h.mb,?_,?_,h.ii,?_,(fun k a=>⟨(h.il k a).1,Aj (h.il k a).2 b⟩),(fun k a=>⟨(h2 k a).1,Aj (h2 k a).2 b⟩),h.g64,h.l64⟩
 ·exact fun k a=>⟨(h.gl k a).1,(h.gl k a).2.1,fun hn=>(h1 k hn).2.1 a⟩
 ·exact fun k a=>⟨(h.ll k a).1,fun hn=>(h1 k hn).2.2 a⟩
 ·exact fun hn=>(h1 _ hn).1 rfl
theorem MRef.fQy{C:MaC}{x:MaS}(h:MRef C x w)(iv:Bx)(l:List Nat)(d:UR w iv l)(h1:∀ k,iv.ownBlock=some k->x.iv.ownBlock=some k):
  MRef C { x with iv:=iv,s:={ x.s with input:=l } } (w.setCell ⟨C.mb,10,none⟩ iv):=by
 have c:∀ {k:Nat},k≠C.mb->(w.setCell ⟨C.mb,10,none⟩ iv).heap[k]? = w.heap[k]?:=fun a=>Az _ _ _ _ a;have b:w.heap.size<=(w.setCell ⟨C.mb,10,none⟩ iv).heap.size:=(by simp[Av]);have f:=fV h.blk 10 iv;refine⟨by simpa[mCells]using f,h.mem.heap b (fun k a _=>c (fun e=>h.mm (e ▸ a))),d.heap b (fun k a _=>c (fun e=>h.ii (e ▸ h1 k a))),gY h.glo (own_ne h.glo h.blk (by decide)),gY h.log (own_ne h.log h.blk (by decide)),h.bel.setCell (p:=⟨C.mb,10,none⟩) h.mb _,h.mb,?_,?_,?_,h.mm,(fun k a=>⟨(h.il k (h1 k a)).1,Aj (h.il k (h1 k a)).2 b⟩),(fun k a=>⟨(h.ml k a).1,Aj (h.ml k a).2 b⟩),h.g64,h.l64⟩
 ·exact fun k a=>⟨(h.gl k a).1,fun hn=>(h.gl k a).2.1 (h1 k hn),(h.gl k a).2.2⟩
 ·exact fun k a=>⟨fun hn=>(h.ll k a).1 (h1 k hn),(h.ll k a).2⟩
 ·exact fun hn=>h.ii (h1 _ hn)
theorem MRef.fQz{C:MaC}{x:MaS}(h:MRef C x w)(lv:Bx)(l:List Nat)(hg:w.grownBy w' x.lv.ownBlock)(f:w'.ownsRow C.w0.heap.size 50 1 lv l.length (u64V l))(m:All64 l)(g:∀ k,lv.ownBlock=some k->x.lv.ownBlock=some k\/w.heap.size<=k):
  MRef C { x with lv:=lv,s:={ x.s with log:=l } } (w'.setCell ⟨C.mb,11,none⟩ lv):=by
 have old:∀ k,k<w.heap.size->x.lv.ownBlock≠some k->w'.heap[k]? = w.heap[k]?:=fun k a n=>hg.block k a (fun e=>n e.symm);have o:x.lv.ownBlock≠some C.mb:=own_ne h.log h.blk (by decide);have c:Blk w' C.mb 89 (mCells C x):=(old _ h.blk.lt o).trans h.blk;have i:w'.ownsRow C.w0.heap.size 50 1 C.gv x.s.globals.length (u64V x.s.globals):=aJm h.glo (fun k a b=>old k b (h.gl k a).1);have q:BR w' x.mv x.s.mem:=h.mem.heap hg.size (fun k a b=>old k b (fun e=>(h.ll k e).2 a));have r:UR w' x.iv x.s.input:=h.inp.heap hg.size (fun k a b=>old k b (fun e=>(h.ll k e).1 a));have t:Bz C.w0.heap.size C.w0 w':=h.bel.grown hg h.bel.size (fun k a=>(h.log.lt k a).1);have j:∀ {k:Nat},k≠C.mb->(w'.setCell ⟨C.mb,11,none⟩ lv).heap[k]? = w'.heap[k]?:=fun a=>Az _ _ _ _ a;have d:w'.heap.size<=(w'.setCell ⟨C.mb,11,none⟩ lv).heap.size:=(by simp[Av]);have u:=fV c 11 lv;have aj:∀ k,lv.ownBlock=some k->k≠C.mb:=fun k a e=>(own_ne f c (by decide)) (e ▸ a);refine⟨by simpa[mCells]using u,q.heap d (fun k a _=>j (fun e=>h.mm (e ▸ a))),r.heap d (fun k a _=>j (fun e=>h.ii (e ▸ a))),gY i (own_ne i c (by decide)),gY f (own_ne f c (by decide)),t.setCell (p:=⟨C.mb,11,none⟩) h.mb _,h.mb,?_,?_,h.ii,h.mm,(fun k a=>⟨(h.il k a).1,Aj (h.il k a).2 (Ay hg.size d)⟩),(fun k a=>⟨(h.ml k a).1,Aj (h.ml k a).2 (Ay hg.size d)⟩),h.g64,m⟩
 ·refine fun k a=>⟨fun hn=>?_,(h.gl k a).2⟩;rcases g k hn with h1 | h1
  ·exact(h.gl k a).1 h1
  ·have:=(h.glo.lt k a).2;omega
 ·refine fun k a=>⟨fun hn=>?_,fun hn=>?_⟩
  ·rcases g k a with h1 | h1
   ·exact(h.ll k h1).1 hn
   ·have:=(h.il k hn).2;omega
  ·rcases g k a with h1 | h1
   ·exact(h.ll k h1).2 hn
   ·have:=(h.ml k hn).2;omega
theorem MRef.fXa{C:MaC}{x:MaS}(h:MRef C x w){c:Nat}(b:C.gv = .slice (some ⟨g,0,none⟩) n c)(k N:Nat)(m:N<18446744073709551616):
  MRef C { x with s:={ x.s with globals:=x.s.globals.set k N } } (w.setCell ⟨g,k,none⟩ (.int .u64 (N:Int))):=by
 have d:C.gv.ownBlock=some g:=(by rw[b];rfl);have o:g≠C.mb:=fun e=>(own_ne h.glo h.blk (by decide)) (by rw[d,e]);have f:∀ {j:Nat},j≠g->(w.setCell ⟨g,k,none⟩ (.int .u64 (N:Int))).heap[j]? = w.heap[j]?:=fun q=>Az _ _ _ _ q;have a:w.heap.size<=(w.setCell ⟨g,k,none⟩ (.int .u64 (N:Int))).heap.size:=(by simp[Av]);have i:=h.gl g d;have l:=h.glo;rw[b]at l
 have r:n=x.s.globals.length:=by
  rcases l.2 with⟨h1,_⟩ | ⟨_,_,_,h1,_⟩
  ·cases h1
  ·injection h1
 subst r;refine⟨(f (fun e=>o e.symm)).trans h.blk,h.mem.heap a (fun j hj _=>f (fun e=>i.2.2 (e ▸ hj))),h.inp.heap a (fun j hj _=>f (fun e=>i.2.1 (e ▸ hj))),?_,gY h.log i.1,h.bel.setCell (p:=⟨g,k,none⟩) (h.glo.lt g d).1 _,h.mb,h.gl,h.ll,h.ii,h.mm,(fun j hj=>⟨(h.il j hj).1,Aj (h.il j hj).2 a⟩),(fun j hj=>⟨(h.ml j hj).1,Aj (h.ml j hj).2 a⟩),dZy h.g64 k N m,h.l64⟩;rw[b];show(w.setCell ⟨g,k,none⟩ (.int .u64 (N:Int))).ownsRow C.w0.heap.size 50 1 (.slice (some ⟨g,0,none⟩) x.s.globals.length c) (x.s.globals.set k N).length (u64V (x.s.globals.set k N));rw[AW,<-cQb];exact(l.stored k (.int .u64 (N:Int))).1
theorem MRef.grown{C:MaC}{x:MaS}{w w':Bq}{r:Option Nat}(h:MRef C x w)(hg:w.grownBy w' r)(hr:∀ k,r=some k->¬MOwn C x k/\C.w0.heap.size<=k):MRef C x w':=
 h.heap hg.size (fun k a b=>hg.block k b (fun e=>(hr k e.symm).1 a)) (h.bel.grown hg h.bel.size (fun k a=>(hr k a).2))
theorem MRef.live{C:MaC}{x:MaS}(h:MRef C x w)(a:MOwn C x k):k<w.heap.size:=by
 rcases a with rfl | h1 | h1 | h1 | h1
 ·exact h.blk.lt
 ·exact(h.glo.lt k h1).2
 ·exact(h.log.lt k h1).2
 ·exact(h.il k h1).2
 ·exact(h.ml k h1).2
theorem MRef.fresh{C:MaC}{x:MaS}(h:MRef C x w)(hk:w.heap.size<=k):¬MOwn C x k:=fun a=>by have:=h.live a;omega
theorem MRef.cell{C:MaC}{x:MaS}{w:Bq}(h:MRef C x w)(i:Nat):w.cell? ⟨C.mb,i,none⟩=(mCells C x)[i]?:=h.blk.cell i
end Go.Proofs.YtabibkpfgmolkaaGreat

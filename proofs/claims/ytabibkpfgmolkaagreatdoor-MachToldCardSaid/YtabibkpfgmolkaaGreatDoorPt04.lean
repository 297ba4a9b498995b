/- Lemmas for the claim, part 4. Conditions: none. -/
import Derived.Test.YtabibkpfgmolkaaGreatDoorPt03
import Derived.Deep.RegionHeld
import Derived.Lib.TrailingZeros
import Derived.Test.YtabibkpfgmolkaaGreatDoorChecked
set_option maxRecDepth 100000
set_option maxHeartbeats 16000000
set_option linter.unusedVariables false
set_option linter.unusedSimpArgs false
open Go.Lib renaming hid→fQ
open Go.Proofs.Tryz renaming prog→fZ
open Go.Proofs.Tryz
open Go.RowKit
open List renaming getElem?_eq_getElem→Aj,take_of_length_le→Az,take_succ_eq_append_getElem→Ak,replicate→Aw,any_eq_true→AJ,getElem?_eq_none→AZ,mem_of_getElem?→AV,mem_of_mem_take→AW,getElem?_append_right→AY,getElem?_append_left→Aa,mem_or_eq_of_mem_set→Ab,getElem?_set_self→Ad,range→Ae,countP_mono_left→Af,getElem?_set_ne→Ag,mem_of_mem_drop→Ai,map_congr_left→Bq,countP_cons→Bz,length_cons→Bv,cons_append→Bw,length_set→BJ,any_cons→BZ
open Nat renaming le_refl→Aq,pow_le_pow_right→Ay,lt_of_lt_of_le→AQ,and_two_pow_sub_one_eq_mod→AK,mul_le_mul_right→Ah,pow_succ→Bx,mod_eq_of_lt→Bk,pow_mul→By,add_comm→BK,or_comm→BV,mod_lt→BW
open Go.RowKit.Below renaming refl→Ax
open Bool renaming and_eq_true→Av,or_eq_true→BQ,eq_iff_iff→BX
open Int renaming toNat_natCast→AX,eq_ofNat_of_zero_le→Ac,ofNat→Bj
open Go renaming World→BY,Value→Ba,Calls→Bc
open Go.RowKit renaming Below→Bb
open Go.Value renaming int->fF,slice->fG,bool->fH,tuple->fI,agg->fM
open Go.IntKind renaming i64->fN,u64->fO,u8->fP
open Go.Obj renaming cells->fR
open Go.Ending renaming returned->fS
open Option renaming none->fT,some->fU
open Bool renaming true->gh,false->gj
namespace Go.Proofs.YtabibkpfgmolkaaGreatDoor
variable {w w':BY}{i n k j p a x base g P fuel q y:Nat}{v:Ba}{l m:List Nat}{t e:TypeId}{A:Option Addr}
end Go.Proofs.YtabibkpfgmolkaaGreatDoor
namespace Go.Proofs.YtabibkpfgmolkaaGreatDoor
variable {w w':BY}{i n k j p a x base g P fuel q y:Nat}{v:Ba}{l m:List Nat}{t e:TypeId}{A:Option Addr}
def j5(w:BY)(base:Nat)(vs:List Ba)(P:List (List Int)):Prop:=vs.length=P.length/\∀ (i:Nat) u p,vs[i]? = fU u->P[i]? = fU p->w.ownsRow base 3 1 u p.length (ix p)
theorem oD{size:Nat}{a:List Ba}(h:w.ownsRow base t size v n a)(hg:v.ownBlock=fU g):∃ cur,gO w g t cur:=by
 rcases h.2 with⟨h1,_⟩|⟨g',cap,cur,h1,_,b,_⟩
 ·subst h1;cases hg
 ·subst h1;injection hg with hg;subst hg;exact⟨cur,b⟩
theorem j5.grown{vs:List Ba}{P:List (List Int)}{r:Option Nat}(h:j5 w base vs P)(hg:w.grownBy w' r)(a:∀ g cs,gO w g 3 cs->r≠fU g):j5 w' base vs P:=
 ⟨h.1,fun i u p h1 h2=>rO (h.2 i u p h1 h2) hg (fun g b=>by
  obtain⟨cur,c⟩:=oD (h.2 i u p h1 h2) b
  exact a g cur c)⟩
theorem j5.push{vs:List Ba}{P:List (List Int)}{u:Ba}{p:List Int}(h:j5 w base vs P)(b:w.ownsRow base 3 1 u p.length (ix p)):j5 w base (vs ++ [u]) (P ++ [p]):=by
 refine⟨by simp[h.1],fun i x y h1 h2=>?_⟩;by_cases hi:i<P.length
 ·rw[Aa (by rw[h.1];exact hi)]at h1;rw[Aa hi]at h2;exact h.2 i x y h1 h2
 ·rw[AY fu]at h2;rw[AY (by rw[h.1];omega)]at h1
  have a:i - P.length=0:=by
   have:=(gw h2).1;simp at this;omega
  rw[h.1,a]at h1;rw[a]at h2;simp at h1 h2;subst h1;subst h2;exact b
theorem xJ{e:ia}{r:gR}{c:gP}(h:codeOk e r c=gh):(∀ x∈c.args,0<=x/\x<r.M)/\(∀ x∈c.O,0<=x/\x<r.M)/\c.O.Nodup:=by
 unfold codeOk at h
 split at h
 ·cases h
 ·simp only[Av,decide_eq_true_eq]at h;obtain⟨_,h1,h2,b,_⟩:=h;refine⟨fun x a=>?_,fun x a=>?_,b⟩
  ·have:=List.all_eq_true.1 h1 x a
   simpa using this
  ·have:=List.all_eq_true.1 h2 x a
   simpa using this
theorem Live.range{e:ia}{r:gR}(h:iq e r){x:Int}(a:Live r i x):0<=x/\x<r.M:=by
 induction a with
 | arg hc b=>exact(xJ (h.K _ (AV hc))).1 _ b
 | step _ _ _ _ c=>exact c
theorem jI.range{e:ia}{r:gR}(h:iq e r){i:Nat}{x:Int}(a:jI r i x):0<=x/\x<r.M:=by
 obtain⟨_,_,k,_,b⟩:=a;exact b.range h
theorem eKy{α:Type}{l:List α}{x y:α}(h:(l.set i x)[j]? = fU y):(i=j/\y=x/\i<l.length)\/(i≠j/\l[j]? = fU y):=by
 by_cases e:i=j
 ·subst e;by_cases a:i<l.length
  ·rw[Ad a]at h;injection h with h;exact .inl ⟨rfl,h.symm,a⟩
  ·rw[AZ fw]at h;cases h
 ·rw[Ag e]at h;exact .inr ⟨e,h⟩
theorem bZx{s:List Int}{m:Nat}(hn:s.Nodup)(h:∀ x∈s,0<=x/\x<m):s.length<=m:=by
 have h1:s.length<=((Ae m).map fun i:Nat=>(i:Int)).length:=List.Nodup.length_le_of_subset hn fun x a=>by
  have:=h x a;exact List.mem_map.2 ⟨x.toNat,List.mem_range.2 fu,fu⟩
 simpa using h1
section
variable {w w':BY} {n base bR gF gA gB gFr gW:Nat} {rv:Array Ba} {bA bB:List Nat} {A B:List (List Int)} {vF:List Ba} {F:List (List Int)} {wt:List Bool}
theorem bYu(h:l.Nodup){b:Nat}(hi:l[i]? = fU b)(hj:l[j]? = fU b):i=j:=by
 obtain⟨h1,c⟩:=gw hi;obtain⟨h2,e2⟩:=gw hj;have hp:=List.pairwise_iff_getElem.1 h;rcases Nat.lt_trichotomy i j with a|he|a
 ·exact gH (c.trans e2.symm) (hp i j h1 h2 a)
 ·exact he
 ·exact gH (e2.trans c.symm) (hp j i h2 h1 a)
end
def rng(k:Nat):List Int:=(Ae k).map fun i:Nat=>(i:Int)
def vV(n:Nat)(f:Nat->Bool):List Bool:=(Ae n).map f
theorem aKw(n:Nat)(f:Nat->Bool):(vV n f).length=n:=by simp[vV]
theorem aYk{f:Nat->Bool}(h:i<n):(vV n f)[i]? = fU (f i):=by simp[vV,h]
theorem cJb{f g:Nat->Bool}(h:∀ i,i<n->f i=g i):vV n f=vV n g:=by
 unfold vV;exact Bq fun i hi=>h i (List.mem_range.1 hi)
theorem dZy(n:Nat)(f:Nat->Bool)(j:Nat)(b:Bool):(vV n f).set j b=vV n (fun i=>if i=j then b else f i):=by
 apply List.ext_getElem?;intro i;by_cases hi:i<n
 ·rw[aYk hi];by_cases e:j=i
  ·subst e;rw[Ad (by rw[aKw];exact hi),gz rfl]
  ·rw[Ag e,aYk hi,gy (fun h=>e h.symm)]
 ·rw[AZ (by rw[BJ,aKw];omega),AZ (by rw[aKw];omega)]
theorem dZz(n:Nat)(b:Bool):Aw n b=vV n (fun _=>b):=by
 unfold vV;rw[List.map_const'];simp
theorem aYl{α:Type}{p q:α->Bool}:∀ {l:List α},(∀ x∈l,p x=gh->q x=gh)->(∃ x∈l,q x=gh/\p x=gj)->l.countP p<l.countP q
 | [],_,⟨x,b,_⟩=>by simp at b
 | a :: l,h,⟨x,b,h1,h2⟩=>by
  have hle:l.countP p<=l.countP q:=Af fun y c=>h y (by simp[c]);rw[Bz,Bz];rcases List.mem_cons.1 b with e|b
  ·subst e;rw[h1,h2];simp;omega
  ·have ih:=aYl (l:=l) (fun y c=>h y (by simp[c])) ⟨x,b,h1,h2⟩;have ha:=h a fz;cases hp:p a
   ·simp
    split <;> omega
   ·rw[ha hp];simp;omega
def oE(n:Nat)(g:Nat->Bool):Nat:=(Ae n).countP fun i=>!g i
theorem eQu{g:Nat->Bool}(hi:i<n)(h:g i=gj):oE n (fun j=>if j=i then gh else g j)<oE n g:=by
 refine aYl (fun x _ a=>?_) ⟨i,List.mem_range.2 hi,by simp[h],fz⟩;by_cases e:x=i
 ·simp[e]at a
 ·simpa[e]using a
def cnt2(n P:Nat)(T:Nat->Nat->Bool):Nat:=(Ae (n*P)).countP fun q=>!T (q / P) (q % P)
def upd(T:Nat->Nat->Bool)(i:Nat)(f:Nat->Bool):Nat->Nat->Bool:=fun j=>if j=i then f else T j
theorem vX(T:Nat->Nat->Bool)(i:Nat)(f:Nat->Bool):upd T i f i=f:=by simp[upd]
theorem tY{T:Nat->Nat->Bool}{f:Nat->Bool}(h:j≠i):upd T i f j=T j:=by simp[upd,h]
theorem eVh{T:Nat->Nat->Bool}{f:Nat->Bool}(h:∀ p,p<P->T i p=gh->f p=gh):cnt2 n P (upd T i f)<=cnt2 n P T:=by
 refine Af fun q hq a=>?_;by_cases e:q / P=i
 ·rw[e,vX]at a;rw[e]
  have c:0<P:=by
   rcases Nat.eq_zero_or_pos P with b|b
   ·subst b;simp at hq
   ·exact b
  cases ht:T i (q % P)
  ·rfl
  ·rw[h _ (BW _ c) ht]at a;simp at a
 ·rw[tY e]at a;exact a
theorem eVi{T:Nat->Nat->Bool}{f:Nat->Bool}(h:∀ p,p<P->T i p=gh->f p=gh)(hi:i<n)(hp:p<P)(hd:f p≠T i p):cnt2 n P (upd T i f)<cnt2 n P T:=by
 have c:0<P:=fu
 have hf:T i p=gj/\f p=gh:=by
  cases a:T i p
  ·rw[a]at hd;exact⟨rfl,by simpa using hd⟩
  ·exact gH ((h p hp a).trans a.symm) hd
 have d:(i*P+p) / P=i:=(by rw[BK,Nat.add_mul_div_right _ _ c,Nat.div_eq_of_lt hp];omega);have e2:(i*P+p) % P=p:=(by rw[BK,Nat.add_mul_mod_self_right,Bk hp])
 have g:i*P+p<n*P:=by
  have:=Ah P (show i+1<=n by omega);rw[Nat.add_mul]at this;omega
 refine aYl (fun q _ b=>?_) ⟨i*P+p,List.mem_range.2 g,by rw[d,e2,hf.1];rfl,by rw[d,e2,vX,hf.2];rfl⟩;by_cases e:q / P=i
 ·rw[e,vX]at b;rw[e];cases a:T i (q % P)
  ·rfl
  ·rw[h _ (BW _ c) a]at b;simp at b
 ·rw[tY e]at b;exact b
def GInv(r:gR)(g:Nat->Bool):Prop:=∃ D,kn r D/\∀ i:Nat,i<r.K.length->(g i=gh↔i∈D)
def uQ(g:Nat->Bool)(l:List Int):Bool:=l.any fun x=>!g x.toNat
theorem GInv.start(r:gR):GInv r (fun _=>gj):=⟨[],kn.nil r,fun i _=>fz⟩
theorem GInv.gone{r:gR}{g:Nat->Bool}(h:GInv r g)(hf:jG r)(hs:uQ g (edges r i)=gj):GInv r (fun j=>if j=i then gh else g j):=by
 obtain⟨D,h1,h2⟩:=h;refine⟨D ++ [i],h1.push fun k a=>?_,fun j hj=>?_⟩
 ·obtain⟨k',e,b⟩:=hf.edges a;have c:k=k':=fu;subst c;refine(h2 k b).1 ?_;unfold uQ at hs;rw[List.any_eq_false]at hs;have:=hs _ a
  simpa using this
 ·rw[List.mem_append];show(if j=i then gh else g j)=gh↔_;by_cases e:j=i
  ·subst e;simp
  ·rw[gy e,h2 j hj];simp[e]
theorem GInv.done{r:gR}{g:Nat->Bool}(h:GInv r g)(hf:jG r)(b:∀ i,i<r.K.length->g i=gj->uQ g (edges r i)=gh):(∃ i,i<r.K.length/\g i=gj)↔¬j9 r:=by
 obtain⟨D,h1,h2⟩:=h;constructor
 ·rintro⟨i,hi,hg⟩;refine bJa (S:=fun i=>i<r.K.length/\g i=gj) ⟨i,hi,hg⟩ fun j ⟨hj,c⟩=>?_;have:=b j hj c;unfold uQ at this;rw[AJ]at this;obtain⟨x,a,d⟩:=this;obtain⟨k,e,f⟩:=hf.edges a;subst e;exact⟨k,a,f,by simpa using d⟩
 ·intro l;refine Classical.byContradiction fun hn=>l (h1.fYj fun i hi=>(h2 i hi).1 ?_);cases hg:g i
  ·exact gH ⟨i,hi,hg⟩ hn
  ·rfl
def bh(l:List Int)(T:Nat->Nat->Bool)(p:Nat):Bool:=l.any fun x=>T x.toNat p
def Fv(c:gP)(i:Nat)(T:Nat->Nat->Bool)(p:Nat):Bool:=decide ((p:Int)∈c.args) || (bh (ib c i) T p && !decide ((p:Int)∈c.O))
theorem eVj{l:List Int}{T T':Nat->Nat->Bool}(h:∀ j,T j p=gh->T' j p=gh)(a:bh l T p=gh):bh l T' p=gh:=by
 unfold bh at a ⊢;rw[AJ]at a ⊢;obtain⟨x,b,h1⟩:=a;exact⟨x,b,h _ h1⟩
theorem cKd{c:gP}{T T':Nat->Nat->Bool}(h:∀ j,T j p=gh->T' j p=gh)(a:Fv c i T p=gh):Fv c i T' p=gh:=by
 unfold Fv at a ⊢;simp only[BQ,Av]at a ⊢;rcases a with a|⟨a,h2⟩
 ·exact .inl a
 ·exact .inr ⟨eVj h a,h2⟩
theorem eQv{l:List Int}{T T':Nat->Nat->Bool}(h:∀ x∈l,T x.toNat p=T' x.toNat p):bh l T p=bh l T' p:=by
 unfold bh
 induction l with
 | nil=>rfl
 | cons a l b=>rw[BZ,BZ,h a fz,b (fun x c=>h x (by simp[c]))]
theorem eQw{r:gR}(hf:jG r){c:gP}(hc:r.K[i]? = fU c){T T':Nat->Nat->Bool}(h:∀ j,j<r.K.length->T j p=T' j p):Fv c i T p=Fv c i T' p:=by
 unfold Fv;rw[eQv fun x a=>h _ (by have:=(hf.to i c hc).1 x a;omega)]
structure lq (r:gR) (P:Nat) (T:Nat->Nat->Bool):Prop where
 snd:∀ i p,i<r.K.length->p<P->T i p=gh->Live r i p
 pre:∀ i c p,r.K[i]? = fU c->p<P->T i p=gh->Fv c i T p=gh
theorem lq.start(r:gR)(P:Nat):lq r P (fun _ _=>gj):=⟨fun i p _ _ h=>(by cases h),fun i c p _ _ h=>by cases h⟩
theorem lq.step{r:gR}{P:Nat}{T:Nat->Nat->Bool}(h:lq r P T)(hf:jG r){i:Nat}{c:gP}(hc:r.K[i]? = fU c):lq r P (upd T i (Fv c i T)):=by
 have hi:=(gw hc).1
 have mono:∀ p,p<P->∀ j,T j p=gh->upd T i (Fv c i T) j p=gh:=by
  intro p hp j a;by_cases e:j=i
  ·subst e;rw[vX];exact h.pre j c p hc hp a
  ·rw[tY e];exact a
 refine⟨fun j p hj hp a=>?_,fun j g p b hp a=>?_⟩
 ·by_cases e:j=i
  ·subst e;rw[vX]at a;unfold Fv at a;simp only[BQ,Av,decide_eq_true_eq]at a;rcases a with a|⟨a,l⟩
   ·exact .arg hc a
   ·unfold bh at a;rw[AJ]at a;obtain⟨x,d,f⟩:=a;have hr:=(hf.to j c hc).1 x d;obtain⟨k,rfl⟩:∃ k:Nat,x=k:=⟨x.toNat,fu⟩;rw[AX]at f;exact .step hc d (h.snd k p fu hp f) (by simpa using l)
  ·rw[tY e]at a;exact h.snd j p hj hp a
 ·by_cases e:j=i
  ·subst e;rw[vX]at a;rw[hc]at b;injection b with b;subst b;exact cKd (mono p hp) a
  ·rw[tY e]at a;exact cKd (mono p hp) (h.pre j g p b hp a)
theorem lq.done{e:ia}{r:gR}{T:Nat->Nat->Bool}(h:lq r P T)(b:iq e r)(hP:r.M=P)(d:∀ i c p,r.K[i]? = fU c->p<P->Fv c i T p=gh->T i p=gh):∀ i p,i<r.K.length->p<P->(T i p=gh↔Live r i p):=by
 have key:∀ (i:Nat) (x:Int),Live r i x->T i x.toNat=gh:=by
  intro i x a
  induction a with
  | arg hc f=>
   rename_i i c p;have g:=Live.range b (.arg hc f);refine d i c p.toNat hc fu ?_;unfold Fv;rw[show((p.toNat:Nat):Int)=p by omega,gD f];rfl
  | step hc j a l m=>
   rename_i i k c p;have g:=a.range b;refine d i c p.toNat hc fu ?_;unfold Fv bh;rw[show((p.toNat:Nat):Int)=p by omega,gE l]
   have:((ib c i).any fun x=>T x.toNat p.toNat)=gh:=by
    rw[AJ];exact⟨_,j,by simpa using m⟩
   rw[this];simp
 intro i p hi hp;refine⟨h.snd i p hi hp,fun a=>?_⟩;have:=key i p a
 simpa using this
theorem eVk{e:ia}{r:gR}{T:Nat->Nat->Bool}(b:iq e r)(d:∀ i p,i<r.K.length->p<P->(T i p=gh↔Live r i p)){c:gP}(hc:r.K[i]? = fU c)(hp:p<P):bh (ib c i) T p=gh↔jI r i p:=by
 unfold bh;rw[AJ];constructor
 ·rintro⟨x,f,h⟩;have j:=(b.sa.to i c hc).1 x f;obtain⟨k,rfl⟩:∃ k:Nat,x=k:=⟨x.toNat,fu⟩;rw[AX]at h;exact⟨c,hc,k,f,(d k p fu hp).1 h⟩
 ·rintro⟨c',a,k,g,l⟩;rw[hc]at a;injection a with a;subst a;have j:=(b.sa.to i c hc).1 _ g;exact⟨_,g,by rw[AX];exact(d k p fu hp).2 l⟩
theorem bVj{m:Nat}{l:List Int}(h:lY m l=gh):l.length<=m:=by
 unfold lY at h;simp only[Av,decide_eq_true_eq]at h;exact h.1
theorem se{s:iu}(h:je s=gh):s.a1.length<=8/\s.out.length<=8:=by
 unfold je at h;simp only[Av]at h;exact⟨bVj h.1,bVj h.2⟩
theorem eQh(op:Int):(gJ op).length<=2:=by
 unfold gJ
 split <;> (try split) <;> simp
theorem qG{e:ia}{s:iu}{op:Int}{i o:List Int}(he:iH e=gh)(hs:je s=gh)(h:iV e s op n=fU (i,o)):i.length<=8/\o.length<=8:=by
 have h1:=se hs;unfold iV at h
 split at h
 ·simp at h;obtain⟨rfl,rfl⟩:=h;simp
 split at h
 ·split at h <;> simp at h;obtain⟨rfl,rfl⟩:=h;simp
 split at h
 ·split at h <;> simp at h;obtain⟨rfl,rfl⟩:=h;simp
 split at h
 ·split at h <;> simp at h;obtain⟨rfl,rfl⟩:=h;simp
 split at h
 ·split at h <;> simp at h;obtain⟨rfl,rfl⟩:=h;exact⟨h1.2,fz⟩
 split at h
 ·split at h <;> simp at h;obtain⟨rfl,rfl⟩:=h;simp
 split at h
 ·obtain⟨g,hg,h2⟩:=Option.map_eq_some_iff.1 h;injection h2 with h2 a;subst h2;subst a;unfold iH at he;simp only[Av,List.all_eq_true]at he;exact se (he.2.2 g (AV hg))
 split at h
 ·obtain⟨g,hg,h2⟩:=Option.map_eq_some_iff.1 h;injection h2 with h2 a;subst h2;subst a;simp
 split at h
 ·split at h
  ·simp at h;obtain⟨rfl,rfl⟩:=h;simp
  ·cases h
 split at h
 ·split at h <;> simp at h
  obtain⟨rfl,rfl⟩:=h;have:=eQh op;exact⟨fu,fz⟩
 ·unfold mW at h
  split at h
  ·cases h
  split at h
  ·split at h <;> simp at h;obtain⟨rfl,rfl⟩:=h;simp
  split at h
  ·split at h
   ·simp at h
    split at h <;> (injection h with h2 a;subst h2;subst a;simp)
   ·cases h
  ·split at h
   ·split at h <;> simp at h;obtain⟨rfl,rfl⟩:=h;simp
   split at h
   ·split at h <;> simp at h;obtain⟨rfl,rfl⟩:=h;simp
   ·cases h
section
variable {P:Program} {ops:Array Oper} {Q:Exit->Act->BY->Prop} {md:Region.Mode} {S1 S2:BY->Prop} {ap:Nat}
def SD(S1 S2:BY->Prop)(ap:Nat)(listed:Array Bool)(w:BY):Prop:=S1 w/\(listed.getD ap gj=gj->S2 w)
theorem SD.of_same{l l':Array Bool}(h:SD S1 S2 ap l w)(he:l'.getD ap gj=l.getD ap gj):SD S1 S2 ap l' w:=⟨h.1,fun e=>h.2 (he ▸ e)⟩
theorem SD.after{l:Array Bool}(h:S1 w)(he:l.getD ap gj=gh):SD S1 S2 ap l w:=⟨h,fun e=>by rw[he]at e;cases e⟩
def sX(P:Program)(md:Region.Mode)(ops:Array Oper)(Q:Exit->Act->BY->Prop)(S1 S2:BY->Prop)(ap:Nat):Nat->Array Bool->Act->BY->Prop
 | 0,listed,a,w=>Region.ready md ops listed = []/\Q .normal a w
 | fuel+1,listed,a,w=>
  (Region.ready md ops listed = []->Q .normal a w) /\
  ∀ i∈Region.ready md ops listed,wpOp P ops Q i (fun b w'=>SD S1 S2 ap (listed.setIfInBounds i gh) w'/\sX P md ops Q S1 S2 ap fuel (listed.setIfInBounds i gh) b w') a w
theorem bKe:∀ (fuel:Nat) (listed:Array Bool) (a:Act) (w:BY),sX P md ops Q S1 S2 ap fuel listed a w->wpAny P md ops Q fuel listed a w
 | 0,_,_,_,h=>h
 | fuel+1,_,_,_,h=>⟨h.1,fun i hi=>wpOp_mono (fun b w' c=>bKe fuel _ b w' c.2) (h.2 i hi)⟩
def cYk(md:Region.Mode)(ops:Array Oper)(ap i:Nat):Bool:=match ops[ap]? with
 | some o=>o.after.any fun e=>Region.binds md e && e.on == i
 | none=>gj
theorem bQl{f:Oper}{v:Ba}{y:BY->Prop}{edge:Prop}(hi:ops[i]? = fU f)(z:∀ (j:Nat) (o:Oper) cs b,ops[j]? = fU o->o.op ≠ .select cs b)
  (I:∀ c a w,Q (.panic c) (a.put f.dst v) w->Q (.panic c) a w) (J:i≠ap) (sf:edge->cYk md ops ap i=gh)
  (A:∀ l w,(edge->l.getD ap gj=gj)->SD S1 S2 ap l w->y w) :
  ∀ (fuel:Nat) (listed:Array Bool) (a:Act) (w:BY),
   (∀ j g,ops[j]? = fU g->j≠i->listed.getD j gh=gj->(∀ e∈g.after,Region.binds md e=gh->e.on≠i)->f.apart ops g=gh) ->
   i∈Region.ready md ops listed->(edge->listed.getD ap gj=gj)->YieldsIf P ops y f v a->SD S1 S2 ap listed w ->
   sX P md ops Q S1 S2 ap fuel (listed.setIfInBounds i gh) (a.put f.dst v) w->sX P md ops Q S1 S2 ap (fuel+1) listed a w:=by
 have same:∀ (l:Array Bool),(l.setIfInBounds i gh).getD ap gj=l.getD ap gj:=fun l=>getD_set_ne gj J;intro fuel
 induction fuel with
 | zero=>
  intro listed a w _ m q r n H;refine⟨fun h=>(by rw[h]at m;cases m),fun j hj=>?_⟩;by_cases d:j=i
  ·subst d;exact r.wpOp hi (A _ _ q n) ⟨n.of_same (same _),H⟩
  ·have:=ready_mono hj d;rw[H.1]at this;cases this
 | succ fuel K=>
  intro listed a w hfree m q r n H;refine⟨fun h=>(by rw[h]at m;cases m),fun j hj=>?_⟩;by_cases d:j=i
  ·subst d;exact r.wpOp hi (A _ _ q n) ⟨n.of_same (same _),H⟩
  ·have h1:=H.2 j (ready_mono hj d);obtain⟨B,g,s,L⟩:=mem_ready.1 hj
   have C:∀ e∈g.after,Region.binds md e=gh->e.on≠i:=fun e he p heq=>by
    have h1:=L e he p;have D:=(mem_ready.1 m).1;rw[heq]at h1;rcases Nat.lt_or_ge i listed.size with t|t
    ·simp[t]at D h1;rw[D]at h1;cases h1
    ·simp[Array.getElem?_eq_none t]at h1
   have h2:=wpOp_putIf s (hfree j g s d B C) (fun cs b=>z i f cs b hi) (fun cs b=>z j g cs b s) I r h1
   have M:∀ k ok,ops[k]? = fU ok->k≠i->(listed.setIfInBounds j gh).getD k gh=gj ->
     (∀ e∈ok.after,Region.binds md e=gh->e.on≠i)->f.apart ops ok=gh:=fun k ok N O E R=>by
    refine hfree k ok N O ?_ R;by_cases F:j=k
    ·subst F;exact B
    ·rw[getD_set_ne gh F]at E;exact E
   have S:edge->(listed.setIfInBounds j gh).getD ap gj=gj:=fun he=>by
    have T:j≠ap:=fun e=>by
     subst e;have u:=sf he;unfold cYk at u;rw[s]at u;obtain⟨x,U,p⟩:=Array.any_eq_true'.1 u;simp only[Av,beq_iff_eq]at p;exact C x U p.1 p.2
    rw[getD_set_ne gj T];exact q he
   refine wpOp_mono (fun V w' W=>?_) h2;obtain⟨X,Y,Z⟩:=W;have G:SD S1 S2 ap (listed.setIfInBounds j gh) w':=Y.of_same (by rw[Array.setIfInBounds_comm _ _ (Ne.symm d)];exact(same _).symm);refine⟨G,K (listed.setIfInBounds j gh) V w' M (ready_mono m (Ne.symm d)) S X G ?_⟩;rw[Array.setIfInBounds_comm _ _ d];exact Z
theorem fW{l:List Oper}{b:Oper}{v:Ba}{fuel:Nat}{listed:Array Bool}{a:Act}{w:BY}(hi:l[i]? = fU b)
  (hs:Region.noSelect l.toArray=gh) (hf:Region.free md l.toArray listed i=gh) (g:(Region.ready md l.toArray listed).contains i=gh)
  (j:∀ c a w,Q (.panic c) (a.put b.dst v) w->Q (.panic c) a w) (k:(i != ap)=gh) (m:YieldsIf P l.toArray S1 b v a) (d:SD S1 S2 ap listed w)
  (h:SD S1 S2 ap (listed.setIfInBounds i gh) w->sX P md l.toArray Q S1 S2 ap fuel (listed.setIfInBounds i gh) (a.put b.dst v) w):sX P md l.toArray Q S1 S2 ap (fuel+1) listed a w:=
 have e:i≠ap:=(by simpa using k);have f:l.toArray[i]? = fU b:=(by simpa using hi)
 bQl (edge:=False) f (Region.noSelect_spec hs) j e (fun h=>h.elim) (fun _ _ _ h=>h.1) fuel listed a w (Region.free_spec f hf) (by simpa using g) (fun h=>h.elim) m d (h (d.of_same (getD_set_ne gj e)))
theorem ig(i:Nat){l:List Oper}{b:Oper}{v:Ba}{listed:Array Bool}{a d:Act}(e:SD S1 S2 ap listed w)(h:SD S1 S2 ap (listed.setIfInBounds i gh) w->sX P md l.toArray Q S1 S2 ap fuel (listed.setIfInBounds i gh) d w)
  (hi:l[i]? = fU b:=by rfl) (hs:Region.noSelect l.toArray=gh:=by kernel_rfl) (hf:Region.free md l.toArray listed i=gh:=by kernel_rfl) (f:(Region.ready md l.toArray listed).contains i=gh:=by kernel_rfl)
  (g:∀ c a w,Q (.panic c) (a.put b.dst v) w->Q (.panic c) a w:=by exact fun _ _ _ h=>h) (j:(i != ap)=gh:=by rfl) (k:Region.wanted b (yielded l.toArray a.tmps)=gh:=by rfl)
  (m:∀ w,S1 w->(execOp a.eval b).run P w = .ok (.value v) w:=by(intro w n;(try dsimp only at n);go_simp;(try with_reducible rfl)))
  (ha:a.put b.dst v=d:=by((try simp only[Act.put,List.setIfInBounds_toArray,List.set_cons_zero,List.set_cons_succ]);(try rfl))):sX P md l.toArray Q S1 S2 ap (fuel+1) listed a w:=
 fW hi hs hf f g j (Or.inl ⟨k,m⟩) e (fun o=>ha ▸ h o)
theorem nY{l:List Oper}{b:Oper}{v:Ba}{fuel:Nat}{listed:Array Bool}{a:Act}{w:BY}(hi:l[i]? = fU b)
  (hs:Region.noSelect l.toArray=gh) (hf:Region.free md l.toArray listed i=gh) (g:(Region.ready md l.toArray listed).contains i=gh)
  (j:∀ c a w,Q (.panic c) (a.put b.dst v) w->Q (.panic c) a w) (k:(i != ap)=gh) (m:cYk md l.toArray ap i=gh) (n:listed.getD ap gj=gj)
  (o:YieldsIf P l.toArray (fun w=>S1 w/\S2 w) b v a) (d:SD S1 S2 ap listed w)
  (h:SD S1 S2 ap (listed.setIfInBounds i gh) w->sX P md l.toArray Q S1 S2 ap fuel (listed.setIfInBounds i gh) (a.put b.dst v) w):sX P md l.toArray Q S1 S2 ap (fuel+1) listed a w:=
 have e:i≠ap:=(by simpa using k);have f:l.toArray[i]? = fU b:=(by simpa using hi)
 bQl (edge:=True) f (Region.noSelect_spec hs) j e (fun _=>m) (fun _ _ h1 h=>⟨h.1,h.2 (h1 trivial)⟩) fuel listed a w (Region.free_spec f hf) (by simpa using g) (fun _=>n) o d (h (d.of_same (getD_set_ne gj e)))
theorem gX{l:List Oper}{o:Oper}{fuel:Nat}{listed:Array Bool}{a:Act}{w:BY}(c:Region.ready md l.toArray listed = [i])(e:l[i]? = fU o)
  (h:∀ b:Act->BY->Prop,Shut (∀ a w,SD S1 S2 ap (listed.setIfInBounds i gh) w->(SD S1 S2 ap (listed.setIfInBounds i gh) w->sX P md l.toArray Q S1 S2 ap fuel (listed.setIfInBounds i gh) a w)->b a w)->if Region.wanted o (yielded l.toArray a.tmps)=gh then Oper.wp P o a w b Q else b (a.put o.dst undef) w) :
  sX P md l.toArray Q S1 S2 ap (fuel+1) listed a w:=
 ⟨fun d=>(by rw[c]at d;cases d),fun j hj=>by
  rw[c]at hj;have:=List.mem_singleton.1 hj;subst this
  exact wpOp_step (by simpa using e) (fun b f=>h b (fun a w h1 h2=>f a w ⟨h1,h2 h1⟩))⟩
theorem jX{l:List Oper}{listed:Array Bool}{a:Act}(b:Region.ready md l.toArray listed = [])(h:Q .normal a w):∀ fuel,sX P md l.toArray Q S1 S2 ap fuel listed a w
 | 0=>⟨b,h⟩
 | _+1=>⟨fun _=>h,by rw[b];simp⟩
theorem jY{l:List Oper}{id:Nat}{a:Act}(S1 S2:BY->Prop)(ap:Nat)(b:P.follows .mixedOrders=gh)(h1:S1 w.drew)(h2:S2 w.drew)
  (h:SD S1 S2 ap (Array.replicate l.length gj) w.drew->sX P .any l.toArray Q S1 S2 ap l.length (Array.replicate l.length gj) a w.drew):(Code.region id l.toArray gh).wp P Q a w:=
 wp_region_any b (bKe _ _ _ _ (by
  have c:=h ⟨h1,fun _=>h2⟩;rw[List.size_toArray]
  exact c))
end
structure hU where
 J:ia
 b0:List gR
def jf(w:BY)(v:Ba)(p:hU):Prop:=∃ a b d f,v = fM #[a,fF fN p.J.G,b,d,fH p.J.L,f]/\Structs 2 kA w a p.J.R/\Ints w b p.J.E/\Bools w d p.J.a3/\Structs 5 kr w f p.b0
theorem jf.C{w w':BY}{B:Nat}{r:Ba}{p:hU}(h:jf w r p)(c:Bb B w w')(g:w.heap.size<=B):jf w' r p:=by
 obtain⟨a,b,d,f,e,h1,h2,i,j⟩:=h;exact⟨a,b,d,f,e,h1.C c g (fun r x q=>q.C c g),h2.C c g,i.C c g,j.C c g (fun r x q=>q.C c g)⟩
theorem jf.J{w:BY}{a b d f:Ba}{x:Int}{m:Bool}{p:hU}(h:jf w (fM #[a,fF fN x,b,d,fH m,f]) p):iG w (fM #[a,fF fN p.J.G,b,d,fH p.J.L]) p.J:=by
 obtain⟨a',b',d',f',e,h1,h2,c,h4⟩:=h;injection e with e;injection e with e;simp only[List.cons.injEq,and_true]at e;obtain⟨rfl,_,rfl,rfl,_,rfl⟩:=e;exact⟨a,b,d,rfl,h1,h2,c⟩
theorem Structs.row{c:Nat}{l:List gR}(h:Structs 5 kr w (fG A n c) l){x:gR}(a:l[k]? = fU x):
  ∃ b o p q r s,A=fU ⟨b,o,fT⟩/\b<w.heap.size/\w.cell? ⟨b,o+k*5,fT⟩=fU p/\w.cell? ⟨b,o+k*5+1,fT⟩=fU q/\w.cell? ⟨b,o+k*5+2,fT⟩=fU (fF fN x.M)/\w.cell? ⟨b,o+k*5+3,fT⟩=fU r/\w.cell? ⟨b,o+k*5+4,fT⟩=fU s /\
   Ints w p x.a2.a1/\Ints w q x.a2.out/\Ints w r x.params/\Structs 5 jE w s x.K:=by
 obtain⟨b,o,c',rr,e,d,hr,⟨p,q,r,s,rfl,h1,h2,f,g⟩,hc⟩:=h.at fu a;injection e with i e2 e3;exact⟨b,o,p,q,r,s,i,d,hc 0 _ rfl,hc 1 _ rfl,hc 2 _ rfl,hc 3 _ rfl,hc 4 _ rfl,h1,h2,f,g⟩
theorem jn.of{p q r s:Ba}{x:gR}(h1:Ints w p x.a2.a1)(h2:Ints w q x.a2.out)(a:Ints w r x.params)(b:Structs 5 jE w s x.K):jn w (fM #[p,q,fF fN x.M,r,s]) x:=⟨p,q,r,s,rfl,h1,h2,a,b⟩
theorem cZd(w:BY)(a b:Obj):Bb w.heap.size w ((w.alloc a).alloc b):=((Ax _ _).alloc (Aq _) _).alloc fz _
theorem qH{a b:Ba}(k:gO w g e #[a,b]):w.cell? ⟨g,0,fT⟩=fU a/\w.cell? ⟨g,1,fT⟩=fU b:=⟨by simpa using k.cell 0,by simpa using k.cell 1⟩
theorem pQ{a b c d f h:Ba}(k:gO w g e #[a,b,c,d,f,h]):
  w.cell? ⟨g,0,fT⟩=fU a/\w.cell? ⟨g,1,fT⟩=fU b/\w.cell? ⟨g,2,fT⟩=fU c/\w.cell? ⟨g,3,fT⟩=fU d/\w.cell? ⟨g,4,fT⟩=fU f/\w.cell? ⟨g,5,fT⟩=fU h:=
 ⟨by simpa using k.cell 0,by simpa using k.cell 1,by simpa using k.cell 2,by simpa using k.cell 3,by simpa using k.cell 4,by simpa using k.cell 5⟩
structure iD (p:hU):Prop where
 J:iH p.J=gh
 len:(p.b0.length:Int)+p.J.G=p.J.R.length
 row:∀ (i:Nat) r,p.b0[i]? = fU r->iq p.J r/\p.J.R[p.J.G.toNat+i]? = fU r.a2
theorem kY{e:ia}(h:iH e=gh):e.R.length<=64/\0<=e.G/\e.G<=e.R.length:=by
 unfold iH at h;simp only[Av,decide_eq_true_eq]at h;exact⟨h.1.1,h.1.2.1,h.1.2.2.1⟩
def dYi(b:Bool)(w:BY)(a:Ending)(w':BY):Prop:=a = fS (fH b)/\∃ n,w'=w.drewN n
theorem bKc{l m:List Int}{x y:Int}(h:l.take k=m.take k)(a:l[k]? = fU x)(b:m[k]? = fU y):x=y->l.take (k+1)=m.take (k+1):=by
 intro e;subst e;obtain⟨h1,h2⟩:=gw a;obtain⟨c,d⟩:=gw b;rw[Ak h1,Ak c,h,h2,d]
theorem cKq{l m:List Int}{x y:Int}(b:l[k]? = fU x)(a:m[k]? = fU y)(h:x≠y):l≠m:=by
 intro e;subst e;rw[b]at a;injection a with a;exact h a
theorem bWq(v u:Ba)(l m:List Int)(w:BY)(h1:Ints w v l)(h2:Ints w u m):Bc fZ 45 #[v,u] w (dYi (decide (l=m)) w):=by
 obtain⟨A1,c1,rfl⟩:=h1.I;obtain⟨A2,c2,rfl⟩:=h2.I;have H1:=fQ h1.ir;have j:=fQ h2.ir;have B:=h1.kj.2.2.1;have C:=h2.kj.2.2.1;clear h1 h2;by_cases hlen:l.length=m.length
 ·obtain⟨n,hn⟩:=fX l.length;have d:m.length=n:=fu;have p:=fQ hn;have q:=fQ d;rw[hn]at H1 B ⊢;rw[d]at j C ⊢;clear hn d hlen;go_in;go_wp2;go_loopw [13] (fun i wr=>∃ k:Nat,k<=n/\i = fF fN k/\Hid (l.take k=m.take k/\∃ z,wr=w.drewN z)) (fun i _=>n - (intOf i).toNat)
  case atStart=>exact⟨0,fu,rfl,fQ ⟨fz,0,rfl⟩⟩
  case round=>
   obtain⟨k,hk,rfl,IM⟩:=hrel;obtain⟨c,z,rfl⟩:=IM.out;clear IM;by_cases r:k<n
   ·have t2:(k:Int)<n:=fu;obtain⟨x,f⟩:∃ x,l[k]? = fU x:=⟨_,Aj (by rw[p.out];exact r)⟩;obtain⟨y,g⟩:∃ y,m[k]? = fU y:=⟨_,Aj (by rw[q.out];exact r)⟩;obtain⟨b,o,rfl,hb,hc⟩:=H1.cell f;obtain⟨b2,o2,rfl,al,an⟩:=j.cell g;have s:=fQ f;have t:=fQ g;have F:=fQ c;clear f g c;by_cases a:x=y
    ·have q1:(x != y)=gj:=(by simpa using a);have h:=fQ a;clear a;go_wp2_with fail;go_quiet (fail);go_wp2;exact⟨⟨k+1,fu,fz,fQ ⟨bKc F.out s.out t.out h.out,_,rfl⟩⟩,fB⟩
    ·have q1:(x != y)=gh:=(by simpa using a);have h:=fQ a;clear a;go_wp2_with fail;go_quiet (fail);go_wp2;go_ret;exact⟨by rw[gE (cKq s.out t.out h.out)];rfl,z+nq,by simp[World.drewN];omega⟩
   ·have E:decide ((k:Int)<n)=gj:=by simp;omega
    have A:l=m:=by
     rw[<-Az (l:=l) (i:=k) (by have:=p.out;omega),<-Az (l:=m) (i:=k) (by have:=q.out;omega),c]
    have G:=fQ A;clear A c;go_wp2;go_ret;exact⟨by rw[gD G.out];rfl,_,rfl⟩
 ·have H:l≠m:=fun e=>hlen (by rw[e]);have D:((l.length:Int) != (m.length:Int))=gh:=fw;go_in;go_wp2;go_ret;exact⟨by rw[gE H];rfl,0,rfl⟩
theorem bWr(v u:Ba)(l m:List Int)(w:BY)(h1:Ints w v l)(h2:Ints w u m):Bc fZ 84 #[v,u] w (dYi (decide (l=m)) w):=by
 obtain⟨A1,c1,rfl⟩:=h1.I;obtain⟨A2,c2,rfl⟩:=h2.I;have H1:=fQ h1.ir;have j:=fQ h2.ir;have B:=h1.kj.2.2.1;have C:=h2.kj.2.2.1;clear h1 h2;by_cases hlen:l.length=m.length
 ·obtain⟨n,hn⟩:=fX l.length;have d:m.length=n:=fu;have p:=fQ hn;have q:=fQ d;rw[hn]at H1 B ⊢;rw[d]at j C ⊢;clear hn d hlen;go_in;go_wp2;go_loopw [5] (fun i wr=>∃ k:Nat,k<=n/\i = fF fN k/\Hid (l.take k=m.take k/\∃ z,wr=w.drewN z)) (fun i _=>n - (intOf i).toNat)
  case atStart=>exact⟨0,fu,rfl,fQ ⟨fz,0,rfl⟩⟩
  case round=>
   obtain⟨k,hk,rfl,IM⟩:=hrel;obtain⟨c,z,rfl⟩:=IM.out;clear IM;by_cases r:k<n
   ·have t2:(k:Int)<n:=fu;obtain⟨x,f⟩:∃ x,l[k]? = fU x:=⟨_,Aj (by rw[p.out];exact r)⟩;obtain⟨y,g⟩:∃ y,m[k]? = fU y:=⟨_,Aj (by rw[q.out];exact r)⟩;obtain⟨b,o,rfl,hb,hc⟩:=H1.cell f;obtain⟨b2,o2,rfl,al,an⟩:=j.cell g;have s:=fQ f;have t:=fQ g;have F:=fQ c;clear f g c;by_cases a:x=y
    ·have q1:(x != y)=gj:=(by simpa using a);have h:=fQ a;clear a;go_wp2_with fail;go_quiet (fail);go_wp2;exact⟨⟨k+1,fu,fz,fQ ⟨bKc F.out s.out t.out h.out,_,rfl⟩⟩,fB⟩
    ·have q1:(x != y)=gh:=(by simpa using a);have h:=fQ a;clear a;go_wp2_with fail;go_quiet (fail);go_wp2;go_ret;exact⟨by rw[gE (cKq s.out t.out h.out)];rfl,z+nq,by simp[World.drewN];omega⟩
   ·have E:decide ((k:Int)<n)=gj:=by simp;omega
    have A:l=m:=by
     rw[<-Az (l:=l) (i:=k) (by have:=p.out;omega),<-Az (l:=m) (i:=k) (by have:=q.out;omega),c]
    have G:=fQ A;clear A c;go_wp2;go_ret;exact⟨by rw[gD G.out];rfl,_,rfl⟩
 ·have H:l≠m:=fun e=>hlen (by rw[e]);have D:((l.length:Int) != (m.length:Int))=gh:=fw;go_in;go_wp2;go_ret;exact⟨by rw[gE H];rfl,0,rfl⟩
def si(s t:iu):Bool:=decide (s.a1=t.a1) && decide (s.out=t.out)
theorem bWs{s t:iu}:si s t=gh↔s=t:=by
 cases s;cases t;simp[si]
theorem cJp(a b c d:Ba)(s t:iu)(w:BY)(ha:Ints w a s.a1)(g:Ints w b s.out)(hc:Ints w c t.a1)(hd:Ints w d t.out):Bc fZ 51 #[fM #[a,b],fM #[c,d]] w fun f w'=>f = fS (fH (si s t))/\Bb w.heap.size w w':=by
 have e:=fQ (cZd w (fR #[a,b] 62) (fR #[c,d] 62));have h1:=fQ (ha.C e.out (Aq _));have h2:=fQ (g.C e.out (Aq _));have k:=fQ (hc.C e.out (Aq _));have l:=fQ (hd.C e.out (Aq _));have h:=gO.alloc (gO.a4 w 62 #[a,b]) (fR #[c,d] 62);have i:=gO.X (w.alloc (fR #[a,b] 62)) (N:=w.heap.size+1) 62 #[c,d] fz;unfold si;clear ha g hc hd;go_in;go_wp2_with fail;refine(bWr _ _ _ _ _ h1.out k.out).mono ?_;rintro f w1 ⟨rfl,z,rfl⟩;have j:=fQ (fK e.out z);cases hq:decide (s.a1=t.a1)
 ·go_wp2;go_ret;exact⟨by rw[hq];rfl,j.out⟩
 ·obtain⟨e0,e1⟩:=qH (gO.drewN h z);obtain⟨f0,f1⟩:=qH (gO.drewN i z);go_wp2_with fail;refine(bWr _ _ _ _ _ (h2.C (fK (Ax _ _) z) (Aq _)) (l.C (fK (Ax _ _) z) (Aq _))).mono ?_;rintro f w2 ⟨rfl,m,rfl⟩;go_wp2;go_ret;exact⟨by rw[hq];rfl,fK e.out _⟩
def dYj(p:hU)(w:BY)(a:Ending)(w':BY):Prop:=∃ b:Bool,a = fS (fH b)/\(b=gh↔iD p)/\Bb w.heap.size w w'
def lI(p:hU)(M:Nat)(w1:BY)(k:Nat)(wr:BY):Prop:=Bb w1.heap.size w1 wr/\∀ (j:Nat) r,j<k->p.b0[j]? = fU r->iq p.J r/\p.J.R[M+j]? = fU r.a2
theorem lI.step{p:hU}{M:Nat}{w1 wr:BY}{r:gR}{s:iu}(h:lI p M w1 k wr)(c:p.b0[k]? = fU r)(hs:p.J.R[M+k]? = fU s)(h1:s.a1=r.a2.a1)(h2:s.out=r.a2.out)(hc:iq p.J r)(d:Bb wr.heap.size wr w'):lI p M w1 (k+1) w':=by
 refine⟨h.1.trans (d.mono h.1.size),fun j q hj hq=>?_⟩;rcases Nat.lt_succ_iff_lt_or_eq.1 hj with hj|rfl
 ·exact h.2 j q hj hq
 ·rw[c]at hq;injection hq with hq;subst hq;refine⟨hc,?_⟩;rw[hs];obtain⟨a,b⟩:=s;have h1:a=r.a2.a1:=h1;have h2:b=r.a2.out:=h2;subst h1;subst h2;rfl
theorem aJv(p:hU)(v:Ba)(w:BY)(hv:jf w v p):Bc fZ 23 #[v] w (dYj p w):=by
 obtain⟨a,b,d,f,rfl,h1,h2,h3,h4⟩:=hv;have aB:=fQ (show iG w (fM #[a,fF fN p.J.G,b,d,fH p.J.L]) p.J from⟨a,b,d,rfl,h1,h2,h3⟩);obtain⟨sA,sc,rfl,_,a1,_⟩:=h1.len;obtain⟨fA,fc,rfl,_,aL,_⟩:=h4.len;have aC:=fQ h1;have aD:=fQ h4;have an:=fQ ((Ax w.heap.size w).alloc (Aq _) (fR #[fG sA p.J.R.length sc,fF fN p.J.G,b,d,fH p.J.L,fG fA p.b0.length fc] 29));have K0:=fQ (gO.a4 w 29 #[fG sA p.J.R.length sc,fF fN p.J.G,b,d,fH p.J.L,fG fA p.b0.length fc]);clear h1 h2 h3 h4;go_in;go_wp2_with fail;refine(aZc _ p.J _ (aB.C an.out (Aq _))).mono ?_;rintro en w1 ⟨rfl,ao⟩;have o:=fQ (an.trans (ao.mono an.out.size));have KP:=fQ (K0.C ao K0.lt);clear ao;cases E:iH p.J
 ·go_wp2_with fail;go_ret;exact⟨gj,rfl,⟨fun h=>(by cases h),fun h=>(by have:=h.J;rw[E]at this;cases this)⟩,o.out⟩
 have aM:=kY E;obtain⟨M,hM⟩:∃ M:Nat,p.J.G=(M:Int):=⟨p.J.G.toNat,fu⟩;obtain⟨n,hn⟩:=fX p.b0.length;obtain⟨L,hL⟩:=fX p.J.R.length;obtain⟨S,hS⟩:=fX (n+M);have aN:=fQ E;have q:=fQ hM;have F:=fQ hn;have G:=fQ hL;have C:=fQ hS;have aO:M<=64:=fu;have aP:L<=64:=fu;rw[hn]at aL;have aQ:IntKind.i64.wrap ((n:Int)+(M:Int))=(S:Int):=(by rw[show(n:Int)+(M:Int)=(S:Int) by omega];exact IntWalk.i64_in _ fu);obtain⟨e0,l,e2,t,u,m⟩:=pQ KP.out;rw[hM]at l ⊢;rw[hL]at e0 aC ⊢;rw[hn]at m aD ⊢;have y1:=KP.lt;have aE:=fQ (show ∀ w',Bb w1.heap.size w1 w'->_/\_/\_/\_/\_/\_ from fun w' x=>⟨(x.cell (p:=⟨w.heap.size,_,fT⟩) y1).trans e0,(x.cell (p:=⟨w.heap.size,_,fT⟩) y1).trans l,(x.cell (p:=⟨w.heap.size,_,fT⟩) y1).trans e2,(x.cell (p:=⟨w.heap.size,_,fT⟩) y1).trans t,(x.cell (p:=⟨w.heap.size,_,fT⟩) y1).trans u,(x.cell (p:=⟨w.heap.size,_,fT⟩) y1).trans m⟩);clear E aM hM hn hL hS;by_cases aR:S=L
 ·subst aR;have q0:((S:Int) != (S:Int))=gj:=fz;go_wp2_with fail;go_loopw [27] (fun i wr=>∃ k:Nat,k<=n/\i = fF fN k/\Hid (lI p M w1 k wr)) (fun i _=>n - (intOf i).toNat)
  case atStart=>exact⟨0,fu,rfl,fQ ⟨Ax _ _,fun j r hj=>fu⟩⟩
  case round=>
   clear e0 l e2 t u m q0 aQ;obtain⟨k,hk,rfl,e⟩:=hrel;by_cases aS:k<n
   ·as_aux_lemma=>
    have t2:(k:Int)<n:=fu;obtain⟨r,hr⟩:∃ r,p.b0[k]? = fU r:=⟨_,Aj (by rw[F.out];exact aS)⟩;obtain⟨X,hX⟩:=fX (M+k);obtain⟨s,hs⟩:∃ s,p.J.R[X]? = fU s:=⟨_,Aj (by have:=C.out;have:=G.out;omega)⟩;have H:=fQ hr;have aq:=fQ (show p.J.R[M+k]? = fU s from hX ▸ hs);have a6:IntKind.i64.wrap ((M:Int)+(k:Int))=(X:Int):=(by rw[show(M:Int)+(k:Int)=(X:Int) by omega];exact IntWalk.i64_in _ (by have:=C.out;omega));have t3:(X:Int)<S:=(by have:=C.out;omega);have c:=o.trans (e.out.1.mono o.out.size);have g:=fQ c;obtain⟨y,fo,x0,x1,x3,x4,rfl,A,g0,g1,g2,g3,g4,I,J,i3,i4⟩:=aD.row hr;obtain⟨sb,so,u0,u1,rfl,ar,g5,g6,i5,i6⟩:=aC.a2 hs;replace g0:=(c.cell (p:=⟨y,_,fT⟩) A).trans g0;replace g1:=(c.cell (p:=⟨y,_,fT⟩) A).trans g1;replace g2:=(c.cell (p:=⟨y,_,fT⟩) A).trans g2;replace g3:=(c.cell (p:=⟨y,_,fT⟩) A).trans g3;replace g4:=(c.cell (p:=⟨y,_,fT⟩) A).trans g4;replace g5:=(c.cell (p:=⟨sb,_,fT⟩) ar).trans g5;replace g6:=(c.cell (p:=⟨sb,_,fT⟩) ar).trans g6;have z2:sb<wr.heap.size:=(by have:=c.size;omega);obtain⟨K,O,rfl⟩:=I.I;obtain⟨P,c1,rfl⟩:=J.I;obtain⟨Q,R,rfl⟩:=i3.I;obtain⟨T,U,rfl,_⟩:=i4.len;obtain⟨V,W,rfl⟩:=i5.I;obtain⟨Y,Z,rfl⟩:=i6.I;have aT:=fQ (I.C c (Aq _));have aU:=fQ (J.C c (Aq _));have aV:=fQ (i5.C c (Aq _));have aW:=fQ (i6.C c (Aq _));have aX:=fQ ((jn.of I J i3 i4).C c (Aq _));obtain⟨e0,l,e2,t,u,m⟩:=aE.out _ e.out.1;have y2:w.heap.size<wr.heap.size:=AQ y1 e.out.1.size;have au:=fQ (cZd wr (fR #[fG K r.a2.a1.length O,fG P r.a2.out.length c1,fF fN r.M,fG Q r.params.length R,fG T r.K.length U] 89) (fR #[fG V s.a1.length W,fG Y s.out.length Z] 62));have KR:=fQ (gO.alloc (gO.a4 wr 89 #[fG K r.a2.a1.length O,fG P r.a2.out.length c1,fF fN r.M,fG Q r.params.length R,fG T r.K.length U]) (fR #[fG V s.a1.length W,fG Y s.out.length Z] 62));have KS:=fQ (gO.X (wr.alloc (fR #[fG K r.a2.a1.length O,fG P r.a2.out.length c1,fF fN r.M,fG Q r.params.length R,fG T r.K.length U] 89)) (N:=wr.heap.size+1) 62 #[fG V s.a1.length W,fG Y s.out.length Z] fz);clear hr hs hX c I J i3 i4 i5 i6 A ar;go_wp2_with fail;refine(bWq _ _ _ _ _ (aV.C au.out (Aq _)) (aT.C au.out (Aq _))).mono ?_;rintro en w2 ⟨rfl,z,aw⟩;have D:=fQ (show Bb wr.heap.size wr w2 from aw ▸ fK au.out z);have ax:=(show Bb (((wr.alloc (fR #[fG K r.a2.a1.length O,fG P r.a2.out.length c1,fF fN r.M,fG Q r.params.length R,fG T r.K.length U] 89)).alloc (fR #[fG V s.a1.length W,fG Y s.out.length Z] 62)).heap.size) _ w2 from aw ▸ fK (Ax _ _) z);have al:=fQ (KR.C ax KR.lt);have aF:=fQ (KS.C ax KS.lt)
    clear ax aw;clear g0 g1 g2 g3 g4 g5 g6;cases ay:decide (s.a1=r.a2.a1)
    ·go_wp2_with fail;go_ret;refine⟨gj,rfl,⟨fun h=>(by cases h),fun h=>?_⟩,g.trans (D.mono g.out.size)⟩;have h1:=(h.row k r H.out).2;rw[show p.J.G.toNat=M by rw[q.out];rfl,aq.out]at h1;injection h1 with h1;rw[h1]at ay;simp at ay
    ·have aY:=fQ (of_decide_eq_true ay);obtain⟨v0,v1⟩:=qH aF.out;obtain⟨r0,r1,r2,r3,r4⟩:=gZ al.out;have y3:=gO.lt aF.out;have y4:=gO.lt al.out;go_wp2_with fail;refine(bWq _ _ _ _ _ (aW.C D.out (Aq _)) (aU.C D.out (Aq _))).mono ?_;rintro en w3 ⟨rfl,z2,aG⟩;have az:=(show Bb w2.heap.size w2 w3 from aG ▸ fK (Ax _ _) z2);have B:=fQ (D.trans (az.mono D.out.size));have aH:=fQ (al.C az al.lt);clear aG az;clear v0 v1 r0 r1 r2 r3 r4 y3 y4;cases aA:decide (s.out=r.a2.out)
     ·go_wp2_with fail;go_ret;refine⟨gj,rfl,⟨fun h=>(by cases h),fun h=>?_⟩,g.trans (B.mono g.out.size)⟩;have h1:=(h.row k r H.out).2;rw[show p.J.G.toNat=M by rw[q.out];rfl,aq.out]at h1;injection h1 with h1;rw[h1]at aA;simp at aA
     ·have aZ:=fQ (of_decide_eq_true aA);obtain⟨r0,r1,r2,r3,r4⟩:=gZ aH.out;have y4:=gO.lt aH.out;clear e0 l e2 t u m;obtain⟨e0,l,e2,t,u,m⟩:=aE.out _ (e.out.1.trans (B.mono e.out.1.size));go_wp2_with fail;refine(dXy p.J r _ _ _ ?_ (aX.C B.out (Aq _))).mono ?_
      ·have:=(aB.C (g.trans (B.mono g.out.size)) (Aq _));rw[q.out,G.out]at this;exact this
      rintro en w4 ⟨bb,rfl,aI,hb⟩;have aJ:=fQ (B.trans (hb.mono B.out.size));have aK:=fQ aI;clear aI hb r0 r1 r2 r3 r4 y4 e0 l e2 t u m;cases bb
      ·go_wp2_with fail;go_ret;refine⟨gj,rfl,⟨fun h=>(by cases h),fun h=>?_⟩,g.trans (aJ.mono g.out.size)⟩;exact aK.2 (h.row k r H.out).1
      ·go_wp2_with fail;exact⟨⟨k+1,fu,fz,fQ (e.out.step H.out aq.out aY.out aZ.out (aK.1 trivial) aJ.out)⟩,fB⟩
   ·as_aux_lemma=>
    go_wp2_with fail;go_ret;refine⟨gh,rfl,⟨fun _=>⟨aN.out,?_,fun i r hi=>?_⟩,fun _=>rfl⟩,o.trans (e.out.1.mono o.out.size)⟩
    ·have:=q.out;have:=F.out;have:=G.out;have:=C.out;omega
    ·rw[show p.J.G.toNat=M by rw[q.out];rfl];exact e.out.2 i r (by have:=(gw hi).1;have:=F.out;omega) hi
 ·have q0:((S:Int) != (L:Int))=gh:=fw;go_wp2_with fail;go_ret;refine⟨gj,rfl,⟨fun h=>(by cases h),fun h=>?_⟩,o.out⟩;have:=h.len;have:=q.out;have:=F.out;have:=G.out;have:=C.out;omega
section
variable {H:Type} {enc:TypeId×Ba->H} {w:BY}
theorem px:sZ enc fZ w 23 (fun w cs (l:List Int)=>∃ v,cs = [v]/\Ints w v l):=cVa underlying23 underlying3 fx fx
theorem eQi:sZ enc fZ w 24 (fun w cs (l:List Bool)=>∃ v,cs = [v]/\Bools w v l):=cZh underlying24 underlying4 fx (show 1<=fZ.bytesOf 4 by decide +kernel)
theorem c1:fZ.cellsOf 23=1:=fx
theorem dZf:sZ enc fZ w 62 kA:=by
 intro fuel cs x h c;obtain⟨e,v0,e0,f⟩:=lW underlying62 h c 0 0 1 23 rfl px rfl rfl c1;obtain⟨g,v1,d,i⟩:=lW underlying62 h c 1 1 1 23 rfl px rfl rfl c1;obtain⟨_,_,_,_,j,_,_⟩:=DataW.trod_struct underlying62 h;have k:cs.length=2:=j.trans fx
 match cs,k with
 | [a,b],_=>
  simp at e0 d;subst e0;subst d;exact⟨⟨e,g⟩,_,_,rfl,f,i⟩
theorem eVf:sZ enc fZ w 22 (fun w cs (l:List iu)=>∃ v,cs = [v]/\Structs 2 kA w v l):=by
 intro fuel cs x h a;obtain⟨l,v,e,hs,_⟩:=xZ (enc:=enc) (w:=w) underlying22 (show fZ.cellsOf 62=2 by kernel_rfl) fu (show 1<=fZ.bytesOf 62 by decide +kernel) dZf fuel cs x h a;exact⟨l,v,e,hs⟩
theorem qI:sZ enc fZ w 3 (fun _ cs (a:Int)=>cs = [fF fN a]/\(Lit.int fN a).wf=gh):=aKs underlying3
theorem fQv:sZ enc fZ w 52 (fun _ cs (a:Int)=>cs = [fF fO a]/\(Lit.int fO a).wf=gh):=aKs underlying52
theorem eQj:sZ enc fZ w 4 (fun _ cs (a:Bool)=>cs = [fH a]):=bZw underlying4
theorem ci:fZ.cellsOf 3=1:=fx
theorem cu:fZ.cellsOf 52=1:=fx
theorem cb:fZ.cellsOf 4=1:=fx
theorem cbs:fZ.cellsOf 24=1:=fx
theorem cgs:fZ.cellsOf 22=1:=fx
theorem cg:fZ.cellsOf 62=2:=fx
theorem ccs:fZ.cellsOf 87=1:=fx
theorem fQw:sZ enc fZ w 26 fVb:=by
 intro fuel cs x h e;obtain⟨k,v0,e0,l⟩:=lW underlying26 h e 0 0 1 22 rfl eVf rfl rfl cgs;obtain⟨m,g,i1⟩:=lW underlying26 h e 1 1 1 3 rfl qI rfl rfl ci;obtain⟨n,v2,e2,o⟩:=lW underlying26 h e 2 2 1 23 rfl px rfl rfl c1;obtain⟨l3,v3,i,p⟩:=lW underlying26 h e 3 3 1 24 rfl eQi rfl rfl cbs;obtain⟨l4,j⟩:=lW underlying26 h e 4 4 1 4 rfl eQj rfl rfl cb;obtain⟨_,_,_,_,q,_,_⟩:=DataW.trod_struct underlying26 h;have r:cs.length=5:=q.trans fx
 match cs,r with
 | [a,b,c,d,f],_=>
  simp at e0 g e2 i j;subst e0;subst g;subst e2;subst i;subst j;exact⟨⟨k,m,n,l3,l4⟩,_,_,_,rfl,l,o,p⟩
theorem eVg:sZ enc fZ w 86 jE:=by
 intro fuel cs x h e;obtain⟨l,e0,m⟩:=lW underlying86 h e 0 0 1 3 rfl qI rfl rfl ci;obtain⟨g,i,o⟩:=lW underlying86 h e 1 1 1 52 rfl fQv rfl rfl cu;obtain⟨p,v2,e2,q⟩:=lW underlying86 h e 2 2 1 23 rfl px rfl rfl c1;obtain⟨l3,v3,j,r⟩:=lW underlying86 h e 3 3 1 23 rfl px rfl rfl c1;obtain⟨l4,v4,k,s⟩:=lW underlying86 h e 4 4 1 23 rfl px rfl rfl c1;obtain⟨_,_,_,_,t,_,_⟩:=DataW.trod_struct underlying86 h;have u:cs.length=5:=t.trans fx
 match cs,u with
 | [a,b,c,d,f],_=>
  simp at e0 i e2 j k;subst e0;subst i;subst e2;subst j;subst k;have v:=bZv m;have h1:=bZu o;obtain⟨n,rfl⟩:∃ n:Nat,g=n:=⟨g.toNat,fu⟩;exact⟨⟨l,n,p,l3,l4⟩,_,_,_,rfl,⟨by show n<_;omega,v⟩,q,r,s⟩
theorem eQk:sZ enc fZ w 87 (fun w cs (l:List gP)=>∃ v,cs = [v]/\Structs 5 jE w v l):=by
 intro fuel cs x h a;obtain⟨l,v,e,hs,_⟩:=xZ (enc:=enc) (w:=w) underlying87 (show fZ.cellsOf 86=5 by kernel_rfl) fu (show 1<=fZ.bytesOf 86 by decide +kernel) eVg fuel cs x h a;exact⟨l,v,e,hs⟩
theorem fQx:sZ enc fZ w 89 kr:=by
 intro fuel cs x h e;obtain⟨j,e0⟩:=lW underlying89 h e 0 0 2 62 rfl dZf rfl rfl cg;obtain⟨k,g,i1⟩:=lW underlying89 h e 1 2 1 3 rfl qI rfl rfl ci;obtain⟨l,v2,e2,m⟩:=lW underlying89 h e 2 3 1 23 rfl px rfl rfl c1;obtain⟨l3,v3,i,n⟩:=lW underlying89 h e 3 4 1 87 rfl eQk rfl rfl ccs;obtain⟨_,_,_,_,o,_,_⟩:=DataW.trod_struct underlying89 h;have p:cs.length=5:=o.trans fx
 match cs,p with
 | [a,b,c,d,f],_=>
  simp at e0 g e2 i;obtain⟨x0,x1,x2,x3,x4⟩:=e0;subst g;subst e2;subst i;simp at x2;obtain⟨rfl,rfl⟩:=x2;exact⟨⟨j,k,l,l3⟩,_,_,_,_,rfl,x3,x4,m,n⟩
end
theorem small_of{H:Type}{P:Program}{ts:List TypeId}{a:List (DataW H)}(h:(DataW.weightsEach P ts a).all (· <= reachBytes)=gh){d:DataW H}(b:ts[j]? = fU t)(hd:a[j]? = fU d):pn P t d:=fun n hn=>by
 have:=List.all_eq_true.1 h n (DataW.weights_mem_each (j:=j) b hd n hn)
 simpa using this
section
variable {H:Type} {enc:TypeId×Ba->H} {w:BY}
theorem dZg{r:Reach}{fs:Array Field}(b:fZ.underlying t=fU (.struct fs))(hv:Value.okWide fZ w r a t v):∃ cs,v = fM cs:=by
 simp only[Value.okWide,b]at hv;obtain⟨cs,rfl,_⟩:=hv;exact⟨cs,rfl⟩
end
def qJ(n addr a:Nat):Bool:=decide (addr<=1099511627776) && (decide (a<=1099511627776) && decide (addr+a<=n))
def mJ(n:Nat)(wd:Int)(addr off:Nat):Int×Int:=
 if 4294967295<addr\/4294967295<off then(0,1)else if qJ n (addr+off) wd.toNat then((addr+off:Nat),0)else(0,35)
def qL(a:Nat)(q:Int):Int:=IntKind.u64.wrap (wrap64 (IntKind.u64.wrap (q*2 ^ (64 - 8*a))) / 2 ^ (64 - 8*a))
def nc(k q:Int):Int:=if k=127 then q % 4294967296 else q
def vW(k:Int)(a:Nat)(b:Bool)(q:Int):Int:=nc k (if b then qL a q else q)
def lr:List Nat->Nat
 | []=>0
 | b :: l=>b+256*lr l
theorem sj:∀ l:List Nat,jw l->lr l<256 ^ l.length
 | [],_=>by simp[lr]
 | b :: l,h=>by
  have h1:=sj l (fun x a=>h x (List.mem_cons_of_mem _ a));have h2:=h b (List.mem_cons_self ..);simp only[lr,Bv,Bx];omega
def oK(m:List Nat)(op:Int)(addr off:Nat):Int×Int:=match acc op with
 | none=>(0,1)
 | some (k,wd,st,a)=>if st then(0,1)else if(mJ m.length wd addr off).2=0 then(vW k wd.toNat a (lr ((m.drop (addr+off)).take wd.toNat)),0)else(0,(mJ m.length wd addr off).2)
theorem aKx{addr off:Nat}{wd:Int}(h:(mJ n wd addr off).2=0):mJ n wd addr off=(((addr+off:Nat):Int),0)/\addr+off+wd.toNat<=n/\addr<=4294967295/\off<=4294967295:=by
 revert h
 unfold mJ
 split
 ·intro h;simp at h
 ·split
  ·rename_i h1 h2;intro _;simp[qJ]at h2;exact⟨rfl,fu,fu,fu⟩
  ·intro h;simp at h
theorem eWa(h:jw l):(l.map UInt8.ofNat).map UInt8.toNat=l:=by
 rw[List.map_map]
 conv=>rhs;rw[<-List.map_id l]
 exact Bq fun x a=>by have:=h x a;simp;omega
def yZ(n:Nat)(most:Int)(a:Nat):Bool:=decide (n % 256=0/\(n:Int)+256*a<=min most 4096)
def lX(m:List Nat)(most:Int)(a:Nat):List Nat:=if yZ m.length most a then m++Aw (256*a) 0 else m
def rV(n:Nat)(most:Int)(a:Nat):Nat:=if yZ n most a then n / 256 else 4294967295
theorem aYx(h:jw m)(most:Int)(a:Nat):jw (lX m most a):=by
 unfold lX
 split
 ·intro x b;rcases List.mem_append.1 b with h1|h1
  ·exact h x h1
  ·rw[List.eq_of_mem_replicate h1];omega
 ·exact h
def mj(m:List Nat)(a N:Nat):Nat->List Nat
 | 0=>m
 | i+1=>(mj m a N i).set (a+i) (N / 256 ^ i % 256)
theorem qM(m:List Nat)(a N:Nat):∀ i,(mj m a N i).length=m.length
 | 0=>rfl
 | i+1=>by rw[mj,BJ,qM m a N i]
theorem aWs{m:List Nat}(h:jw m)(a N:Nat):∀ i,jw (mj m a N i)
 | 0=>h
 | i+1=>fun x b=>by
  rw[mj]at b;rcases Ab b with h1|h1
  ·exact aWs h a N i x h1
  ·omega
def lV(n:Nat)(op:Int)(addr off N:Nat):Int:=match acc op with
 | none=>1
 | some (k,wd,st,_)=>if st=gj then 1 else if k=127/\4294967295<N then 1 else(mJ n wd addr off).2
def eZm(op:Int):Nat:=match acc op with
 | none=>0
 | some (_,wd,_,_)=>wd.toNat
def lQ(m:List Nat)(op:Int)(addr off N:Nat):List Nat:=if lV m.length op addr off N=0 then mj m (addr+off) N (eZm op)else[]
theorem xK(A:Option Addr)(n c addr a:Nat)(w:BY)(hn:n<=140737488355328):
  Bc fZ 114 #[fG A n c,fF fO addr,fF fO a] w fun e w'=>e = fS (fH (qJ n addr a))/\w=w':=by
 by_cases h1:addr<=1099511627776
 ·have d:decide ((addr:Int)<=1099511627776)=gh:=fw;by_cases h2:a<=1099511627776
  ·have f:decide ((a:Int)<=1099511627776)=gh:=fw;have b:=fQ (show qJ n addr a=decide (addr+a<=n) by simp[qJ,h1,h2]);go_in;go_wp2;go_ret;rw[b.out];refine⟨?_,rfl⟩;show Ending.returned (fH (decide ((addr:Int)+(a:Int)<=(n:Int))))=_
   congr 2
   rw[BX];simp;omega
  ·have f:decide ((a:Int)<=1099511627776)=gj:=fw;have b:=fQ (show qJ n addr a=gj by simp[qJ,h1,h2]);clear h1 h2;go_in;go_wp2;go_ret;rw[b.out];exact⟨rfl,rfl⟩
 ·have d:decide ((addr:Int)<=1099511627776)=gj:=fw;have b:=fQ (show qJ n addr a=gj by simp[qJ,h1]);clear h1;go_in;go_wp2;go_ret;rw[b.out];exact⟨rfl,rfl⟩
theorem fKf(hy:y<256)(b:k<=7)(hq:q<256 ^ k):bits .or fO (q:Int) (IntKind.u64.wrap ((y:Int)*2 ^ (8*k)))=((q+y*256 ^ k:Nat):Int):=by
 have h1:256 ^ k<=256 ^ 7:=Ay fu b;have h2:y*256 ^ k<=255*256 ^ k:=Ah _ fu;have a:(256:Nat) ^ k=2 ^ (8*k):=(by rw[By])
 have e:(y:Int)*2 ^ (8*k)=((y*256 ^ k:Nat):Int):=by
  rw[Int.natCast_mul,a,Int.natCast_pow];rfl
 rw[e,qZ fu,aVc fu fu];refine gG Bj ?_;rw[a]at hq ⊢;rw[<-Nat.shiftLeft_eq,BV,<-Nat.shiftLeft_add_eq_or_of_lt hq];omega
theorem cXg:∀ (l:List Nat) (b:Nat),lr (l ++ [b])=lr l+b*256 ^ l.length
 | [],b=>by simp[lr]
 | x :: l,b=>by
  simp only[Bw,lr,cXg l b,Bv,Bx];have:b*(256 ^ l.length*256)=256*(b*256 ^ l.length):=(by rw[<-Nat.mul_assoc,Nat.mul_comm]);omega
theorem eWe(h:a<18446744073709551616):bits .and fO (a:Int) 1=((a % 2:Nat):Int):=by
 rw[show(1:Int)=((1:Nat):Int)from rfl,bits_and_u64_nat a 1 h fu];exact gG Bj (Nat.and_one_is_mod a)
theorem dVc(h:a<18446744073709551616):bits .and fO (a:Int) 4294967295=((a % 4294967296:Nat):Int):=by
 rw[show(4294967295:Int)=((2 ^ 32 - 1:Nat):Int)from rfl,bits_and_u64_nat a (2 ^ 32 - 1) h fy];exact gG Bj (AK a 32)
theorem eWf(hj:1<=j)(a:j<=8)(hq:q<256 ^ j):(bits .and fO ((q:Int) / 2 ^ (8*j - 1)) 1 == 1)=decide (2 ^ (8*j - 1)<=q):=by
 have e:(q:Int) / 2 ^ (8*j - 1)=((q / 2 ^ (8*j - 1):Nat):Int):=fz;have h2:256 ^ j=2*2 ^ (8*j - 1):=(by rw[show(256:Nat)=2 ^ 8 from rfl,<-By,<-Nat.pow_succ'];congr 1;omega);have hp:0<2 ^ (8*j - 1):=Nat.two_pow_pos _;have hd:q / 2 ^ (8*j - 1)<2:=(by rw[Nat.div_lt_iff_lt_mul hp];omega);rw[e,eWe fu,Bk hd,BX];have:=Nat.le_div_iff_mul_le hp (x:=1) (y:=q);simp;omega
theorem fXp(hj:j=1\/j=2\/j=4\/j=8)(hq:q<256 ^ j):qL j q=((if 2 ^ (8*j - 1)<=q then q+18446744073709551616 - 256 ^ j else q:Nat):Int):=by
 rcases hj with rfl|rfl|rfl|rfl <;> simp only[qL,IntKind.wrap_u64,wrap64] <;> split <;> simp at * <;> omega
theorem fXq{t:Nat}(a:x<2 ^ t)(ht:t<64):bits .or fO (x:Int) (IntKind.u64.wrap (2 ^ t))=((x+2 ^ t:Nat):Int):=by
 have h1:(2:Nat) ^ t<=2 ^ 63:=Ay fu fu;rw[show((2:Int) ^ t)=((2 ^ t:Nat):Int)from by simp,qZ fu,aVc fu fu];refine gG Bj ?_;have:=Nat.two_pow_add_eq_or_of_lt a 1;rw[Nat.mul_one]at this;rw[BV,<-this];omega
theorem sk(j:Nat):256 ^ j=2 ^ (8*j):=by rw[show(256:Nat)=2 ^ 8 from rfl,<-By]
def fKg(q j:Nat)(a i:Ba):Prop:=∃ t:Nat,8*j<=t/\t<=64/\i = fF fN t/\a = fF fO ((q+2 ^ t - 256 ^ j:Nat):Int)
def fXr(part:List Nat)(a:Nat)(b i:Ba):Prop:=∃ k:Nat,k<=a/\i = fF fN k/\b = fF fO (lr (part.take k):Nat)
theorem eJb(b o n c addr off a:Nat)(op k:Int)(s:Bool)(m:List Nat)(w:BY)(B:acc op=fU (k,(a:Int),gj,s))(hn:n<=140737488355328)
  (ha:addr<=4294967295) (ho:off<=4294967295) (K:m.length=n) (L:jw m) (aD:addr+off+a<=n) (M:∀ j (h:j<m.length),w.cell? ⟨b,o+j,fT⟩=fU (fF fP ((m[j]:Nat):Int))) :
  Bc fZ 116 #[fG (fU ⟨b,o,fT⟩) n c,fF fN op,fF fO addr,fF fO off] w fun e w'=>
   e = fS (fI #[fF fO (vW k a s (lr ((m.drop (addr+off)).take a))),fF fN 0])/\Bb w.heap.size w w':=by
 obtain⟨S,N,_,_⟩:=mK B;have T:1<=a:=fu;have O:a<=8:=fu;have U:=fQ (show fV op = fI #[fF fN k,fF fN a,fH gj,fH gh] by simp[fV,B]);have V:=fQ B;have W:=fQ M;have g:=fQ K;have D:=fQ L;have X:=fQ N;have Y:qJ n (addr+off) a=gh:=(by simp[qJ];omega);clear B M K L N S;have g1:decide (4294967295<(addr:Int))=gj:=fw;have g2:decide (4294967295<(off:Int))=gj:=fw;go_in;go_wp2_with fail;refine gu (gK _ _) ?_;rw[U.out];go_wp2_with fail;refine gu (xK _ n c (addr+off) a _ hn) ?_;rw[Y];go_wp2_with fail;go_loop [14,15] (fun E i=>fXr ((m.drop (addr+off)).take a) a E i) (fun _ i=>a+1 - (intOf i).toNat)
 case atStart=>exact⟨0,fu,rfl,rfl⟩
 case round=>
  obtain⟨j,hj,rfl,rfl⟩:=hrel;by_cases F:j<a
  ·have Z:=W.out (addr+off+j) (by rw[g.out];omega);have P:=D.out.get (k:=addr+off+j) (by rw[g.out];omega);obtain⟨y,G⟩:=fX (m[addr+off+j]'(by rw[g.out];omega));rw[G]at Z P;have HY:=fQ G;obtain⟨q,hq⟩:=fX (lr (((m.drop (addr+off)).take a).take j));rw[hq];have l:=fQ hq;clear G hq;go_wp2;refine⟨⟨j+1,fu,fz,?_⟩,fB⟩;have aA:j<((m.drop (addr+off)).take a).length:=(by simp[g.out];omega);have hlen:(((m.drop (addr+off)).take a).take j).length=j:=(by simp[g.out];omega)
   have aB:q<256 ^ j:=by
    have:=sj (((m.drop (addr+off)).take a).take j) (fun x f=>D.out x (Ai (AW (AW f))));rw[hlen]at this;rw[<-l.out];exact this
   rw[fKf P fu aB,Ak aA,cXg,hlen,l.out];simp[HY.out]
  ·obtain rfl:j=a:=fu;rw[List.take_take,Nat.min_self];have hq:=sj ((m.drop (addr+off)).take j) (fun x f=>D.out x (Ai (AW f)));rw[show((m.drop (addr+off)).take j).length=j from by simp[g.out];omega]at hq
   revert hq
   generalize l:lr ((m.drop (addr+off)).take j)=q;intro hq;replace l:=fQ l;have H:j=1\/j=2\/j=4\/j=8:=(by have:=X.out;omega);have I:=eWf T O hq;have C:=fQ (fXp H hq);have aE:=fQ H;clear H;go_wp2_with fail;refine gu (cVe V.out _) ?_
   have fin:∀ (v:Int) (p:Array Ba),p.getD 8 undef = fF fO v->p.getD 9 undef = fF fN 0->v=vW k j s q ->
     bodyPost fZ Tryz.f116 (fun e w'=>e = fS (fI #[fF fO (vW k j s (lr ((m.drop (addr+off)).take j))),fF fN 0])/\Bb w.heap.size w w') Exit.ret { tmps:=p,defers:=[] } w:=by
    intro v p e8 e9 hv;refine bodyPost_ret (results_tmp2 (t:=8) (u:=9) rfl _ _ _) rfl ⟨?_,Ax _ _⟩;rw[l.out,<-hv];show Ending.returned (fI #[p.getD 8 undef,p.getD 9 undef])=_;rw[e8,e9]
   have ak:q<18446744073709551616:=AQ hq (Ay (n:=256) fu O);have Q:=fQ (dVc ak)
   cases s with
   | true=>
    by_cases r:2 ^ (8*j - 1)<=q
    ·rw[gD r]at I;have A:=fQ r;have J:=fQ hq;clear r hq;go_wp2;go_loop [14,16] (fun E i=>fKg q j E i) (fun _ i=>65 - (intOf i).toNat)
     case atStart=>exact⟨8*j,Aq _,fu,fz,by rw[sk];simp⟩
     case round=>
      obtain⟨t,aC,aF,rfl,rfl⟩:=hrel;by_cases F:t<64
      ·have ai:decide ((t:Int)<64)=gh:=fw;generalize d:q+2 ^ t - 256 ^ j=x;replace d:=fQ d;go_wp2;have hp:2 ^ (8*j)<=2 ^ t:=Ay fu aC;have hq:=J.out;rw[sk]at hq;refine⟨⟨t+1,fu,fu,fz,?_⟩,fB⟩;have f:x<2 ^ t:=(by rw[<-d.out,sk];omega);rw[fXq f F,<-d.out,sk,Bx];refine gG (fun z:Nat=>Value.int fO (z:Int)) ?_;omega
      ·obtain rfl:t=64:=fu;generalize d:q+2 ^ 64 - 256 ^ j=x;replace d:=fQ d
       have f:x<18446744073709551616:=by
        have:=J.out;have:=d.out;omega
       have R:=fQ (show x=q+18446744073709551616 - 256 ^ j from d.out.symm);go_wp2
       ·refine fin _ _ rfl rfl ?_;rw[dVc f,vW,gz rfl,C.out,gz A.out,nc,gz (eq_of_beq ‹(k == 127)=gh›),R.out];rfl
       ·refine fin _ _ rfl rfl ?_;rw[vW,gz rfl,C.out,gz A.out,nc,gy (ne_of_beq_false ‹(k == 127)=gj›),R.out]
    ·rw[gE r]at I;have A:=fQ r;clear r hq;go_wp2
     ·refine fin _ _ rfl rfl ?_;rw[Q.out,vW,gz rfl,C.out,gy A.out,nc,gz (eq_of_beq ‹(k == 127)=gh›)];rfl
     ·refine fin _ _ rfl rfl ?_;rw[vW,gz rfl,C.out,gy A.out,nc,gy (ne_of_beq_false ‹(k == 127)=gj›)]
   | false=>
    clear I;go_wp2
    ·refine fin _ _ rfl rfl ?_;rw[Q.out,vW,gy fy,nc,gz (eq_of_beq ‹(k == 127)=gh›)];rfl
    ·refine fin _ _ rfl rfl ?_;rw[vW,gy fy,nc,gy (ne_of_beq_false ‹(k == 127)=gj›)]
theorem cJl(A:Option Addr)(n c addr off:Nat)(op:Int)(m:List Nat)(w:BY)(hs:Src w A n (jv m))(t:jw m)(hn:n<=140737488355328):
  Bc fZ 116 #[fG A n c,fF fN op,fF fO addr,fF fO off] w fun e w'=>e = fS (fI #[fF fO (oK m op addr off).1,fF fN (oK m op addr off).2])/\Bb w.heap.size w w':=by
 have d:m.length=n:=by have:=hs.1;rwa[ox]at this
 cases a:acc op with
 | none=>
  have f:=fQ (show oK m op addr off=(0,1) by simp[oK,a]);have g:=fQ (show fV op = fI #[fF fN 0,fF fN 0,fH gj,fH gj] by simp[fV,a]);clear a hs d;go_in;go_wp2_with fail;refine gu (gK _ _) ?_;rw[g.out];go_wp2;go_ret2;rw[f.out];exact⟨rfl,Ax _ _⟩
 | some r=>
  obtain⟨k,wd,st,u⟩:=r;obtain⟨hk,ag,_,_⟩:=mK a;obtain⟨h,rfl⟩:=Ac (show 0<=wd by omega);have g:=fQ (show fV op = fI #[fF fN k,fF fN h,fH st,fH gh] by simp[fV,a])
  cases st with
  | true=>
   have f:=fQ (show oK m op addr off=(0,1) by simp[oK,a]);clear a hs d;go_in;go_wp2_with fail;refine gu (gK _ _) ?_;rw[g.out];go_wp2;go_ret2;rw[f.out];exact⟨rfl,Ax _ _⟩
  | false=>
   by_cases i:4294967295<addr\/4294967295<off
   ·have f:=fQ (show oK m op addr off=(0,1) by simp[oK,a,mJ,i]);clear a hs d;by_cases h1:4294967295<addr
    ·have l:decide (4294967295<(addr:Int))=gh:=fw;clear i;go_in;go_wp2_with fail;refine gu (gK _ _) ?_;rw[g.out];go_wp2;go_ret2;rw[f.out];exact⟨rfl,Ax _ _⟩
    ·have l:decide (4294967295<(addr:Int))=gj:=fw;have v:decide (4294967295<(off:Int))=gh:=fw;clear i;go_in;go_wp2_with fail;refine gu (gK _ _) ?_;rw[g.out];go_wp2;go_ret2;rw[f.out];exact⟨rfl,Ax _ _⟩
   ·by_cases hi:qJ n (addr+off) h=gh
    ·have hp:(mJ m.length h addr off).2=0:=(by simp[mJ,i,d,hi]);obtain⟨ah,p,ha,q⟩:=aKx hp;rw[d,AX]at p;obtain⟨b,o,rfl,ai,hc⟩:=hs.2 fu;refine(eJb b o n c addr off h op k u m w a hn ha q d t p (fun j hj=>hc j _ (by simp[jv,hj]))).mono ?_;rintro e w' ⟨rfl,x⟩;refine⟨?_,x⟩;simp[oK,a,hp]
    ·have s:qJ n (addr+off) h=gj:=(by simpa using hi);have f:=fQ (show oK m op addr off=(0,35) by simp[oK,a,mJ,i,d,s]);clear a hs d hi;have l:decide (4294967295<(addr:Int))=gj:=fw;have v:decide (4294967295<(off:Int))=gj:=fw;have ha:addr<=4294967295:=fu;have q:off<=4294967295:=fu;clear i;go_in;go_wp2_with fail;refine gu (gK _ _) ?_;rw[g.out];go_wp2_with fail;refine gu (xK _ n c (addr+off) h _ hn) ?_;rw[s];go_wp2;go_ret2;rw[f.out];exact⟨rfl,Ax _ _⟩
theorem oF:(fZ.info? 5).map (fun i=>(i.zero,i.size,i.bytes))=fU (fU (fF fP 0),1,1):=fx
theorem cJk(A:Option Addr)(n c:Nat)(m:List Nat)(most:Int)(a:Nat)(w:BY)(hs:Src w A n (jv m))(x:A=fT->n=0/\c=0)(hn:n<=140737488355328)
  (aj : -9223372036854775808<=most) (ak:most<=9223372036854775807) (hp:a<18446744073709551616) :
  Bc fZ 117 #[fG A n c,fF fN most,fF fO a] w fun e w'=>∃ i j,e = fS (fI #[fG i (lX m most a).length j,fF fO (rV n most a)]) /\
   w'.ownsRow w.heap.size 5 1 (fG i (lX m most a).length j) (lX m most a).length (jv (lX m most a))/\Bb w.heap.size w w':=by
 have y:m.length=n:=(by have:=hs.1;rwa[ox]at this);have k:=fQ hs;have l:=fQ y;clear hs x y;by_cases hg:yZ n most a=gh
 ·have o:=fQ (show lX m most a=m++Aw (256*a) 0 by simp[lX,l.out,hg]);have q:=fQ (show rV n most a=n / 256 by simp[rV,hg]);simp only[yZ,decide_eq_true_eq]at hg;obtain⟨h1,h2⟩:=hg;have B:(n:Int)+256*a<=most:=fu;have h4:n+256*a<=4096:=fu;have h6:a<=16:=fu;clear h2;have h5:(n:Int) % 256=0:=fu
  have fin:∀ (w1:BY) (v:Ba) (h:Array Ba),w1.ownsRow w.heap.size 5 1 v (n+256*a) (jv m++Aw (256*a) (fF fP 0))->Bb w.heap.size w w1->h.getD 6 undef=v->h.getD 7 undef = fF fO ((n / 256:Nat):Int) ->
    bodyPost fZ Tryz.f117 (fun e w'=>∃ i j,e = fS (fI #[fG i (lX m most a).length j,fF fO (rV n most a)]) /\
     w'.ownsRow w.heap.size 5 1 (fG i (lX m most a).length j) (lX m most a).length (jv (lX m most a))/\Bb w.heap.size w w') Exit.ret { tmps:=h,defers:=[] } w1:=by
   intro w1 v h f g r s;refine bodyPost_ret (results_tmp2 rfl _ _ _) rfl ?_;obtain⟨i,j,rfl,_⟩:=fJ f;have z:(lX m most a).length=n+256*a:=(by rw[o.out];simp[l.out]);refine⟨i,j,?_,?_,g⟩
   ·rw[z,q.out];show Ending.returned (fI #[h.getD 6 undef,h.getD 7 undef])=_;rw[r,s]
   ·rw[z,o.out,cJs,show jv (Aw (256*a) 0)=Aw (256*a) (fF fP 0)from by simp[jv]];exact f
  rcases Int.lt_or_le most 4096 with C|C
  ·go_in;go_wp2_with (at_builtin;refine qu _ rfl _ (.tmp 9) 31 rfl 5 _ 1 underlying31 oF rfl rfl A n c _ rfl k.out (nI _) (by unfold maxLen;omega) fu ?_);rintro v w1 b d;have f:=fQ b;have g:=fQ d;clear b d;go_wp2_with (at_builtin;refine aZh _ rfl _ (.tmp 34) 31 3 rfl w.heap.size 5 (fF fP 0) 1 fN underlying31 underlying3 oF rfl rfl _ n (jv m) rfl f.out fN (256*a) _ fu rfl (by unfold maxLen;omega) fu g.out.size ?_)
   all_goals
    rintro v' w' b d;have t:=fQ b;have u:=fQ d;clear b d f;go_wp2;refine fin _ _ _ t.out (g.trans u.out) rfl ?_;show Value.int fO _ = fF fO _
    first|rfl|(congr 1;omega)
  ·go_in;go_wp2_with (at_builtin;refine qu _ rfl _ (.tmp 9) 31 rfl 5 _ 1 underlying31 oF rfl rfl A n c _ rfl k.out (nI _) (by unfold maxLen;omega) fu ?_);rintro v w1 b d;have f:=fQ b;have g:=fQ d;clear b d;go_wp2_with (at_builtin;refine aZh _ rfl _ (.tmp 34) 31 3 rfl w.heap.size 5 (fF fP 0) 1 fN underlying31 underlying3 oF rfl rfl _ n (jv m) rfl f.out fN (256*a) _ fu rfl (by unfold maxLen;omega) fu g.out.size ?_)
   all_goals
    rintro v' w' b d;have t:=fQ b;have u:=fQ d;clear b d f;go_wp2;refine fin _ _ _ t.out (g.trans u.out) rfl ?_;show Value.int fO _ = fF fO _
    first|rfl|(congr 1;omega)
 ·have p:yZ n most a=gj:=(by simpa using hg);have o:=fQ (show lX m most a=m by simp[lX,l.out,p]);have q:=fQ (show rV n most a=4294967295 by simp[rV,p])
  have D:n % 256≠0\/((n % 256=0/\16<a)\/(n % 256=0/\a<=16/\min most 4096<(n:Int)+256*a)):=by
   simp[yZ]at p;omega
  clear hg p
  have fin:∀ (w1:BY) (v:Ba) (h:Array Ba),w1.ownsRow w.heap.size 5 1 v n (jv m)->Bb w.heap.size w w1->h.getD 6 undef=v->h.getD 7 undef = fF fO 4294967295 ->
    bodyPost fZ Tryz.f117 (fun e w'=>∃ i j,e = fS (fI #[fG i (lX m most a).length j,fF fO (rV n most a)]) /\
     w'.ownsRow w.heap.size 5 1 (fG i (lX m most a).length j) (lX m most a).length (jv (lX m most a))/\Bb w.heap.size w w') Exit.ret { tmps:=h,defers:=[] } w1:=by
   intro w1 v h f g r s;refine bodyPost_ret (results_tmp2 rfl _ _ _) rfl ?_;obtain⟨i,j,rfl,_⟩:=fJ f;refine⟨i,j,?_,?_,g⟩
   ·rw[o.out,q.out,l.out];show Ending.returned (fI #[h.getD 6 undef,h.getD 7 undef])=_;rw[r,s];rfl
   ·rw[o.out,l.out];exact f
  rcases D with h1|⟨h1,h2⟩|⟨h1,h2,B⟩
  ·go_in;go_wp2_with (at_builtin;refine qu _ rfl _ (.tmp 9) 31 rfl 5 _ 1 underlying31 oF rfl rfl A n c _ rfl k.out (nI _) (by unfold maxLen;omega) fu ?_);rintro v w1 b d;have f:=fQ b;have g:=fQ d;clear b d;go_wp2_with fail
   all_goals first|exact fin _ _ _ f.out g.out rfl rfl|(exfalso;omega)|skip
  ·go_in;go_wp2_with (at_builtin;refine qu _ rfl _ (.tmp 9) 31 rfl 5 _ 1 underlying31 oF rfl rfl A n c _ rfl k.out (nI _) (by unfold maxLen;omega) fu ?_);rintro v w1 b d;have f:=fQ b;have g:=fQ d;clear b d;go_wp2_with fail
   all_goals first|exact fin _ _ _ f.out g.out rfl rfl|(exfalso;omega)|skip
  ·go_in;go_wp2_with (at_builtin;refine qu _ rfl _ (.tmp 9) 31 rfl 5 _ 1 underlying31 oF rfl rfl A n c _ rfl k.out (nI _) (by unfold maxLen;omega) fu ?_);rintro v w1 b d;have f:=fQ b;have g:=fQ d;clear b d;go_wp2_with fail
   all_goals first|exact fin _ _ _ f.out g.out rfl rfl|(exfalso;omega)|skip
def jx(k:Int)(N:Nat):Bool:=decide (k=126\/(k=127/\N<4294967296))
theorem py(k:Int)(N:Nat)(w:BY):Bc fZ 53 #[fF fN k,fF fO N] w fun e w'=>e = fS (fH (jx k N))/\w=w':=by
 by_cases h1:k=126
 ·have c:(k == 126)=gh:=(by simp[h1]);have a:=fQ (show jx k N=gh by simp[jx,h1]);clear h1;go_in;go_wp2;go_ret;rw[a.out];exact⟨rfl,rfl⟩
 ·have c:(k == 126)=gj:=(by simp[h1]);by_cases h2:k=127
  ·have d:(k == 127)=gh:=(by simp[h2]);by_cases b:N<4294967296
   ·have f:decide ((N:Int)<4294967296)=gh:=fw;have a:=fQ (show jx k N=gh by simp[jx,h2,b]);clear h1 h2 b;go_in;go_wp2;go_ret;rw[a.out];exact⟨rfl,rfl⟩
   ·have f:decide ((N:Int)<4294967296)=gj:=fw;have a:=fQ (show jx k N=gj by simp[jx,h2,b]);clear h1 h2 b;go_in;go_wp2;go_ret;rw[a.out];exact⟨rfl,rfl⟩
  ·have d:(k == 127)=gj:=(by simp[h2]);have a:=fQ (show jx k N=gj by simp[jx,h1,h2]);clear h1 h2;go_in;go_wp2;go_ret;rw[a.out];exact⟨rfl,rfl⟩
def fXs(w0:BY)(base g n c b:Nat)(m:List Nat)(a N:Nat)(i:Ba)(wr:BY):Prop:=
 ∃ k:Nat,k<=b/\i = fF fN k/\Hid (wr.ownsRow base 5 1 (fG (fU ⟨g,0,fT⟩) n c) n (jv (mj m a N k)))/\Hid (Bb base w0 wr)
theorem eJc(N j:Nat):(N:Int) / 2 ^ (8*j) % 256=((N / 256 ^ j % 256:Nat):Int):=by
 rw[sk];simp
theorem dVd(A:Option Addr)(n c addr off N a:Nat)(op k:Int)(s:Bool)(m:List Nat)(w:BY)(d:acc op=fU (k,(a:Int),gh,s))(hs:Src w A n (jv m))(hn:n<=140737488355328)
  (ha:addr<=4294967295) (ho:off<=4294967295) (aw:addr+off+a<=n) (t:jx k N=gh) :
  Bc fZ 115 #[fG A n c,fF fN op,fF fO addr,fF fO off,fF fO N] w fun e w'=>∃ h l,e = fS (fI #[fG h n l,fF fN 0])/\w'.ownsRow w.heap.size 5 1 (fG h n l) n (jv (mj m (addr+off) N a))/\Bb w.heap.size w w':=by
 obtain⟨u,x,_,_⟩:=mK d;have ax:1<=a:=fu;have ay:a<=8:=fu;have y:=fQ (show fV op = fI #[fF fN k,fF fN a,fH gh,fH gh] by simp[fV,d]);have z:qJ n (addr+off) a=gh:=(by simp[qJ];omega);have g1:decide (4294967295<(addr:Int))=gj:=fw;have g2:decide (4294967295<(off:Int))=gj:=fw;have B:=fQ hs;clear d hs u x;go_in;go_wp2_with fail;refine gu (gK _ _) ?_;rw[y.out];go_wp2_with fail;refine gu (py _ _ _) ?_;rw[t];go_wp2_with fail;refine gu (xK _ n c (addr+off) a _ hn) ?_;rw[z];go_wp2_with (at_builtin;refine qu _ rfl _ (.tmp 53) 31 rfl 5 (fF fP 0) 1 underlying31 oF rfl rfl A n c (jv m) rfl B.out (nI _) (by unfold maxLen;omega) fu ?_);rintro v w2 f o;obtain⟨g,C,rfl,az,D,_⟩:=lZ f fu;have q:=fQ f;have E:=fQ (Ax w.heap.size w2);have F:=fQ o;clear f o;go_wp2_with fail;go_loopw [17] (fun i wr=>fXs w2 w.heap.size g n C a m (addr+off) N i wr) (fun i _=>a+1 - (intOf i).toNat)
 case atStart=>exact⟨0,fu,rfl,q,E⟩
 case round=>
  clear q;obtain⟨j,hj,rfl,b,r⟩:=hrel;by_cases G:j<a
  ·have au:wr.frozen? ⟨g,addr+off+j,fT⟩=gj:=b.out.frozenAt _
   obtain⟨v,hcell⟩:∃ v,wr.cell? ⟨g,addr+off+j,fT⟩=fU v:=by
    have hl:=b.out.1;rw[b.out.cellAt (addr+off+j) fu];exact⟨_,Aj fu⟩
   go_wp2;refine⟨⟨j+1,fu,fz,?_,fQ (r.out.setCell (p:=⟨g,addr+off+j,fT⟩) D _)⟩,fB⟩;refine fQ ?_;rw[mj,<-bKh,eJc];exact(b.out.stored (addr+off+j) (fF fP ((N / 256 ^ j % 256:Nat):Int))).1
  ·obtain rfl:j=a:=fu;go_wp2;go_ret2;exact⟨_,_,rfl,b.out,F.trans r.out⟩
theorem cXh(A:Option Addr)(n c addr off N:Nat)(op:Int)(m:List Nat)(w:BY)(hs:Src w A n (jv m))(hn:n<=140737488355328):
  Bc fZ 115 #[fG A n c,fF fN op,fF fO addr,fF fO off,fF fO N] w fun e w'=>∃ l o,e = fS (fI #[fG l (lQ m op addr off N).length o,fF fN (lV n op addr off N)]) /\
   w'.ownsRow w.heap.size 5 1 (fG l (lQ m op addr off N).length o) (lQ m op addr off N).length (jv (lQ m op addr off N))/\Bb w.heap.size w w':=by
 have d:m.length=n:=by have:=hs.1;rwa[ox]at this
 have bad:∀ E:Int,E≠0->lV n op addr off N=E->∀ (w':BY) (i:Array Ba),i.getD 10 undef = fG fT 0 0->i.getD 11 undef = fF fN E->Bb w.heap.size w w' ->
   bodyPost fZ Tryz.f115 (fun e w'=>∃ l o,e = fS (fI #[fG l (lQ m op addr off N).length o,fF fN (lV n op addr off N)]) /\
    w'.ownsRow w.heap.size 5 1 (fG l (lQ m op addr off N).length o) (lQ m op addr off N).length (jv (lQ m op addr off N))/\Bb w.heap.size w w') Exit.ret { tmps:=i,defers:=[] } w':=by
  intro E q y w' i B e2 C;have p:lQ m op addr off N = []:=(by rw[lQ,d,y,gy q]);refine bodyPost_ret (results_tmp2 (t:=10) (u:=11) rfl _ _ _) rfl ⟨fT,0,?_,?_,C⟩
  ·rw[p,y];show Ending.returned (fI #[i.getD 10 undef,i.getD 11 undef])=_;rw[B,e2];rfl
  ·rw[p];exact World.ownsRow_nil _ _ _ _
 cases a:acc op with
 | none=>
  have b:=fQ (show lV n op addr off N=1 by simp[lV,a]);have f:=fQ (show fV op = fI #[fF fN 0,fF fN 0,fH gj,fH gj] by simp[fV,a]);clear a hs d;go_in;go_wp2_with fail;refine gu (gK _ _) ?_;rw[f.out];go_wp2;exact bad 1 fy b.out _ _ rfl rfl (Ax _ _)
 | some r=>
  obtain⟨k,wd,st,D⟩:=r;obtain⟨s,v,_,_⟩:=mK a;obtain⟨g,rfl⟩:=Ac (show 0<=wd by omega);have f:=fQ (show fV op = fI #[fF fN k,fF fN g,fH st,fH gh] by simp[fV,a])
  cases st with
  | false=>
   have b:=fQ (show lV n op addr off N=1 by simp[lV,a]);clear a hs d;go_in;go_wp2_with fail;refine gu (gK _ _) ?_;rw[f.out];go_wp2;exact bad 1 fy b.out _ _ rfl rfl (Ax _ _)
  | true=>
   have x:k=127\/k=126:=fu;by_cases h:4294967295<addr\/4294967295<off
   ·have b:=fQ (show lV n op addr off N=1 by simp[lV,a,mJ,h]);clear a hs d;by_cases h1:4294967295<addr
    ·have z:decide (4294967295<(addr:Int))=gh:=fw;clear h x s v;go_in;go_wp2_with fail;refine gu (gK _ _) ?_;rw[f.out];go_wp2;exact bad 1 fy b.out _ _ rfl rfl (Ax _ _)
    ·have z:decide (4294967295<(addr:Int))=gj:=fw;have F:decide (4294967295<(off:Int))=gh:=fw;clear h x s v;go_in;go_wp2_with fail;refine gu (gK _ _) ?_;rw[f.out];go_wp2;exact bad 1 fy b.out _ _ rfl rfl (Ax _ _)
   ·have z:decide (4294967295<(addr:Int))=gj:=fw;have F:decide (4294967295<(off:Int))=gj:=fw;have ha:addr<=4294967295:=fu;have G:off<=4294967295:=fu
    cases hf:jx k N with
    | false=>
     have j:k=127/\4294967295<N:=(by simp[jx]at hf;omega);have b:=fQ (show lV n op addr off N=1 by simp[lV,a,j]);clear a hs d h x s v j;go_in;go_wp2_with fail;refine gu (gK _ _) ?_;rw[f.out];go_wp2_with fail;refine gu (py _ _ _) ?_;rw[hf];go_wp2;exact bad 1 fy b.out _ _ rfl rfl (Ax _ _)
    | true=>
     have j:¬(k=127/\4294967295<N):=by simp[jx]at hf;omega
     cases hi:qJ n (addr+off) g with
     | true=>
      have hp:(mJ n g addr off).2=0:=(by simp[mJ,h,hi]);obtain⟨_,H,_,_⟩:=aKx hp;have q:lV n op addr off N=0:=(by simp[lV,a,j,hp]);have p:lQ m op addr off N=mj m (addr+off) N g:=(by simp[lQ,d,q,eZm,a]);have I:(lQ m op addr off N).length=n:=(by rw[p,qM,d]);rw[I,p,q];exact dVd A n c addr off N g op k D m w a hs hn ha G (by simpa using H) hf
     | false=>
      have b:=fQ (show lV n op addr off N=35 by simp[lV,a,j,mJ,h,hi]);have aj:g<=8:=fu;clear a hs d h x s v j;go_in;go_wp2_with fail;refine gu (gK _ _) ?_;rw[f.out];go_wp2_with fail;refine gu (py _ _ _) ?_;rw[hf];go_wp2_with fail;refine gu (xK _ n c (addr+off) g _ hn) ?_;rw[hi];go_wp2;exact bad 35 fy b.out _ _ rfl rfl (Ax _ _)
def sY(a b:Nat)(x y:Int):List Bool:=[(a:Int) == b,(a:Int) != b,decide (x<y),decide (a<b),decide (y<x),decide (b<a),decide (x<=y),decide (a<=b),decide (y<=x),decide (b<=a)]
def oX(k:IntKind)(W a b ke:Nat)(x:Int):List Int:=[k.wrap (a+b),k.wrap (a - b),k.wrap (a*b),0,0,0,0,bits .and k a b,bits .or k a b,bits .xor k a b,k.wrap (a*2 ^ ke),k.wrap (x / 2 ^ ke),(a:Int) / 2 ^ ke,
 bits .or k (k.wrap (a*2 ^ ke)) ((a:Int) / 2 ^ (W - ke)),bits .or k ((a:Int) / 2 ^ ke) (k.wrap (a*2 ^ (W - ke)))]
def iX(M least k:Int)(a b:Nat)(x y:Int):Int×Int:=
 if b=0 then(0,33)else if k=0 then(if y = -1/\x=least then(0,34)else((x.tdiv y) % M,0))else if k=1 then((a:Int) / b,0)else if k=2 then((x.tmod y) % M,0)else((a:Int) % b,0)
def gY(c d k:Int)(a b:Nat):Int×Int:=
 if d=126 then
  if c=1 then(b01 ((sY a b (wrap64 a) (wrap64 b)).getD k.toNat gj),0)
  else if 3<=k/\k<=6 then iX 18446744073709551616 (-9223372036854775808) (k - 3) a b (wrap64 a) (wrap64 b)
  else((oX fO 64 a b (b % 64) (wrap64 a)).getD k.toNat 0,0)
 else
  if c=1 then(b01 ((sY a b (wrap32 a) (wrap32 b)).getD k.toNat gj),0)
  else if 3<=k/\k<=6 then iX 4294967296 (-2147483648) (k - 3) a b (wrap32 a) (wrap32 b)
  else((oX .u32 32 a b (b % 32) (wrap32 a)).getD k.toNat 0,0)
def lE(W x:Nat):List Int:=[(W:Int) - Lib.bitLen x,Lib.ctz W x,Lib.popAux W x]
def ny(k:Int)(x:Nat):Int:=if k=0 then IntKind.u64.wrap (wrap64 (wrap32 x))else x
def oG(k:Int)(x:Nat):Int:=if k=0 then wrap64 (IntKind.i8.wrap x)else if k=1 then wrap64 (IntKind.i16.wrap x)else wrap64 (wrap32 x)
def tZ(k out:Int)(x:Nat):Int:=if out=127 then oG k x % 4294967296 else IntKind.u64.wrap (oG k x)
def hH(l:List Nat):List Ba:=l.map fun c:Nat=>fF fO (c:Int)
def ij(l:List Nat):Prop:=∀ x∈l,x<18446744073709551616
def oZ(c d k:Int)(out:Int)(l:List Nat):Int×Int:=
 if c=0 then(b01 ((l.getD 0 0:Int) == 0),0)
 else if c=2 then((lE (if d=126 then 64 else 32) (l.getD 0 0)).getD k.toNat 0,0)
 else if c=4 then((l.getD 0 0:Int) % 4294967296,0)
 else if c=5 then(ny k (l.getD 0 0),0)
 else if c=6 then(tZ k out (l.getD 0 0),0)
 else gY c d k (l.getD 0 0) (l.getD 1 0)
def oV(op:Int)(l:List Nat):Int×Int:=match gQ op with
 | none=>(0,1)
 | some (a,_,c,d)=>if(gJ op).length=l.length/\l.all (iK d)=gh then oZ c d (op - a) (mX op) l else(0,1)
structure iM where
 L:List Nat
 Y:Int
 E:List Nat
 U:Nat
 input:List Nat
 a0:List Nat
def oY(t:Int)(n:Nat):Nat:=if t=127 then n % 4294967296 else n
def ie:List Int->List Nat->List Nat
 | t :: ts,n :: l=>oY t n :: ie ts l
 | _,_=>[]
theorem pY:∀ (ts:List Int) (l:List Nat),ts.length=l.length->(ie ts l).length=l.length
 | [],[],_=>rfl
 | t :: ts,n :: l,h=>by simp[ie,pY ts l (by simpa using h)]
 | [],n :: l,h=>by simp at h
 | t :: ts,[],h=>by simp at h
def iy(n:Nat)(outs:List Int)(a:List Nat)(s:iM):List Nat×Int×iM:=
 if outs.length<=s.input.length then(ie outs (s.input.take outs.length),0,{ s with a0:=s.a0++n :: a,input:=s.input.drop outs.length })
 else([],39,{ s with a0:=s.a0++n :: a,input:=[] })
def jV(c:gP)(a:List Nat)(s:iM):Nat×Int×iM:=
 if c.op=256 then(c.n,0,s)
 else if c.op=272 then(a.getD 0 0,0,s)
 else if c.op=258 then if s.U=0 then(0,36,s)else(0,0,{ s with U:=s.U - 1 })
 else if c.op=27 then(if a.getD 2 0=0 then a.getD 1 0 else a.getD 0 0,0,s)
 else if c.op=35 then(s.E.getD c.n 0,0,s)
 else if c.op=36 then(0,0,{ s with E:=s.E.set c.n (a.getD 0 0) })
 else if c.op=257 then(0,if qJ s.L.length (a.getD 0 0) c.n then 0 else 35,s)
 else match acc c.op with
  | some (_,_,gh,_)=>if lV s.L.length c.op (a.getD 0 0) c.n (a.getD 1 0)=0 then(0,0,{ s with L:=lQ s.L c.op (a.getD 0 0) c.n (a.getD 1 0) })else(0,38,s)
  | some (_,_,gj,_)=>if(oK s.L c.op (a.getD 0 0) c.n).2=0 then((oK s.L c.op (a.getD 0 0) c.n).1.toNat,0,s)else(0,38,s)
  | none=>
   if c.op=63 then(s.L.length / 256,0,s)
   else if c.op=64 then(rV s.L.length s.Y (a.getD 0 0),0,{ s with L:=lX s.L s.Y (a.getD 0 0) })
   else((oV c.op a).1.toNat,(oV c.op a).2,s)
inductive mn
 | go (k:Nat)
 | ret (l:List Nat)
 | vals (l:List Nat) (s:iM)
 | trap (x:Int) (s:iM)
 | call (n:Nat)
def iF(e:ia)(c:gP)(k:Nat)(a:List Nat)(s:iM):mn:=
 if c.op=276 then .ret a
 else if c.op=277 then .trap 32 s
 else if c.op=273 then .go (c.to.getD 0 0).toNat
 else if c.op=274 then .go (if a.getD 0 0=0 then k+1 else(c.to.getD 0 0).toNat)
 else if c.op=275 then .go (c.to.getD (min (a.getD 0 0) (c.to.length - 1)) 0).toNat
 else if c.op=16 then
  if(c.n:Int)<e.G then
   let h:=iy c.n ((e.R.getD c.n ⟨[],[]⟩).out) a s
   if h.2.1=0 then .vals h.1 h.2.2 else .trap h.2.1 h.2.2
  else .call c.n
 else
  let h:=jV c a s
  if h.2.1=0 then .vals [h.1] h.2.2 else .trap h.2.1 h.2.2
def jL(e:ia)(s:iu)(c:gP):List Int:=((iV e s c.op c.n).getD ([],[])).1
def jd(V:List Nat)(l:List Int):List Nat:=l.map fun p=>V.getD p.toNat 0
def iS:List Int->List Nat->List Nat->List Nat
 | o :: os,n :: a,V=>iS os a (V.set o.toNat n)
 | _,_,V=>V
def zeroV(lost:Nat)(V:List Nat):List Nat:=Aw (min lost V.length) 0++V.drop lost
def jb(r:gR)(a:List Nat):List Nat:=iS r.params a (Aw r.M.toNat 0)
def iw(e:ia)(r:gR)(c:gP)(V:List Nat):List Nat:=ie (jL e r.a2 c) (jd V c.args)
structure jD where
 out:List Nat
 s:iM
 e:Int
 a7:Nat
 kO:Nat
inductive Ev (p:hU) (lost:Nat):Nat->gR->Nat->List Nat->iM->jD->Prop
 | ret {d:Nat} {r:gR} {k:Nat} {V:List Nat} {s:iM} {c:gP} {l:List Nat} (hc:r.K[k]? = fU c) (ha:iF p.J c k (iw p.J r c V) s = .ret l):Ev p lost d r k V s ⟨l,s,0,1,0⟩
 | trap {d:Nat} {r:gR} {k:Nat} {V:List Nat} {s s':iM} {c:gP} {x:Int} (hc:r.K[k]? = fU c) (ha:iF p.J c k (iw p.J r c V) s = .trap x s'):Ev p lost d r k V s ⟨[],s',x,1,0⟩
 | go {d:Nat} {r:gR} {k k':Nat} {V:List Nat} {s:iM} {c:gP} {R:jD} (hc:r.K[k]? = fU c) (ha:iF p.J c k (iw p.J r c V) s = .go k') (hn:Ev p lost d r k' V s R):Ev p lost d r k V s { R with a7:=1+R.a7 }
 | vals {d:Nat} {r:gR} {k:Nat} {V:List Nat} {s s':iM} {c:gP} {l:List Nat} {R:jD} (hc:r.K[k]? = fU c) (ha:iF p.J c k (iw p.J r c V) s = .vals l s') (hn:Ev p lost d r (k+1) (iS c.O l V) s' R):Ev p lost d r k V s { R with a7:=1+R.a7 }
 | call {d:Nat} {r q:gR} {k n:Nat} {V:List Nat} {s:iM} {c:gP} {g:iu} {R1 R2:jD} (hc:r.K[k]? = fU c) (ha:iF p.J c k (iw p.J r c V) s = .call n) (hd:d<16) (hq:p.b0[n - p.J.G.toNat]? = fU q) (hg:p.J.R[n]? = fU g)
   (h1:Ev p lost (d+1) q 0 (jb q (ie g.a1 (iw p.J r c V))) s R1) (he:R1.e=0) (h2:Ev p lost d r (k+1) (iS c.O R1.out (zeroV lost V)) R1.s R2) :
   Ev p lost d r k V s ⟨R2.out,R2.s,R2.e,1+R1.a7+R2.a7,max (q.M.toNat+R1.kO) R2.kO⟩
 | jO {d:Nat} {r q:gR} {k n:Nat} {V:List Nat} {s:iM} {c:gP} {g:iu} {R1:jD} (hc:r.K[k]? = fU c) (ha:iF p.J c k (iw p.J r c V) s = .call n) (hd:d<16) (hq:p.b0[n - p.J.G.toNat]? = fU q) (hg:p.J.R[n]? = fU g)
   (h1:Ev p lost (d+1) q 0 (jb q (ie g.a1 (iw p.J r c V))) s R1) (he:R1.e≠0):Ev p lost d r k V s ⟨[],R1.s,R1.e,1+R1.a7,q.M.toNat+R1.kO⟩
 | deep {d:Nat} {r:gR} {k n:Nat} {V:List Nat} {s:iM} {c:gP} (hc:r.K[k]? = fU c) (ha:iF p.J c k (iw p.J r c V) s = .call n) (hd:16<=d):Ev p lost d r k V s ⟨[],s,37,1,0⟩
theorem Ev.one{p:hU}{lost d:Nat}{r:gR}{V:List Nat}{s:iM}{R R':jD}(h:Ev p lost d r k V s R)(g:Ev p lost d r k V s R'):R=R':=by
 induction h generalizing R' with
 | ret hc ha=>cases g <;> simp_all
 | trap hc ha=>cases g <;> simp_all
 | go hc ha hn m=>
  cases g with
  | go a b n=>
   rw[hc]at a;injection a with a;subst a;rw[ha]at b;injection b with b;subst b;rw[m n]
  | _=>simp_all
 | vals hc ha hn m=>
  cases g with
  | vals a b n=>
   rw[hc]at a;injection a with a;subst a;rw[ha]at b;injection b with b q;subst b;subst q;rw[m n]
  | _=>simp_all
 | call hc ha hd hq hg h1 he h2 ih1 ih2=>
  cases g with
  | call a b f c e i l o=>
   rw[hc]at a;injection a with a;subst a;rw[ha]at b;injection b with b;subst b;rw[hq]at c;injection c with c;subst c;rw[hg]at e;injection e with e;subst e;have j:=ih1 i;subst j;have e2:=ih2 o;subst e2;rfl
  | jO a b f c e i l=>
   rw[hc]at a;injection a with a;subst a;rw[ha]at b;injection b with b;subst b;rw[hq]at c;injection c with c;subst c;rw[hg]at e;injection e with e;subst e;have j:=ih1 i;subst j;exact gH he l
  | deep a b f=>omega
  | _=>simp_all
 | jO hc ha hd hq hg h1 he ih1=>
  cases g with
  | call a b f c e i l o=>
   rw[hc]at a;injection a with a;subst a;rw[ha]at b;injection b with b;subst b;rw[hq]at c;injection c with c;subst c;rw[hg]at e;injection e with e;subst e;have j:=ih1 i;subst j;exact gH l he
  | jO a b f c e i l=>
   rw[hc]at a;injection a with a;subst a;rw[ha]at b;injection b with b;subst b;rw[hq]at c;injection c with c;subst c;rw[hg]at e;injection e with e;subst e;have j:=ih1 i;subst j;rfl
  | deep a b f=>omega
  | _=>simp_all
 | deep hc ha hd=>
  cases g with
  | call a b f=>omega
  | jO a b f=>omega
  | deep a b f=>rfl
  | _=>simp_all
def UR(w:BY)(v:Ba)(l:List Nat):Prop:=∃ A c,v = fG A l.length c/\Src w A l.length (hH l)/\l.length<=c/\(A=fT->c=0)/\(l.length<=17592186043904/\c<=9223372036854775807)/\ij l
def BR(w:BY)(v:Ba)(m:List Nat):Prop:=∃ A c,v = fG A m.length c/\Src w A m.length (jv m)/\m.length<=c/\(A=fT->c=0)/\(m.length<=140737488355328/\c<=9223372036854775807)/\jw m
theorem oH(l m:List Nat):hH (l++m)=hH l++hH m:=by simp[hH]
theorem qN(l:List Nat):∀ u∈hH l,u.oneCell'=gh:=by
 intro u a;simp only[hH,List.mem_map]at a;obtain⟨x,_,rfl⟩:=a;rfl
theorem UR.I(h:UR w v l):∃ A c,v = fG A l.length c:=by
 obtain⟨A,c,e,_⟩:=h;exact⟨A,c,e⟩
theorem UR.C{w w':BY}{B:Nat}{v:Ba}{l:List Nat}(h:UR w v l)(a:Bb B w w')(b:w.heap.size<=B):UR w' v l:=by
 obtain⟨A,c,e,hs,r⟩:=h;exact⟨A,c,e,hs.C a b,r⟩
theorem BR.C{w w':BY}{B:Nat}{v:Ba}{l:List Nat}(h:BR w v l)(a:Bb B w w')(b:w.heap.size<=B):BR w' v l:=by
 obtain⟨A,c,e,hs,r⟩:=h;exact⟨A,c,e,hs.C a b,r⟩
theorem UR.len{c:Nat}(h:UR w (fG A n c) l):n=l.length/\Src w A n (hH l)/\n<=c/\(A=fT->c=0)/\(n<=17592186043904/\c<=9223372036854775807)/\ij l:=by
 obtain⟨A',c',e,r⟩:=h;injection e with a e2 b;subst a;subst e2;subst b;exact⟨rfl,r⟩
theorem UR.cell{w:BY}{A:Option Addr}{n c:Nat}{l:List Nat}(h:UR w (fG A n c) l){k x:Nat}(a:l[k]? = fU x):∃ b o,A=fU ⟨b,o,fT⟩/\b<w.heap.size/\w.cell? ⟨b,o+k,fT⟩=fU (fF fO (x:Int))/\x<18446744073709551616:=by
 obtain⟨hn,hs,_,_,_,d⟩:=h.len;have hk:=(gw a).1;obtain⟨b,o,e,f,hc⟩:=hs.2 fu;exact⟨b,o,e,f,hc k _ (by simp[hH,a]),d x (AV a)⟩
theorem cXk{c:Nat}{d:List Ba}(h:Src w A n d)(hs:w.heap.size<=w'.heap.size)(g:∀ k,(Value.slice A n c).ownBlock=fU k->k<w.heap.size->w'.heap[k]? = w.heap[k]?):Src w' A n d:=
 ⟨h.1,fun hn=>by
  obtain⟨b,o,e,f,hc⟩:=h.2 hn;refine⟨b,o,e,AQ f hs,fun j u i=>?_⟩;have:=g b (by rw[e];rfl) f
  exact(World.cell?_of_block (w:=w) (a:=⟨b,o+j,fT⟩) this).trans (hc j u i)⟩
theorem UR.heap{w w':BY}{v:Ba}{l:List Nat}(h:UR w v l)(hs:w.heap.size<=w'.heap.size)(a:∀ k,v.ownBlock=fU k->k<w.heap.size->w'.heap[k]? = w.heap[k]?):UR w' v l:=by
 obtain⟨A,c,rfl,h1,r⟩:=h;exact⟨A,c,rfl,cXk h1 hs a,r⟩
theorem BR.heap{w w':BY}{v:Ba}{l:List Nat}(h:BR w v l)(hs:w.heap.size<=w'.heap.size)(a:∀ k,v.ownBlock=fU k->k<w.heap.size->w'.heap[k]? = w.heap[k]?):BR w' v l:=by
 obtain⟨A,c,rfl,h1,r⟩:=h;exact⟨A,c,rfl,cXk h1 hs a,r⟩
theorem yW{b:List Ba}(k:w.ownsRow base e a v n b)(c:∀ g,v.ownBlock=fU g->g<w.heap.size->w'.heap[g]? = w.heap[g]?):w'.ownsRow base e a v n b:=by
 refine⟨k.1,?_⟩;rcases k.2 with h2|⟨g,cap,cur,h1,h2,hg,r⟩
 ·exact .inl h2
 ·refine .inr ⟨g,cap,cur,h1,h2,?_,r⟩;rw[c g (by rw[h1];rfl) (Array.getElem?_eq_some_iff.1 hg).1];exact hg
theorem qO(l:List Nat)(k n:Nat):(hH l).set k (fF fO (n:Int))=hH (l.set k n):=by
 unfold hH;rw[List.map_set]
theorem dVj(h:ij l)(k n:Nat)(hn:n<18446744073709551616):ij (l.set k n):=fun x a=>by
 rcases Ab a with h1|h1
 ·exact h x h1
 ·omega
theorem pX{b:Nat}{u:Ba}(h:b≠g):(w.setCell ⟨g,j,fT⟩ u).cell? ⟨b,i,fT⟩=w.cell? ⟨b,i,fT⟩:=World.cell?_of_block (a:=⟨b,i,fT⟩) (Below.heap_setCell _ _ _ _ h)
theorem eJf{w1 w2:BY}{r a:Option Nat}(h:w.grownBy w1 r)(k:w1.grownBy w2 a)(h1:a=r\/a=fU w.heap.size):w.grownBy w2 r:=
 ⟨k.os.trans h.os,k.tape.trans h.tape,k.output.trans h.output,Nat.le_trans h.size k.size,fun i hi hn=>by
  rw[k.block i (AQ hi h.size) (fun e=>?_),h.block i hi hn];rcases h1 with h1|h1
  ·exact hn (e.trans h1)
  ·rw[h1]at e;injection e with e
   omega⟩
theorem tX:(fZ.info? 52).map (fun i=>(i.zero,i.size,i.bytes))=fU (fU (fF fO 0),1,8):=fx
theorem sm(h:a<18446744073709551616):bits .and fO (a:Int) 4294967295=((a % 4294967296:Nat):Int):=by
 rw[show(4294967295:Int)=((2 ^ 32 - 1:Nat):Int)from rfl,bits_and_u64_nat a (2 ^ 32 - 1) h fy];exact gG Bj (AK a 32)
theorem aKz{ks:List Int}{t:Int}(c:ks[k]? = fU t)(d:l[k]? = fU x):ie (ks.take (k+1)) (l.take (k+1))=ie (ks.take k) (l.take k) ++ [oY t x]:=by
 induction k generalizing ks l with
 | zero=>
  match ks,l,c,d with
  | a :: ks,b :: l,c,d=>
   simp at c d;subst c;subst d;rfl
 | succ k e=>
  match ks,l,c,d with
  | a :: ks,b :: l,c,d=>
   simp only[List.getElem?_cons_succ]at c d;simp only[List.take_succ_cons,ie,Bw];rw[e c d]
theorem eWl{t:Int}(h:x<18446744073709551616):oY t x<18446744073709551616:=by
 unfold oY
 split <;> omega
def bJx(ks:List Int)(l:List Nat)(w:BY)(a:Ending)(w':BY):Prop:=∃ v,a = fS v/\w'.ownsRow w.heap.size 52 1 v l.length (hH (ie ks l))/\Bb w.heap.size w w'
theorem cKj(vk v:Ba)(ks:List Int)(l:List Nat)(w:BY)(m:IR w vk ks)(r:UR w v l)(he:ks.length=l.length)(L:l.length<=100000):Bc fZ 54 #[vk,v] w (bJx ks l w):=by
 obtain⟨A1,c1,rfl⟩:=m.I;obtain⟨A2,c2,rfl⟩:=r.I;have s:=fQ m;have G:=fQ r;obtain⟨n,hn⟩:=fX l.length;unfold bJx;rw[he]at s ⊢;rw[hn]at s G L ⊢;have H:=fQ hn;have I:=fQ (show ks.length=n by omega);clear m r he hn;go_in;go_wp2_with fail;go_loopw [5,6] (fun v i wr=>∃ k:Nat,k<=n/\i = fF fN k/\Hid (wr.ownsRow w.heap.size 52 1 v k (hH (ie (ks.take k) (l.take k))))/\Hid (Bb w.heap.size w wr)) (fun _ i _=>n - (intOf i).toNat)
 case atStart=>exact⟨0,fu,rfl,fQ (World.ownsRow_nil _ _ _ _),fQ (Ax _ _)⟩
 case round=>
  obtain⟨k,m,rfl,iO,a⟩:=hrel;obtain⟨z,A,hv,_⟩:=fJ iO.out;subst hv;by_cases J:k<n
  ·have t2:(k:Int)<n:=fu;obtain⟨t,p⟩:∃ t,ks[k]? = fU t:=⟨_,Aj (by rw[I.out];exact J)⟩;obtain⟨x,q⟩:∃ x,l[k]? = fU x:=⟨_,Aj (by rw[H.out];exact J)⟩;obtain⟨b,o,rfl,hb,hc⟩:=(s.C a.out (Aq _)).cell p;obtain⟨b2,o2,rfl,ar,au,N⟩:=(G.C a.out (Aq _)).cell q;have K:=fQ (aKz p q);have aw:=a.out.size;have fin:∀ y:Nat,oY t x=y->∃ c:True,Hid ((wr.alloc (fR #[fF fO (y:Int)] 52)).ownsRow w.heap.size 52 1 (fG z k A) k (hH (ie (ks.take k) (l.take k))))/\Hid (Bb w.heap.size w (wr.alloc (fR #[fF fO (y:Int)] 52))):=fun y hy=>⟨trivial,fQ (lJ iO.out _),fQ (a.out.alloc a.out.size _)⟩;by_cases d:t=127
   ·have O:(t == 127)=gh:=(by simp[d]);have ha:=sm N;have e:=fQ (show oY t x=x % 4294967296 by unfold oY;rw[gz d]);obtain⟨_,f,B⟩:=fin _ e.out;clear p q d fin;go_wp2_with (at_builtin;refine nQ _ rfl (.tmp 25) (.tmp 27) 30 rfl w.heap.size 52 (fF fO 0) 1 8 underlying30 tX rfl fu (.slice z k A) k (hH (ie (ks.take k) (l.take k))) rfl f.out (fU ⟨wr.heap.size,0,fT⟩) 1 1 [fF fO ((x % 4294967296:Nat):Int)] rfl (gO.kE (cs:=#[fF fO ((x % 4294967296:Nat):Int)]) (gO.X _ _ _ rfl) rfl) (fun u C=>by rw[List.mem_singleton.1 C];rfl) (by unfold maxLen;omega) fu fw ?_);rintro v' w' c g D _
    have h:w'.ownsRow w.heap.size 52 1 v' (k+1) (hH (ie (ks.take (k+1)) (l.take (k+1)))):=by
     rw[K.out,e.out,oH];exact c
    have E:=fQ h;have F:=fQ (oQ B.out g fw (fun j hj=>(f.out.lt j hj).1));clear c h g D;go_wp2;exact⟨⟨k+1,fu,fz,E,F⟩,fB⟩
   ·have O:(t == 127)=gj:=(by simp[d]);have e:=fQ (show oY t x=x by unfold oY;rw[gy d]);obtain⟨_,f,B⟩:=fin _ e.out;clear p q d fin;go_wp2_with (at_builtin;refine nQ _ rfl (.tmp 25) (.tmp 27) 30 rfl w.heap.size 52 (fF fO 0) 1 8 underlying30 tX rfl fu (.slice z k A) k (hH (ie (ks.take k) (l.take k))) rfl f.out (fU ⟨wr.heap.size,0,fT⟩) 1 1 [fF fO (x:Int)] rfl (gO.kE (cs:=#[fF fO (x:Int)]) (gO.X _ _ _ rfl) rfl) (fun u C=>by rw[List.mem_singleton.1 C];rfl) (by unfold maxLen;omega) fu fw ?_);rintro v' w' c g D _
    have h:w'.ownsRow w.heap.size 52 1 v' (k+1) (hH (ie (ks.take (k+1)) (l.take (k+1)))):=by
     rw[K.out,e.out,oH];exact c
    have E:=fQ h;have F:=fQ (oQ B.out g fw (fun j hj=>(f.out.lt j hj).1));clear c h g D;go_wp2;exact⟨⟨k+1,fu,fz,E,F⟩,fB⟩
  ·have M:decide ((k:Int)<n)=gj:=fw;have P:n=k:=fu;subst P;have Q:=fQ (show l.take n=l from Az (by rw[H.out];exact Aq _));have R:=fQ (show ks.take n=ks from Az (by rw[I.out];exact Aq _));go_wp2;go_ret;exact⟨_,rfl,by have:=iO.out;rw[Q.out,R.out]at this;exact this,a.out⟩
def fXt(b:Bool)(w:BY)(a:Ending)(w':BY):Prop:=a = fS (fH b)/\∃ n,w'=w.drewN n
theorem cYc(h:l.take k=m.take k)(a:l[k]? = fU x)(b:m[k]? = fU y):x=y->l.take (k+1)=m.take (k+1):=by
 intro e;subst e;obtain⟨h1,h2⟩:=gw a;obtain⟨c,d⟩:=gw b;rw[Ak h1,Ak c,h,h2,d]
theorem eJg(b:l[k]? = fU x)(a:m[k]? = fU y)(h:x≠y):l≠m:=by
 intro e;subst e;rw[b]at a;injection a with a;exact h a
theorem sn(v u:Ba)(l m:List Nat)(w:BY)(h1:UR w v l)(h2:UR w u m):Bc fZ 16 #[v,u] w (fXt (decide (l=m)) w):=by
 obtain⟨A1,c1,rfl⟩:=h1.I;obtain⟨A2,c2,rfl⟩:=h2.I;have H1:=fQ h1;have j:=fQ h2;have B:=h1.len.2.2.2.2.1.1;have C:=h2.len.2.2.2.2.1.1;clear h1 h2;by_cases hlen:l.length=m.length
 ·obtain⟨n,hn⟩:=fX l.length;have d:m.length=n:=fu;have p:=fQ hn;have q:=fQ d;rw[hn]at H1 B ⊢;rw[d]at j C ⊢;clear hn d hlen;go_in;go_wp2;go_loopw [5] (fun i wr=>∃ k:Nat,k<=n/\i = fF fN k/\Hid (l.take k=m.take k/\∃ z,wr=w.drewN z)) (fun i _=>n - (intOf i).toNat)
  case atStart=>exact⟨0,fu,rfl,fQ ⟨fz,0,rfl⟩⟩
  case round=>
   obtain⟨k,hk,rfl,IM⟩:=hrel;obtain⟨c,z,rfl⟩:=IM.out;clear IM;by_cases r:k<n
   ·have t2:(k:Int)<n:=fu;obtain⟨x,f⟩:∃ x,l[k]? = fU x:=⟨_,Aj (by rw[p.out];exact r)⟩;obtain⟨y,g⟩:∃ y,m[k]? = fU y:=⟨_,Aj (by rw[q.out];exact r)⟩;obtain⟨b,o,rfl,hb,hc,_⟩:=H1.cell f;obtain⟨b2,o2,rfl,al,an,_⟩:=j.cell g;have s:=fQ f;have t:=fQ g;have F:=fQ c;clear f g c;by_cases a:x=y
    ·have q1:((x:Int) != (y:Int))=gj:=(by simp[a]);have h:=fQ a;clear a;go_wp2_with fail;go_quiet (fail);go_wp2;exact⟨⟨k+1,fu,fz,fQ ⟨cYc F.out s.out t.out h.out,_,rfl⟩⟩,fB⟩
    ·have q1:((x:Int) != (y:Int))=gh:=fw;have h:=fQ a;clear a;go_wp2_with fail;go_quiet (fail);go_wp2;go_ret;exact⟨by rw[gE (eJg s.out t.out h.out)];rfl,z+nq,by simp[World.drewN];omega⟩
   ·have E:decide ((k:Int)<n)=gj:=by simp;omega
    have A:l=m:=by
     rw[<-Az (l:=l) (i:=k) (by have:=p.out;omega),<-Az (l:=m) (i:=k) (by have:=q.out;omega),c]
    have G:=fQ A;clear A c;go_wp2;go_ret;exact⟨by rw[gD G.out];rfl,_,rfl⟩
 ·have H:l≠m:=fun e=>hlen (by rw[e]);have D:((l.length:Int) != (m.length:Int))=gh:=fw;go_in;go_wp2;go_ret;exact⟨by rw[gE H];rfl,0,rfl⟩
end Go.Proofs.YtabibkpfgmolkaaGreatDoor

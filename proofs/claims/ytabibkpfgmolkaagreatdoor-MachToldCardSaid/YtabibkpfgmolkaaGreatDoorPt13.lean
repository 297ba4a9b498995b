/- Lemmas for the claim, part 13. Conditions: none. -/
import Derived.Test.YtabibkpfgmolkaaGreatDoorPt12
import Derived.Deep.RegionHeld3
set_option maxRecDepth 100000
set_option maxHeartbeats 16000000
set_option linter.unusedVariables false
set_option linter.unusedSimpArgs false
open Go.Lib renaming hid→fQ
open Go.Proofs.Tryz renaming prog→fZ
open Go.Proofs.Tryz
open Go.RowKit
open List renaming setIfInBounds_toArray→Aj,set_cons_zero→Aq,set_cons_succ→Ax,getElem?_eq_getElem→Av,take_succ_eq_append_getElem→Aw,mem_of_getElem?→AJ,length_map→AQ,pairwise_map→AZ,range→AK,take_of_length_le→AW,getD_eq_getElem?_getD→Ab,getElem?_append_right→Ae,getElem?_append_left→Af,getElem?_map→Ag,map_toArray→Ai,Nodup→Bj,getElem?_set_self→Bq,getElem?_set_ne→Bx,getElem_of_mem→Bz,map_cons→Bk,map_nil→Bw,not_mem_nil→By,map_append→BJ,length_set→BQ,mem_cons→BX
open Nat renaming le_refl→Az,lt_of_lt_of_le→Ay,le_of_eq→Aa,lt_or_ge→BZ
open Go.Act renaming put→Ak
open Classical renaming byContradiction→AX
open Go.RowKit.Below renaming refl→AV,size→Bv
open Array renaming getD_eq_getD_getElem?→AY
open Go renaming World→BK,Value→BV
open Go.RowKit renaming Below→BW
open Go.Value renaming int->fF,slice->fG,bool->fH,agg->fI,pointer->fM
open Go.IntKind renaming i64->fN,u64->fO
open Go.Obj renaming cells->fP
open Option renaming none->fR,some->fS
open Bool renaming true->fT,false->fU
namespace Go.Proofs.YtabibkpfgmolkaaGreatDoor
variable {w w1 w0 w':BK}{hs l D:List Int}{base P g n i N k:Nat}{v x0 x1 x2 x3 x4 d a b p f:BV}{x:Int}{t e:TypeId}
def mT(first:Nat)(a:List Int):Nat:=((AK 2048).find? fun n=>decide (first<=n/\n≠15/\(n:Int) ∉ a)).getD 2048
theorem aVy{first:Nat}{a:List Int}{c:Nat}(hc:c<2048)(h:first<=c/\c≠15/\(c:Int) ∉ a):
  mT first a<=c/\(first<=mT first a/\mT first a≠15/\((mT first a:Nat):Int) ∉ a)/\∀ n,n<mT first a->¬(first<=n/\n≠15/\(n:Int) ∉ a):=by
 unfold mT
 cases hf:(AK 2048).find? fun n=>decide (first<=n/\n≠15/\(n:Int) ∉ a)with
 | none=>
  rw[List.find?_eq_none]at hf;have:=hf c (List.mem_range.2 hc);exact gH (gD h) this
 | some x=>
  have b:=List.find?_some hf;simp only[decide_eq_true_eq]at b;rw[List.find?_range_eq_some]at hf
  have d:∀ n,n<x->¬(first<=n/\n≠15/\(n:Int) ∉ a):=fun n hn=>by
   have:=hf.2.2 n hn;simp only[decide_eq_false_iff_not,Bool.not_eq_eq_eq_not,Bool.not_true]at this;exact this
  simp only[Option.getD_some];refine⟨?_,b,d⟩;rcases BZ c x with e|f
  ·exact gH h (d c e)
  ·exact f
theorem dYm{first:Nat}{a:List Int}(hn:n<2048)(h:first<=n/\n≠15/\(n:Int) ∉ a)(b:∀ m,m<n->¬(first<=m/\m≠15/\(m:Int) ∉ a)):mT first a=n:=by
 obtain⟨g1,c,g3⟩:=aVy hn h;rcases BZ (mT first a) n with d|ad
 ·exact gH c (b _ d)
 ·omega
structure jr (r:gR) (P:Nat) (hs:List Int):Prop where
 len:hs.length=P
 ok:∀ h∈hs,0<=h/\h≠15/\h<16+(P:Int)/\(P<=7->h<16)
 gap:∀ s h:Int,16<=s->h∈hs->s<=h->s∈hs
 cl:∀ (i j:Nat) hi hj,hs[i]? = fS hi->hs[j]? = fS hj->jc r i j->hi≠hj
 ac:∀ (i:Nat) hi,hs[i]? = fS hi->jm r i->8<=hi
structure kI (r:gR) (P:Nat) (D:List Nat) (H:Nat->Int):Prop where
 un:∀ p,p ∉ D->H p = -1
 ok:∀ p∈D,0<=H p/\H p≠15/\H p<16+(P:Int)/\(P<=7->H p<16)/\(jm r p->8<=H p)
 cl:∀ p∈D,∀ q∈D,jc r p q->H p≠H q
 gap:∀ p∈D,17<=H p->∃ q∈D,H q=H p - 1
theorem kI.start(r:gR)(P:Nat):kI r P [] (fun _=>-1):=⟨fun _ _=>rfl,fun p h=>by simp at h,fun p h=>by simp at h,fun p h=>by simp at h⟩
theorem kI.step{e:ia}{r:gR}{D:List Nat}{H:Nat->Int}{p:Nat}{cl:List Int}{first:Nat}(h:kI r P D H)(hc:iq e r)(hP:r.M=P)(az:P<=2032)(hp:p<P)(K:p ∉ D)(n:jj cl (jc r p))(L:(first=8/\jm r p)\/(first=0/\¬jm r p)):
  kI r P (D ++ [p]) (fun q=>if q=p then((mT first (cl.map fun x=>H x.toNat):Nat):Int)else H q):=by
 obtain⟨l,m⟩:=fX (cl.map (fun x=>H x.toNat));rw[m]
 have o:∀ x∈cl,0<=x/\x<(P:Int)/\x≠(p:Int):=fun x f=>by
  have f:=(n.2 x).1 f;have:=f.range hc;have aA:=f.1;omega
 have hlen:cl.length<=P - 1:=by
  have h1:(cl.map Int.toNat).Nodup:=by
   rw[Bj,AZ]
   exact(List.Pairwise.and_mem.1 n.1).imp (fun {a b} h=>by
    have ha:=o a h.1;have s:=o b h.2.1;have:=h.2.2
    omega)
  have h2:(cl.map Int.toNat).length<=((AK P).erase p).length:=List.Nodup.length_le_of_subset h1 fun y t=>by
   obtain⟨x,f,rfl⟩:=List.mem_map.1 t;have:=o x f;rw[List.Nodup.mem_erase_iff List.nodup_range];exact⟨fu,List.mem_range.2 fu⟩
  rw[AQ,List.length_erase_of_mem (List.mem_range.2 hp),List.length_range]at h2;exact h2
 have A:∀ C:List Nat,C.Nodup->P - 1<C.length->∃ c∈C,(c:Int) ∉ l:=by
  intro C M aB;refine AX fun hn=>?_
  have h1:(C.map fun c:Nat=>(c:Int)).Nodup:=by
   rw[Bj,AZ];exact M.imp (fun h=>fu)
  have h2:(C.map fun c:Nat=>(c:Int)).length<=l.length:=List.Nodup.length_le_of_subset h1 fun y t=>by
   obtain⟨c,N,rfl⟩:=List.mem_map.1 t;exact AX fun h=>hn ⟨c,N,h⟩
  rw[<-m]at h2;simp only[AQ]at h2;omega
 have f8:first<=8:=fu
 obtain⟨c,u,v⟩:=A ((AK P).map fun i=>16+i) (by
  rw[Bj,AZ]
  exact List.nodup_range.imp (fun h=>fu)) fw
 obtain⟨i,hi,rfl⟩:=List.mem_map.1 u;have hi:=List.mem_range.1 hi;have g:=aVy (first:=first) (c:=16+i) fu ⟨fu,fu,v⟩;obtain⟨O,⟨Q,R,w⟩,B⟩:=g
 have E:P<=7->mT first l<16:=by
  intro F
  obtain⟨c,u,v⟩:=A ((AK 7).map fun i=>8+i) (by
   rw[Bj,AZ]
   exact List.nodup_range.imp (fun h=>fu)) fw
  obtain⟨i,hi,rfl⟩:=List.mem_map.1 u;have hi:=List.mem_range.1 hi;have:=(aVy (first:=first) (c:=8+i) fu ⟨fu,fu,v⟩).1;omega
 obtain⟨gv,S⟩:=fX (mT first l);rw[S]at O Q R w B E ⊢;have old:∀ q,q∈D->q≠p:=fun q hq e=>K (e ▸ hq)
 have mem:∀ q,q∈D ++ [p]↔q∈D\/q=p:=fun q=>by simp
 have taken:∀ q,q∈D->jc r p q->H q∈l:=fun q hq f=>by
  rw[<-m];exact List.mem_map.2 ⟨(q:Int),(n.2 _).2 f,fz⟩
 refine⟨fun q hq=>?_,fun q hq=>?_,fun a ha b s k=>?_,fun q hq z=>?_⟩
 ·rw[mem]at hq;rw[gy (fun e=>hq (.inr e))];exact h.un q (fun e=>hq (.inl e))
 ·rcases(mem q).1 hq with hq|hq
  ·rw[gy (old q hq)];exact h.ok q hq
  ·subst hq;rw[gz rfl];refine⟨fu,fu,fu,fun F=>by have:=E F;omega,fun T=>?_⟩;rcases L with⟨e,_⟩|⟨_,hn⟩
   ·omega
   ·exact gH T hn
 ·rcases(mem a).1 ha with j|j
  ·rcases(mem b).1 s with d|d
   ·rw[gy (old a j),gy (old b d)];exact h.cl a j b d k
   ·rw[gy (old a j),gz d];intro e;rw[d]at k;exact w (e ▸ taken a j k.symm)
  ·rcases(mem b).1 s with d|d
   ·rw[gz j,gy (old b d)];intro e;rw[j]at k;exact w (e ▸ taken b d k)
   ·rw[j,d]at k;exact gH rfl k.1
 ·rcases(mem q).1 hq with hq|hq
  ·rw[gy (old q hq)]at z ⊢;obtain⟨G,h1,h2⟩:=h.gap q hq z;exact⟨G,by simp[h1],by rw[gy (old G h1)];exact h2⟩
  ·subst hq;rw[gz rfl]at z ⊢;have U:=B (gv - 1) fu;have I:((gv - 1:Nat):Int)∈l:=AX fun hn=>U ⟨fu,fu,hn⟩;rw[<-m]at I;obtain⟨x,f,he⟩:=List.mem_map.1 I
   have J:x.toNat∈D:=AX fun hn=>by
    have:=h.un _ hn;omega
   exact⟨x.toNat,by simp[J],by rw[gy (old _ J),he];omega⟩
theorem kI.done{r:gR}{D:List Nat}{H:Nat->Int}(h:kI r P D H)(d:∀ p,p<P->p∈D)(g:∀ p∈D,p<P):jr r P ((AK P).map H):=by
 have get:∀ (i:Nat) x,((AK P).map H)[i]? = fS x->i<P/\x=H i:=by
  intro i x c;by_cases hi:i<P
  ·simp[hi]at c;exact⟨hi,c.symm⟩
  ·rw[List.getElem?_eq_none fw]at c;cases c
 have mem:∀ x,x∈(AK P).map H↔∃ i,i<P/\H i=x:=fun x=>by simp
 have down:∀ (k:Nat) (p:Nat),p<P->16<=H p - (k:Int)->∃ q,q<P/\H q=H p - (k:Int):=by
  intro k
  induction k with
  | zero=>intro p hp _;exact⟨p,hp,fz⟩
  | succ k l=>
   intro p hp hk;obtain⟨q,hq,e⟩:=l p hp fu;obtain⟨f,h1,h2⟩:=h.gap q (d q hq) fu;exact⟨f,g f h1,fu⟩
 refine⟨fz,fun x c=>?_,fun s x hs c hle=>?_,fun i j a b ha m n=>?_,fun i a ha o=>?_⟩
 ·obtain⟨i,hi,rfl⟩:=(mem x).1 c;have:=h.ok i (d i hi);exact⟨this.1,this.2.1,this.2.2.1,this.2.2.2.1⟩
 ·obtain⟨i,hi,rfl⟩:=(mem x).1 c;obtain⟨q,hq,e⟩:=down (H i - s).toNat i hi fu;exact(mem s).2 ⟨q,hq,fu⟩
 ·obtain⟨hi,rfl⟩:=get i a ha;obtain⟨hj,rfl⟩:=get j b m;exact h.cl i (d i hi) j (d j hj) n
 ·obtain⟨hi,rfl⟩:=get i a ha;exact(h.ok i (d i hi)).2.2.2.2 o
def tV(hs:List Int)(p:Int):Int:=hs.getD p.toNat 0
def mV(hs l:List Int):List Int:=l.map (tV hs)
def uJ(m:Int)(l:List Int):Int:=l.foldl (fun m h=>max m (h+1)) m
def rX(hs:List Int):Int:=uJ 16 hs
def vJ(hs:List Int)(c:gP):gP:={ c with args:=mV hs c.args,O:=mV hs c.O }
def zQ(r:gR)(hs:List Int):gR:={ r with M:=rX hs,params:=mV hs r.params,K:=r.K.map (vJ hs) }
theorem aVz:∀ (l:List Int) (m:Int),m<=uJ m l
 | [],m=>Int.le_refl m
 | h :: l,m=>by
  have:=aVz l (max m (h+1));show m<=uJ (max m (h+1)) l;omega
theorem bXk:∀ (l:List Int) (m:Int),∀ h∈l,h+1<=uJ m l
 | [],m,h,b=>by simp at b
 | a :: l,m,h,b=>by
  show h+1<=uJ (max m (a+1)) l;rcases List.mem_cons.1 b with e|b
  ·have:=aVz l (max m (a+1));omega
  ·exact bXk l _ h b
theorem bZq:∀ (l:List Int) (m b:Int),m<=b->(∀ h∈l,h+1<=b)->uJ m l<=b
 | [],m,b,c,_=>c
 | a :: l,m,b,c,d=>by
  show uJ (max m (a+1)) l<=b;exact bZq l _ b (by have:=d a fz;omega) (fun h e=>d h (by simp[e]))
theorem bYl(l:List Int)(m h:Int):uJ m (l ++ [h])=max (uJ m l) (h+1):=by simp[uJ]
theorem xV(hs l:List Int):(mV hs l).length=l.length:=by simp[mV]
theorem cYm:x∈mV hs l↔∃ p∈l,tV hs p=x:=by simp[mV]
theorem jr.get{r:gR}(h:jr r P hs){p:Int}(h0:0<=p)(h1:p<P):hs[p.toNat]? = fS (tV hs p):=by
 have hl:=h.len;have a:p.toNat<hs.length:=fu;unfold tV;rw[Ab,Av a];rfl
theorem jr.L{r:gR}(h:jr r P hs){p:Int}(a:0<=p)(h1:p<P):tV hs p∈hs:=AJ (h.get a h1)
theorem jr.ne{r:gR}(h:jr r P hs){p q:Int}(hp:0<=p/\p<P)(hq:0<=q/\q<P)(hc:jc r p q):tV hs p≠tV hs q:=by
 refine h.cl p.toNat q.toNat _ _ (h.get hp.1 hp.2) (h.get hq.1 hq.2) ?_;rw[show((p.toNat:Nat):Int)=p by omega,show((q.toNat:Nat):Int)=q by omega];exact hc
theorem jr.top{r:gR}(h:jr r P hs):16<=rX hs/\rX hs<=16+P:=
 ⟨aVz _ _,bZq _ _ _ fu (fun x a=>by have:=h.ok x a;omega)⟩
theorem jr.lt{r:gR}(h:jr r P hs){p:Int}(b:0<=p)(h1:p<P):0<=tV hs p/\tV hs p<rX hs:=by
 have a:=h.L b h1;have h2:=h.ok _ a;have h3:=bXk hs 16 _ a;unfold rX;omega
theorem aJz{r:gR}(h:jr r P hs)(a:∀ x∈l,0<=x/\x<(P:Int)):within (rX hs) (mV hs l)=fT:=by
 unfold within;rw[List.all_eq_true];intro x b;obtain⟨p,hp,rfl⟩:=cYm.1 b;have:=a p hp;have:=h.lt this.1 this.2
 simpa using this
theorem bXl{r:gR}(h:jr r P hs)(c:∀ x∈l,0<=x/\x<(P:Int))(hn:l.Nodup)(hc:∀ x∈l,∀ y∈l,x≠y->jc r x y):(mV hs l).Nodup:=by
 unfold mV;rw[Bj,AZ];exact(List.Pairwise.and_mem.1 hn).imp (fun {a b} q=>h.ne (c a q.1) (c b q.2.1) (hc a q.1 b q.2.1 q.2.2))
theorem cKr{e:ia}{r:gR}(hc:iq e r)(p:r.M=P)(ai:P<=2032)(h:jr r P hs):iq e (zQ r hs) where
 J:=hc.J
 a2:=hc.a2
 n1:=by simpa[zQ]using hc.n1
 n2:=by simpa[zQ]using hc.n2
 p1:=by have:=h.top;show 0<=rX hs;omega
 p2:=by have:=h.top;show rX hs<=4096;omega
 par:=by
  show(mV hs r.params).length=_;rw[xV];exact hc.par
 pin:=aJz h (fun x f=>by have:=vK hc.pin f;omega)
 pw:=bXl h (fun x f=>by have:=vK hc.pin f;omega) hc.pw (fun x f y j l=>⟨l,.inl (.inr ⟨f,.inl j⟩)⟩)
 K:=by
  intro c a;obtain⟨b,m,rfl⟩:=List.mem_map.1 (show c∈r.K.map (vJ hs)from a);obtain⟨i,hi⟩:=List.mem_iff_getElem?.1 m;have d:=hc.K b m;have g:=xJ d;rw[p]at g;unfold codeOk at d ⊢
  show(match iV e r.a2 b.op b.n with
   | none=>false
   | some (i,o)=>decide ((mV hs b.args).length=i.length/\(mV hs b.O).length=o.length/\vQ b.op<=b.to.length/\(b.to.length:Int)<=sW b.op) && (within (rX hs) (mV hs b.args) && (within (rX hs) (mV hs b.O) && (decide (mV hs b.O).Nodup && within (r.K.map (vJ hs)).length b.to))))=true
  cases hf:iV e r.a2 b.op b.n with
  | none=>rw[hf]at d;cases d
  | some q=>
   obtain⟨i1,o1⟩:=q;rw[hf]at d;simp only[Bool.and_eq_true,decide_eq_true_eq]at d ⊢;obtain⟨s,k2,k3,k4,t⟩:=d;refine⟨by rw[xV,xV];exact s,aJz h g.1,aJz h g.2.1,bXl h g.2.1 g.2.2 (fun x f y j l=>⟨l,.inl (.inl ⟨i,b,hi,f,.inr j⟩)⟩),by rw[AQ];exact t⟩
 first:=by
  intro c a;have a:(r.K.map (vJ hs))[0]? = some c:=a;rw[Ag]at a
  cases h0:r.K[0]? with
  | none=>rw[h0]at a;cases a
  | some b=>
   rw[h0]at a;injection a with a;subst a;exact hc.first b h0
 last:=by
  intro c a;have a:(r.K.map (vJ hs))[(r.K.map (vJ hs)).length - 1]? = some c:=a;rw[AQ,Ag]at a
  cases h0:r.K[r.K.length - 1]? with
  | none=>rw[h0]at a;cases a
  | some b=>
   rw[h0]at a;injection a with a;subst a;exact hc.last b h0
 rank:=by
  obtain⟨rk,u⟩:=hc.rank;refine⟨rk,fun i c k a v d=>?_⟩;have a:(r.K.map (vJ hs))[i]? = some c:=a;rw[Ag]at a
  cases h0:r.K[i]? with
  | none=>rw[h0]at a;cases a
  | some b=>
   rw[h0]at a;injection a with a;subst a;exact u i b k h0 v d
def cYn(hs l:List Int)(w:BK)(a:Ending)(w':BK):Prop:=∃ v,a = .returned v/\w'.ownsRow w.heap.size 3 1 v l.length (ix (mV hs l))/\BW w.heap.size w w'
theorem cYo{y:Int}(h:l[k]? = fS x)(a:tV hs x=y):ix (mV hs (l.take k)) ++ [fF fN y]=ix (mV hs (l.take (k+1))):=by
 obtain⟨h1,h2⟩:=gw h;rw[Aw h1,h2,<-a];simp[ix,mV]
theorem eKr{z:Nat}(h:z<hs.length):hs[z]? = fS (tV hs (z:Int)):=by
 unfold tV;rw[Int.toNat_natCast,Ab,Av h];rfl
theorem eKs(x:Int):∀ u ∈ [Value.int fN x],u.oneCell'=fT:=by
 intro u a;obtain rfl:=List.mem_singleton.1 a;rfl
theorem aYd(vl m:BV)(l hs:List Int)(w:BK)(o:IR w vl l)(p:IR w m hs)(d:∀ x∈l,0<=x/\x<hs.length)(C:l.length<=100000)(D:hs.length<=100000):
  Calls fZ 66 #[vl,m] w (cYn hs l w):=by
 have q:=fQ o;have r:=fQ p;obtain⟨Al,cl,rfl,_⟩:=o;obtain⟨Ah,ch,rfl,_⟩:=p;obtain⟨n,hn⟩:=fX l.length;obtain⟨P,e⟩:∃ n,hs.length=n:=⟨_,rfl⟩;have t:=fQ hn;have E:=fQ e;unfold cYn;rw[hn]at q C ⊢;rw[e]at r D ⊢
 have u:∀ x∈l,0<=x/\x<(P:Int):=fun x a=>by have:=d x a;omega
 have s:=fQ u;clear hn e d u;go_in;go_wp2_with fail;go_loopw [5,6] (fun v i wr=>∃ k:Nat,k<=n/\i = fF fN k/\Hid (wr.ownsRow w.heap.size 3 1 v k (ix (mV hs (l.take k))))/\Hid (BW w.heap.size w wr)) (fun _ i _=>n - (intOf i).toNat)
 case atStart=>exact⟨0,fu,rfl,fQ (World.ownsRow_nil _ _ _ _),fQ (AV _ _)⟩
 case round=>
  obtain⟨k,hk,rfl,iO,b⟩:=hrel;obtain⟨F,G,hv,_⟩:=fJ iO.out;subst hv;by_cases H:k<n
  ·have t2:(k:Int)<n:=fu;obtain⟨x,a⟩:∃ x,l[k]? = fS x:=⟨_,Av (by rw[t.out];exact H)⟩;have J:=s.out x (AJ a);obtain⟨c,rfl⟩:∃ z:Nat,x=z:=⟨x.toNat,fu⟩;have K:c<P:=fu;have ax:(c:Int)<P:=fu;obtain⟨y,f⟩:=fX (tV hs (c:Int));have g:=eKr (hs:=hs) (z:=c) (by rw[E.out];exact K);rw[f]at g;obtain⟨xb,xo,rfl,ay,az⟩:=(q.C b.out (Az _)).cell a;obtain⟨yb,yo,rfl,aA,aB⟩:=(r.C b.out (Az _)).cell g;have L:=fQ (cYo a f);have aC:=b.out.size;have A:=fQ (lJ iO.out (fP #[fF fN y] 3));have M:=fQ (b.out.alloc b.out.size (fP #[fF fN y] 3));clear a J f g;go_wp2_with (at_builtin;refine nQ _ rfl (.tmp 13) (.tmp 21) 23 rfl w.heap.size 3 (fF fN 0) 1 8 underlying23 qB rfl fu (.slice F k G) k (ix (mV hs (l.take k))) rfl A.out (fS ⟨wr.heap.size,0,fR⟩) 1 1 [fF fN y] rfl (gO.kE (cs:=#[fF fN y]) (gO.X _ _ _ rfl) rfl) (eKs _) (by unfold maxLen;omega) fu fw ?_);rintro v' w' h B N _;rw[L.out]at h;have O:=fQ h;have Q:=fQ (oQ M.out B fw (fun j hj=>(A.lt j hj).1));clear h B N;go_wp2;exact⟨⟨k+1,fu,fz,O,Q⟩,fB⟩
  ·have I:decide ((k:Int)<n)=fU:=fw;have R:n=k:=fu;subst R;have S:=fQ (show l.take n=l from AW (by rw[t.out];exact Az _));go_wp2;go_ret;exact⟨_,rfl,by have:=iO.out;rw[S.out]at this;exact this,b.out⟩
theorem fJp{L:List Nat}{p:Nat}(hp:L[k]? = fS p):L.take (k+1)=L.take k ++ [p]:=by
 obtain⟨h2,e2⟩:=gw hp;rw[Aw h2,e2]
def nr(w:BK)(base:Nat)(cs:List BV)(c:gP):Prop:=∃ a b d,cs = [fF fN c.op,fF fO (c.n:Int),a,b,d]/\c.ok/\w.ownsRow base 3 1 a c.args.length (ix c.args)/\w.ownsRow base 3 1 b c.O.length (ix c.O)/\w.ownsRow base 3 1 d c.to.length (ix c.to)
def mw(w:BK)(base:Nat)(v:BV)(C:List gP):Prop:=∃ vs:List (List BV),w.ownsRow base 86 5 v C.length vs.flatten/\vs.length=C.length/\∀ (i:Nat) cs c,vs[i]? = fS cs->C[i]? = fS c->nr w base cs c
theorem fQi{f:List BV}{cs:Array BV}(h:w.ownsRow base 3 1 v n f)(i:gO w g 89 cs)(a b c d e:BV):(((((w.setCell ⟨g,0,fR⟩ a).setCell ⟨g,1,fR⟩ b).setCell ⟨g,2,fR⟩ c).setCell ⟨g,3,fR⟩ d).setCell ⟨g,4,fR⟩ e).ownsRow base 3 1 v n f:=by
 have hn:=iZ h i fy;exact iW (iW (iW (iW (iW h hn) hn) hn) hn) hn
theorem th{w2:BK}(h:BW w.heap.size w w1)(a:BW w1.heap.size w1 w2):BW w.heap.size w w2:=h.trans (a.mono h.size)
theorem pS{s1:Nat}{c:BV}(e:w1.cell? ⟨s1,0,fR⟩=fS a)(f:w1.cell? ⟨s1,1,fR⟩=fS b)(g:w1.cell? ⟨s1,3,fR⟩=fS c)(hs:s1<w1.heap.size)(d:BW w1.heap.size w1 w'):
  w'.cell? ⟨s1,0,fR⟩=fS a/\w'.cell? ⟨s1,1,fR⟩=fS b/\w'.cell? ⟨s1,3,fR⟩=fS c/\BW w1.heap.size w1 w':=
 ⟨(d.cell (p:=⟨s1,0,fR⟩) hs).trans e,(d.cell (p:=⟨s1,1,fR⟩) hs).trans f,(d.cell (p:=⟨s1,3,fR⟩) hs).trans g,d⟩
theorem bYm{s1:Nat}{c:BV}(h:w'.cell? ⟨s1,0,fR⟩=fS a/\w'.cell? ⟨s1,1,fR⟩=fS b/\w'.cell? ⟨s1,3,fR⟩=fS c/\BW w1.heap.size w1 w'):BW w1.heap.size w1 w':=h.2.2.2
theorem bYn{o:Obj}(h:BW w.heap.size w w1):BW w.heap.size w (w1.alloc o):=h.alloc h.size o
theorem bZr{a:List BV}(h:w.ownsRow base e 1 v n a)(b:BW w.heap.size w w'):w'.ownsRow base e 1 v n a:=iJ h b (Az _)
theorem cKs{e wc:BK}{c:BV}(g:BW (e.alloc (fP #[a,b,c,d,f] t)).drew.heap.size (e.alloc (fP #[a,b,c,d,f] t)).drew wc):gO wc e.heap.size t #[a,b,c,d,f]:=((gO.a4 e t #[a,b,c,d,f]).drew).C g (by show e.heap.size<(e.alloc _).heap.size;simp)
theorem bQn(w:BK){o:Obj}:BW w.heap.size w (w.alloc o).drew:=by
 have h:=(AV w.heap.size w).alloc (Az _) o;exact⟨h.os,h.tape,h.output,h.size,h.block⟩
theorem rC(w:BK):BW w.heap.size w w.drew:=⟨rfl,rfl,rfl,Az _,fun _ _=>rfl⟩
theorem fQj(a b c d e:BV)(ha:a.oneCell'=fT)(hb:b.oneCell'=fT)(hc:c.oneCell'=fT)(hd:d.oneCell'=fT)(he:e.oneCell'=fT):∀ u ∈ [a,b,c,d,e],u.oneCell'=fT:=by
 intro u f;simp only[BX,By,or_false]at f;rcases f with rfl|rfl|rfl|rfl|rfl <;> assumption
theorem cKt{e:ia}{r:gR}{c:gP}(a:codeOk e r c=fT):c.to.length<=100:=by
 have h2:=bVh a;have h3:sW c.op<=65:=(by unfold sW;split;omega;split <;> omega);omega
theorem cKu:(fZ.info? 86).map (fun i=>(i.zero,i.size,i.bytes))=fS (fS (fI #[fF fN 0,fF fO 0,fG fR 0 0,fG fR 0 0,fG fR 0 0]),5,88):=fx
theorem bQo(h:w.cell? ⟨N,0,fR⟩=fS x0/\w.cell? ⟨N,1,fR⟩=fS x1/\w.cell? ⟨N,2,fR⟩=fS x2/\w.cell? ⟨N,3,fR⟩=fS x3/\w.cell? ⟨N,4,fR⟩=fS x4/\N<w.heap.size/\BW w1.heap.size w1 w)(a:BW w.heap.size w w'):w'.cell? ⟨N,0,fR⟩=fS x0/\w'.cell? ⟨N,1,fR⟩=fS x1/\w'.cell? ⟨N,2,fR⟩=fS x2/\w'.cell? ⟨N,3,fR⟩=fS x3/\w'.cell? ⟨N,4,fR⟩=fS x4/\N<w'.heap.size/\BW w1.heap.size w1 w':=by
 obtain⟨c,h1,h2,d,e,b,f⟩:=h;have k:∀ i,w'.cell? ⟨N,i,fR⟩=w.cell? ⟨N,i,fR⟩:=fun i=>a.cell (p:=⟨N,i,fR⟩) b;exact⟨(k 0).trans c,(k 1).trans h1,(k 2).trans h2,(k 3).trans d,(k 4).trans e,Ay b a.size,th f a⟩
theorem dYn{o:Obj}(h:w.cell? ⟨N,0,fR⟩=fS x0/\w.cell? ⟨N,1,fR⟩=fS x1/\w.cell? ⟨N,2,fR⟩=fS x2/\w.cell? ⟨N,3,fR⟩=fS x3/\w.cell? ⟨N,4,fR⟩=fS x4/\N<w.heap.size/\BW w1.heap.size w1 w):(w.alloc o).cell? ⟨N,0,fR⟩=fS x0/\(w.alloc o).cell? ⟨N,1,fR⟩=fS x1/\(w.alloc o).cell? ⟨N,2,fR⟩=fS x2/\(w.alloc o).cell? ⟨N,3,fR⟩=fS x3/\(w.alloc o).cell? ⟨N,4,fR⟩=fS x4/\N<(w.alloc o).heap.size/\BW w1.heap.size w1 (w.alloc o):=bQo h ((AV _ _).alloc (Az _) _)
theorem eKt(h:w.cell? ⟨N,0,fR⟩=fS x0/\w.cell? ⟨N,1,fR⟩=fS x1/\w.cell? ⟨N,2,fR⟩=fS x2/\w.cell? ⟨N,3,fR⟩=fS x3/\w.cell? ⟨N,4,fR⟩=fS x4/\N<w.heap.size/\BW w1.heap.size w1 w):w.drew.cell? ⟨N,0,fR⟩=fS x0/\w.drew.cell? ⟨N,1,fR⟩=fS x1/\w.drew.cell? ⟨N,2,fR⟩=fS x2/\w.drew.cell? ⟨N,3,fR⟩=fS x3/\w.drew.cell? ⟨N,4,fR⟩=fS x4/\N<w.drew.heap.size/\BW w1.heap.size w1 w.drew:=bQo h (rC w)
theorem aWb(h:w.cell? ⟨N,0,fR⟩=fS x0/\w.cell? ⟨N,1,fR⟩=fS x1/\w.cell? ⟨N,2,fR⟩=fS x2/\w.cell? ⟨N,3,fR⟩=fS x3/\w.cell? ⟨N,4,fR⟩=fS x4/\N<w.heap.size/\BW w1.heap.size w1 w):BW w1.heap.size w1 w:=h.2.2.2.2.2.2
theorem dYo{r:Option Nat}(h:w.cell? ⟨N,0,fR⟩=fS x0/\w.cell? ⟨N,1,fR⟩=fS x1/\w.cell? ⟨N,2,fR⟩=fS x2/\w.cell? ⟨N,3,fR⟩=fS x3/\w.cell? ⟨N,4,fR⟩=fS x4/\N<w.heap.size/\BW w1.heap.size w1 w)(hg:w.grownBy w' r)(a:∀ j,r=fS j->w1.heap.size<=j/\j≠N):w'.cell? ⟨N,0,fR⟩=fS x0/\w'.cell? ⟨N,1,fR⟩=fS x1/\w'.cell? ⟨N,2,fR⟩=fS x2/\w'.cell? ⟨N,3,fR⟩=fS x3/\w'.cell? ⟨N,4,fR⟩=fS x4/\N<w'.heap.size/\BW w1.heap.size w1 w':=by
 obtain⟨d,h1,h2,f,g,b,c⟩:=h;have k:∀ i,w'.cell? ⟨N,i,fR⟩=w.cell? ⟨N,i,fR⟩:=fun i=>World.cell?_of_block (hg.block N b (fun e=>(a N e.symm).2 rfl));exact⟨(k 0).trans d,(k 1).trans h1,(k 2).trans h2,(k 3).trans f,(k 4).trans g,Ay b hg.size,oQ c hg c.size (fun j hj=>(a j hj).1)⟩
theorem fQk{a:Nat}{u:BV}(h:w.cell? ⟨N,0,fR⟩=fS x0/\w.cell? ⟨N,1,fR⟩=fS x1/\w.cell? ⟨N,2,fR⟩=fS x2/\w.cell? ⟨N,3,fR⟩=fS x3/\w.cell? ⟨N,4,fR⟩=fS x4/\N<w.heap.size/\BW w1.heap.size w1 w)(b:N≠a)(c:w1.heap.size<=a):(w.setCell ⟨a,i,fR⟩ u).cell? ⟨N,0,fR⟩=fS x0/\(w.setCell ⟨a,i,fR⟩ u).cell? ⟨N,1,fR⟩=fS x1/\(w.setCell ⟨a,i,fR⟩ u).cell? ⟨N,2,fR⟩=fS x2/\(w.setCell ⟨a,i,fR⟩ u).cell? ⟨N,3,fR⟩=fS x3/\(w.setCell ⟨a,i,fR⟩ u).cell? ⟨N,4,fR⟩=fS x4/\N<(w.setCell ⟨a,i,fR⟩ u).heap.size/\BW w1.heap.size w1 (w.setCell ⟨a,i,fR⟩ u):=by
 obtain⟨d,h1,h2,e,f,g,l⟩:=h;have k:∀ j,(w.setCell ⟨a,i,fR⟩ u).cell? ⟨N,j,fR⟩=w.cell? ⟨N,j,fR⟩:=fun j=>World.cell?_of_block (heap_setCell_other w ⟨a,i,fR⟩ N u b);exact⟨(k 0).trans d,(k 1).trans h1,(k 2).trans h2,(k 3).trans e,(k 4).trans f,by simpa using g,l.setCell (p:=⟨a,i,fR⟩) c _⟩
theorem bYo(f:gO w g t #[x0,x1,x2,x3,x4])(a b c d e:BV):gO (((((w.setCell ⟨g,0,fR⟩ a).setCell ⟨g,1,fR⟩ b).setCell ⟨g,2,fR⟩ c).setCell ⟨g,3,fR⟩ d).setCell ⟨g,4,fR⟩ e) g t #[a,b,c,d,e]:=by
 have h:=fY (fY (fY (fY (fY f 0 a) 1 b) 2 c) 3 d) 4 e
 simpa using h
def fQo(e:ia)(r:gR)(x:Int):Prop:=(¬iq e r/\x=6)\/(iq e r/\2032<r.M/\x=15)\/(iq e r/\r.M<=2032/\x=0)
theorem cYu(e:ia)(r:gR)(k l:BV)(w:BK)(he:iG w k e)(m:jn w l r):Calls fZ 63 #[k,l] w fun n w'=>∃ x:Int,n = .returned (fF fN x)/\fQo e r x/\BW w.heap.size w w':=by
 have y:=fQ he;have z:=fQ m;obtain⟨va,vb,o,rfl,h1,h2,A⟩:=he;obtain⟨p,q,s,vs,rfl,B,C,D,E⟩:=m;clear h1 h2 A B C D E;have a:=fQ (j8 w (fP #[va,fF fN e.G,vb,o,fH e.L] 26) (fP #[p,q,fF fN r.M,s,vs] 89));have c:=fQ (gO.X (w.alloc (fP #[va,fF fN e.G,vb,o,fH e.L] 26)) (N:=w.heap.size+1) 89 #[p,q,fF fN r.M,s,vs] fz);go_in;go_wp2_with fail;refine(aJp e r _ _ _ (y.C a.out (Az _)) (z.C a.out (Az _))).mono ?_;rintro n w1 ⟨b,rfl,t,d⟩;have f:=fQ (a.trans (d.mono a.out.size));have u:=fQ t;have g:=fQ (c.C d c.lt);clear d t
 cases b with
 | false=>
  go_wp2;go_ret;exact⟨_,rfl,.inl ⟨(fun h=>by have:=u.2 h;cases this),rfl⟩,f.out⟩
 | true=>
  have i:=fQ (u.1 rfl);obtain⟨P,j⟩:∃ P:Nat,r.M=P:=⟨r.M.toNat,by have:=i.p1;omega⟩;have v:=fQ j;rw[j]at g;clear j c;obtain⟨r0,r1,r2,r3,r4⟩:=gZ g.out;by_cases ak:2032<P
  ·have F:decide ((2032:Int)<(P:Int))=fT:=fw;go_wp2;go_ret;exact⟨_,rfl,.inr (.inl ⟨i.out,by rw[v.out];omega,rfl⟩),f.out⟩
  ·have F:decide ((2032:Int)<(P:Int))=fU:=fw;go_wp2;go_ret;exact⟨_,rfl,.inr (.inr ⟨i.out,by rw[v.out];omega,rfl⟩),f.out⟩
theorem cZg{P:Program}{Q:Exit->Act->BK->Prop}{f:Region.Mode}{c d:BK->Prop}{e:Nat}{l:List Oper}{j:Nat}{o g:Oper}{fuel:Nat}{listed:Array Bool}{a:Act}{w:BK}(m:Region.ready f l.toArray listed = [i,j])(q:l[i]? = fS o)(r:l[j]? = fS g)
  (h:∀ b:Act->BK->Prop,Shut (∀ a w,SD c d e (listed.setIfInBounds i fT) w->(SD c d e (listed.setIfInBounds i fT) w->sX P f l.toArray Q c d e fuel (listed.setIfInBounds i fT) a w)->b a w)->if Region.wanted o (yielded l.toArray a.tmps)=fT then Oper.wp P o a w b Q else b (a.put o.dst undef) w)
  (s:∀ b:Act->BK->Prop,Shut (∀ a w,SD c d e (listed.setIfInBounds j fT) w->(SD c d e (listed.setIfInBounds j fT) w->sX P f l.toArray Q c d e fuel (listed.setIfInBounds j fT) a w)->b a w)->if Region.wanted g (yielded l.toArray a.tmps)=fT then Oper.wp P g a w b Q else b (a.put g.dst undef) w) :
  sX P f l.toArray Q c d e (fuel+1) listed a w:=
 ⟨fun t=>(by rw[t]at m;cases m),fun k n=>by
  rw[m]at n;simp only[BX,By,or_false]at n;rcases n with rfl|rfl
  ·exact wpOp_step (by simpa using q) (fun b p=>h b (fun a w h1 h2=>p a w ⟨h1,h2 h1⟩))
  ·exact wpOp_step (by simpa using r) (fun b p=>s b (fun a w h1 h2=>p a w ⟨h1,h2 h1⟩))⟩
def j0(w0 w:BK)(base:Nat)(cs:List BV)(c:gP):Prop:=∃ a b d,cs = [fF fN c.op,fF fO (c.n:Int),a,b,d]/\c.ok/\w.ownsRow base 3 1 a c.args.length (ix c.args)/\w.ownsRow base 3 1 b c.O.length (ix c.O)/\Ints w0 d c.to
def iN(w0 w:BK)(base:Nat)(v:BV)(C:List gP):Prop:=∃ vs:List (List BV),w.ownsRow base 86 5 v C.length vs.flatten/\vs.length=C.length/\∀ (i:Nat) cs c,vs[i]? = fS cs->C[i]? = fS c->j0 w0 w base cs c
theorem j0.grown{cs:List BV}{c:gP}{r:Option Nat}(h:j0 w0 w base cs c)(hg:w.grownBy w' r)(j:∀ g cs,gO w g 3 cs->r≠fS g):j0 w0 w' base cs c:=by
 obtain⟨a,b,d,e,l,h1,h2,m⟩:=h
 have k:∀ {v:BV} {n:Nat} {f:List BV},w.ownsRow base 3 1 v n f->w'.ownsRow base 3 1 v n f:=fun i=>rO i hg (fun g o=>by
  obtain⟨cur,p⟩:=oD i o
  exact j g cur p)
 exact⟨a,b,d,e,l,k h1,k h2,m⟩
theorem iN.nil(w0 w:BK)(base:Nat):iN w0 w base (fG fR 0 0) []:=⟨[],World.ownsRow_nil _ _ _ _,rfl,fun i cs c h=>by simp at h⟩
theorem iN.C{C:List gP}(h:iN w0 w base v C)(a:BW w.heap.size w w'):iN w0 w' base v C:=by
 obtain⟨vs,h1,h2,b⟩:=h;exact⟨vs,iJ h1 a (Az _),h2,fun i cs c q1 d=>(b i cs c q1 d).grown (r7 a) (fun _ _ _=>fz)⟩
theorem iN.push{w':BK}{n:Nat}{v':BV}{C:List gP}{cs:List BV}{c:gP}{vs:List (List BV)}(h1:w.ownsRow base 86 5 v C.length vs.flatten)(h2:vs.length=C.length)(f:∀ (i:Nat) cs c,vs[i]? = fS cs->C[i]? = fS c->j0 w0 w base cs c)
  (hc:j0 w0 w base cs c) (h:w'.ownsRow base 86 5 v' (C.length+1) (vs.flatten++cs)) (hg:w.grownBy w' v.ownBlock):iN w0 w' base v' (C ++ [c]):=by
 have d:∀ g cs,gO w g 3 cs->v.ownBlock≠fS g:=fun g cs j=>iZ h1 j fy;refine⟨vs ++ [cs],by rw[List.length_append,List.flatten_append];simpa using h,by simp[h2],fun i u x a b=>?_⟩;by_cases hi:i<vs.length
 ·rw[Af hi]at a;rw[Af fu]at b;exact(f i u x a b).grown hg d
 ·rw[Ae fu]at a;rw[Ae fu]at b
  have e:i - vs.length=0:=by
   have:=(gw a).1;simp at this;omega
  rw[e]at a;rw[<-h2,e]at b;simp at a b;subst a;subst b;exact hc.grown hg d
theorem j0.other{cs:List BV}{c:gP}{ks:Array BV}(h:j0 w0 w base cs c)(f:gO w g t ks)(j:3≠t)(u:BV):j0 w0 (w.setCell ⟨g,i,fR⟩ u) base cs c:=by
 obtain⟨a,b,d,e,k,h1,h2,l⟩:=h;exact⟨a,b,d,e,k,iW h1 (iZ h1 f j),iW h2 (iZ h2 f j),l⟩
theorem iN.other{w0 w:BK}{base g i:Nat}{v:BV}{C:List gP}{ks:Array BV}(h:iN w0 w base v C)(a:gO w g 89 ks)(u:BV):iN w0 (w.setCell ⟨g,i,fR⟩ u) base v C:=by
 obtain⟨vs,h1,h2,b⟩:=h;exact⟨vs,iW h1 (iZ h1 a fy),h2,fun j cs c q1 d=>(b j cs c q1 d).other a fy u⟩
theorem iN.mono{C:List gP}(h:iN w0 w base v C)(f:g<=base):iN w0 w g v C:=by
 obtain⟨vs,h1,h2,j⟩:=h;refine⟨vs,iQ h1 f,h2,fun i cs c q1 k=>?_⟩;obtain⟨a,b,d,e,l,m,k2,n⟩:=j i cs c q1 k;exact⟨a,b,d,e,l,iQ m f,iQ k2 f,n⟩
theorem iN.row{C:List gP}(h:iN w0 w base v C):∃ xs,w.ownsRow base 86 5 v C.length xs:=by
 obtain⟨vs,h1,_⟩:=h;exact⟨_,h1⟩
theorem iN.fYr{C:List gP}(h:iN w0 w base v C)(f:gO w g 89 #[x0,x1,x2,x3,x4])(a b c d e:BV):iN w0 (((((w.setCell ⟨g,0,fR⟩ a).setCell ⟨g,1,fR⟩ b).setCell ⟨g,2,fR⟩ c).setCell ⟨g,3,fR⟩ d).setCell ⟨g,4,fR⟩ e) base v C:=
 ((((h.other f a).other (fY f 0 a) b).other (fY (fY f 0 a) 1 b) c).other (fY (fY (fY f 0 a) 1 b) 2 c) d).other (fY (fY (fY (fY f 0 a) 1 b) 2 c) 3 d) e
def k6(w0 w1:BK)(a:Nat)(b c:BV)(r:gR)(hs:List Int)(T:Int)(d:BV)(C:List gP)(wr:BK):Prop:=∃ p,gO wr a 89 #[b,c,fF fN T,p,d]/\wr.ownsRow w1.heap.size 3 1 p r.params.length (ix (mV hs r.params))/\iN w0 wr w1.heap.size d C/\BW w1.heap.size w1 wr/\w1.heap.size<=a
theorem k6.mk1{w0 a:BK}{r:gR}{c d:BV}(e:a.ownsRow w1.heap.size 3 1 p r.params.length (ix (mV hs r.params)))(b:BW w1.heap.size w1 a):
  k6 w0 w1 a.heap.size c d r hs 16 (fG fR 0 0) [] (a.alloc (fP #[c,d,fF fN 16,p,fG fR 0 0] 89)):=
 ⟨p,gO.a4 _ _ _,lJ e _,iN.nil _ _ _,b.alloc b.size _,b.size⟩
theorem k6.mk2{w0 b:BK}{r:gR}{c d:BV}{a:Nat}{f c1 g h i:BV}(j:b.ownsRow w1.heap.size 3 1 p r.params.length (ix (mV hs r.params)))(k:BW w1.heap.size w1 b)
  (kz:gO b a 89 #[f,c1,g,h,i]) (e:w1.heap.size<=a) :
  k6 w0 w1 a c d r hs 16 (fG fR 0 0) [] (((((b.setCell ⟨a,0,fR⟩ c).setCell ⟨a,1,fR⟩ d).setCell ⟨a,2,fR⟩ (fF fN 16)).setCell ⟨a,3,fR⟩ p).setCell ⟨a,4,fR⟩ (fG fR 0 0)):=
 ⟨p,bYo kz _ _ _ _ _,fQi j kz _ _ _ _ _,iN.nil _ _ _,zX k e _ _ _ _ _,e⟩
theorem k6.C{w0 w1 w w':BK}{b:Nat}{c e:BV}{r:gR}{hs:List Int}{T:Int}{d:BV}{C:List gP}(h:k6 w0 w1 b c e r hs T d C w)(a:BW w.heap.size w w'):k6 w0 w1 b c e r hs T d C w':=by
 obtain⟨p,f,op,g,i,hg⟩:=h;exact⟨p,f.C a f.lt,bZr op a,g.C a,th i a,hg⟩
theorem k6.fYs{wr:BK}{a:Nat}{c e:BV}{r:gR}{T:Int}{C:List gP}(h:k6 w0 w1 a c e r hs T d C wr)(T':Int):k6 w0 w1 a c e r hs T' d C (wr.setCell ⟨a,2,fR⟩ (fF fN T')):=by
 obtain⟨p,b,op,f,g,hg⟩:=h;have i:=fY b 2 (fF fN T');exact⟨p,by simpa using i,iW op (iZ op b fy),f.other b _,g.setCell (p:=⟨a,2,fR⟩) hg _,hg⟩
theorem k6.push{w0 w1 w w':BK}{a n:Nat}{l m:BV}{r:gR}{hs:List Int}{T:Int}{d e p:BV}{C:List gP}{cs:List BV}{c:gP}{vs:List (List BV)}
  (o:gO w a 89 #[l,m,fF fN T,p,d]) (op:w.ownsRow w1.heap.size 3 1 p r.params.length (ix (mV hs r.params))) (h1:w.ownsRow w1.heap.size 86 5 d C.length vs.flatten) (h2:vs.length=C.length) (u:∀ (i:Nat) cs c,vs[i]? = fS cs->C[i]? = fS c->j0 w0 w w1.heap.size cs c) (q:BW w1.heap.size w1 w) (hg:w1.heap.size<=a)
  (hc:j0 w0 w w1.heap.size cs c) (x:w'.ownsRow w1.heap.size 86 5 e (C.length+1) (vs.flatten++cs)) (f:w.grownBy w' d.ownBlock):k6 w0 w1 a l m r hs T e (C ++ [c]) (w'.setCell ⟨a,4,fR⟩ e):=by
 have y:d.ownBlock≠fS a:=iZ h1 o fy;have z:∀ g cs,gO w g 3 cs->d.ownBlock≠fS g:=fun g cs b=>iZ h1 b fy
 have s:∀ {v:BV} {n:Nat} {t:List BV},w.ownsRow w1.heap.size 3 1 v n t->w'.ownsRow w1.heap.size 3 1 v n t:=fun h=>rO h f (fun g A=>by
  obtain⟨cur,b⟩:=oD h A
  exact z g cur b)
 have k:=o.grown f y;have b:=fY k 4 e;exact⟨p,by simpa using b,iW (s op) (iZ (s op) k fy),(iN.push (n:=n) h1 h2 u hc x f).other k _,(oQ q f q.size (fun j hj=>(h1.lt j hj).1)).setCell (p:=⟨a,4,fR⟩) hg _,hg⟩
theorem cKx{c:gP}{o:Obj}(e:c.ok)(f:w.ownsRow base 3 1 a c.args.length (ix (mV hs c.args)))(g:w.ownsRow base 3 1 b c.O.length (ix (mV hs c.O)))(h:Ints w0 d c.to)(_:gO (w.alloc o) w.heap.size t #[x0,x1,a,b,d]):
  j0 w0 (w.alloc o) base [fF fN c.op,fF fO (c.n:Int),a,b,d] (vJ hs c):=by
 refine⟨a,b,d,rfl,e,?_,?_,h⟩
 ·show(w.alloc o).ownsRow base 3 1 a (mV hs c.args).length (ix (mV hs c.args));rw[xV];exact lJ f o
 ·show(w.alloc o).ownsRow base 3 1 b (mV hs c.O).length (ix (mV hs c.O));rw[xV];exact lJ g o
theorem cKy{x:BV}{r:gR}(h:jn w (fI #[a,b,x,p,d]) r):Structs 5 jE w d r.K:=by
 obtain⟨_,_,_,_,e,_,_,_,c⟩:=h;injection e with e;injection e with e;simp only[List.cons.injEq,and_true]at e;obtain⟨rfl,rfl,_,rfl,rfl⟩:=e;exact c
def fQn(w0:BK)(r:gR)(hs:List Int)(a b:BV)(w:BK)(c:Ending)(w':BK):Prop:=∃ p d:BV,c = .returned (fI #[a,b,fF fN (rX hs),p,d])/\w'.ownsRow w.heap.size 3 1 p r.params.length (ix (mV hs r.params))/\iN w0 w' w.heap.size d (r.K.map (vJ hs))/\BW w.heap.size w w'
theorem bWt(f:Array BV)(W:BK)(g:Nat)(a b c d e:BV)(h:f.getD 4 undef = fM (fS ⟨g,0,fR⟩))(k:gO W g 89 #[a,b,c,d,e]):
  (results Tryz.f42 f).run fZ W = .ok (fI #[a,b,c,d,e]) W:=by
 obtain⟨i,j,l,m,n⟩:=gZ k;simp only[AY]at h;simp[results,results42,go_sem,h,i,j,l,m,n]
theorem cYr{ops:Array Oper}{o:Oper}{a:Act}{w:BK}{K:Act->BK->Prop}{Q:Exit->Act->BK->Prop}{E:Prop}(b:o.guard=fR)(x:Operand)(c:o.op = .buildSlice 87 1 #[(0,x)]){v0 v1 v2 v3 v4:BV}(d:a.eval x = fI #[v0,v1,v2,v3,v4])
  (h:K (a.put o.dst (fG (fS ⟨w.heap.size,0,fR⟩) 1 1)) (w.alloc (fP #[v0,v1,v2,v3,v4] 86))):if Region.wanted o (yielded ops a.tmps)=fT then Oper.wp fZ o a w K Q else E:=by
 have e:Region.wanted o (yielded ops a.tmps)=fT:=(by simp[Region.wanted,b]);rw[gz e]
 have he:(execOp a.eval o).run fZ w = .ok (.value (fG (fS ⟨w.heap.size,0,fR⟩) 1 1)) (w.alloc (fP #[v0,v1,v2,v3,v4] 86)):=by
  unfold execOp;rw[c];simp only[Ai,Bk,Bw,d]
  kernel_rfl
 unfold Oper.wp;rw[he];exact h
theorem cYs{a:Act}{o:Oper}{w:BK}{o0 o1 o2 o3 o4:Operand}(b:o.op = .build 86 #[(0,o0),(1,o1),(2,o2),(3,o3),(4,o4)]){y:Int}{A B C:Option Addr}{m q c d e:Nat}(f:a.eval o0 = fF fN x)(h1:a.eval o1 = fF fO y)(h2:a.eval o2 = fG A n c)(g:a.eval o3 = fG B m d)(h:a.eval o4 = fG C q e):
  (execOp a.eval o).run fZ w = .ok (.value (fI #[fF fN x,fF fO y,fG A n c,fG B m d,fG C q e])) w:=by
 unfold execOp;rw[b];simp only[Ai,Bk,Bw,f,h1,h2,g,h]
 kernel_rfl
theorem dYw(w0:BK)(r:gR)(hs:List Int)(P:Nat)(vp vq V vs vh:BV)(w:BK)(aO:jn w0 (fI #[vp,vq,fF fN r.M,V,vs]) r)(aP:BW w0.heap.size w0 w)(hh:IR w vh hs)(hP:hs.length=P)(b2:P<=4096)(a1:∀ h∈hs,0<=h/\h<10000)
  (hn:r.K.length<=4096) (b3:r.params.length<=1000) (a6:∀ x∈r.params,0<=x/\x<hs.length) (a7:∀ c∈r.K,(∀ x∈c.args,0<=x/\x<hs.length)/\(∀ x∈c.O,0<=x/\x<hs.length)/\c.args.length<=100/\c.O.length<=100/\c.to.length<=100) :
  Calls fZ 42 #[fI #[vp,vq,fF fN r.M,V,vs],vh] w (fQn w0 r hs vp vq w):=by
 have hr:=aO.C aP (Az _);have HR:=fQ hr;have a8:=fQ aO;have aq:=fQ aP;clear aO aP;obtain⟨_,_,_,_,e,h4,h5,h6,h7⟩:=hr;injection e with e;injection e with e;simp only[List.cons.injEq,and_true]at e;obtain⟨rfl,rfl,_,rfl,rfl⟩:=e;obtain⟨u,vc,rfl⟩:=h4.I;obtain⟨D,F,rfl⟩:=h5.I;obtain⟨Ac,cc,rfl,_⟩:=h7.len;have ba:=hh;obtain⟨Ah,ch,rfl,_⟩:=hh;obtain⟨n,aQ⟩:=fX r.K.length;have HN:=fQ aQ;have HP:=fQ hP;have aR:=fQ hP;have HH:=fQ (show IR w (fG Ah hs.length ch) hs from ba);have bs:=fQ a1;have bt:=fQ a6;have bu:=fQ a7;have bw:=fQ h6.ir;have bb:=fQ (cKy a8.out);clear a8;rw[hP]at HH ⊢;rw[aQ]at bb hn ⊢;clear h4 h5 h6 h7 hP a1 a6 a7 HR aQ ba;have S:=fQ (j8 w (fP #[fG u r.a2.a1.length vc,fG D r.a2.out.length F,fF fN r.M,V,fG Ac n cc] 89) (fP #[fG fR 0 0,fG fR 0 0,fF fN 0,fG fR 0 0,fG fR 0 0] 89));have al:=fQ (gO.alloc (gO.a4 w 89 #[fG u r.a2.a1.length vc,fG D r.a2.out.length F,fF fN r.M,V,fG Ac n cc]) (fP #[fG fR 0 0,fG fR 0 0,fF fN 0,fG fR 0 0,fG fR 0 0] 89));have aA:=fQ (gO.X (w.alloc (fP #[fG u r.a2.a1.length vc,fG D r.a2.out.length F,fF fN r.M,V,fG Ac n cc] 89)) (N:=w.heap.size+1) 89 #[fG fR 0 0,fG fR 0 0,fF fN 0,fG fR 0 0,fG fR 0 0] fz);go_in;go_wp2_with fail;obtain⟨w1,bc⟩:=fX ((w.alloc (fP #[fG u r.a2.a1.length vc,fG D r.a2.out.length F,fF fN r.M,V,fG Ac n cc] 89)).alloc (fP #[fG fR 0 0,fG fR 0 0,fF fN 0,fG fR 0 0,fG fR 0 0] 89));rw[bc]at S al aA ⊢;clear bc;obtain⟨s0,an⟩:∃ s,w.heap.size=s:=⟨_,rfl⟩;have ar:=fQ an;rw[an]at al aA S ⊢;have aB:=fQ (aA.lt);have aS:=fQ (show s0<=w1.heap.size by have:=aB.out;omega);obtain⟨I,J,r2,L,r4⟩:=gZ al.out;have y1:=al.lt;have CC:=fQ (fun w' (g:BW w1.heap.size w1 w')=>aYd V (fG Ah P ch) r.params hs w' ((bw.C S.out (Aa an)).C g (Az _)) ((HH.C S.out (Aa an)).C g (Az _)) bt.out fu (by rw[HP.out];omega));have aC:=fQ (show BW w0.heap.size w0 w1 from aq.trans ((show BW w.heap.size w w1 from an ▸ S.out).mono aq.out.size));clear an;go_cut [5] (fun f wx=>∃ E:Nat,f = fM (fS ⟨E,0,fR⟩)/\Hid (k6 w0 w1 E (fG u r.a2.a1.length vc) (fG D r.a2.out.length F) r hs 16 (fG fR 0 0) [] wx))
 case first=>
  have U:=pS I J L y1 (rC w1);refine jY (fun w'=>w'.cell? ⟨s0,0,fR⟩=fS (fG u r.a2.a1.length vc)/\w'.cell? ⟨s0,1,fR⟩=fS (fG D r.a2.out.length F)/\w'.cell? ⟨s0,3,fR⟩=fS V/\BW w1.heap.size w1 w') (fun _=>True) 8 fx U trivial fun a=>?_;refine ig 0 a fun a=>?_;refine ig 1 a fun a=>?_;refine ig 2 a fun a=>?_;refine ig 3 a fun a=>?_;refine ig 4 a fun a=>?_;refine cZg (i:=5) (j:=7) fx rfl rfl (fun K b=>?_) fun K b=>?_
  ·go_simp;refine(CC.out _ (bYm U)).mono ?_;rintro en wC ⟨vC,rfl,au,aD⟩;have oC:=fQ (iQ au (Bv (bYm U)));have W:=th (bYm U) aD;obtain⟨AC,cC,rfl,_⟩:=fJ au;refine b.out _ _ ⟨pS I J L y1 W,fun _=>trivial⟩ fun a=>?_;clear b K
   try simp only[Ak,Aj,Aq,Ax]
   refine ig 6 a fun a=>?_;refine gX (i:=7) fx rfl fun K b=>?_;go_simp;refine b.out _ _ ⟨pS I J L y1 (bYn W),fun _=>trivial⟩ fun a=>?_;clear b K
   try simp only[Ak,Aj,Aq,Ax]
   refine gX (i:=8) fx rfl fun K b=>?_;go_simp;refine b.out _ _ ⟨pS I J L y1 (bYn W),fun _=>trivial⟩ fun a=>?_;clear b K
   try simp only[Ak,Aj,Aq,Ax]
   refine jX fx ?_ _;go_wp2_with fail;go_meet
   with_reducible exact⟨_,rfl,fQ (k6.mk1 oC.out W)⟩
  ·go_simp;refine b.out _ _ ⟨pS I J L y1 (bQn w1),fun _=>trivial⟩ fun a=>?_;clear b K
   try simp only[Ak,Aj,Aq,Ax]
   refine gX (i:=5) fx rfl fun K b=>?_;go_simp;refine(CC.out _ (bQn w1)).mono ?_;rintro en wC ⟨vC,rfl,au,aD⟩;have oC:=fQ (iQ au (Bv (bQn w1)));have W:=th (bQn w1) aD;have kz:=fQ (cKs aD);obtain⟨AC,cC,rfl,_⟩:=fJ au;refine b.out _ _ ⟨pS I J L y1 W,fun _=>trivial⟩ fun a=>?_;clear b K
   try simp only[Ak,Aj,Aq,Ax]
   refine ig 6 a fun a=>?_;obtain⟨z0,z1,z2,z3,z4⟩:=gZ kz.out;have f0:=ik kz.out 0;have f1:=ik kz.out 1;have f2:=ik kz.out 2;have f3:=ik kz.out 3;have f4:=ik kz.out 4;have yz:=gO.lt kz.out;refine gX (i:=8) fx rfl fun K b=>?_;go_simp;refine b.out _ _ ⟨pS I J L y1 (zX W (Az _) _ _ _ _ _),fun _=>trivial⟩ fun a=>?_;clear b K
   try simp only[Ak,Aj,Aq,Ax]
   refine jX fx ?_ _;go_wp2_with fail;go_meet
   with_reducible exact⟨_,rfl,fQ (k6.mk2 oC.out W kz.out (Az _))⟩
 case rest=>
  as_aux_lemma=>
  obtain⟨w2,rfl⟩:∃ w2:BK,w2=wc:=⟨_,rfl⟩;obtain⟨E,rfl,HU⟩:=hcut;have aw:=fQ (show k6 w0 w1 E (fG u r.a2.a1.length vc) (fG D r.a2.out.length F) r hs (uJ 16 (hs.take 0)) (fG fR 0 0) [] w2 from HU.out);clear I J r2 L r4 CC HU;go_wp2_with fail;go_loopw [6] (fun i wr=>∃ k:Nat,k<=P/\i = fF fN k/\Hid (k6 w0 w1 E (fG u r.a2.a1.length vc) (fG D r.a2.out.length F) r hs (uJ 16 (hs.take k)) (fG fR 0 0) [] wr)) (fun i _=>P - (intOf i).toNat)
  case atStart=>exact⟨0,fu,rfl,aw⟩
  case round=>
   clear aw;obtain⟨k,hk,rfl,M⟩:=hrel;by_cases bz:k<P
   ·as_aux_lemma=>
    have t1:decide ((k:Int)<P)=fT:=fw;have t2:(k:Int)<P:=fu;obtain⟨x,hx⟩:∃ x,hs[k]? = fS x:=⟨_,Av (by rw[aR.out];exact bz)⟩;have bA:=bs.out x (AJ hx);obtain⟨p,G,op,O,g,hg⟩:=M.out;obtain⟨xb,xo,rfl,b4,b5⟩:=(HH.C (S.trans (g.mono aS.out)) (Aa ar.out)).cell hx;obtain⟨zx,rfl⟩:∃ z:Nat,x=z:=⟨x.toNat,fu⟩;obtain⟨T,hT⟩:=fX (uJ 16 (hs.take k))
    have aE:uJ 16 (hs.take (k+1))=max T ((zx:Int)+1):=by
     obtain⟨h1,h2⟩:=gw hx;rw[Aw h1,h2,bYl,hT]
    rw[hT]at M G;have bd:zx<10000:=fu;obtain⟨zy,bB⟩:∃ z:Nat,zx+1=z:=⟨_,rfl⟩;have b6:IntKind.i64.wrap ((zx:Int)+1)=(zy:Int):=(by rw[show(zx:Int)+1=(zy:Int) by omega];exact IntWalk.i64_in _ fu);rw[show(zx:Int)+1=(zy:Int) by omega]at aE;obtain⟨d0,d1,d2,d3,d4⟩:=gZ G;have f2:=ik G 2;have yb:=G.lt;have aT:=fQ (fun q=>(show k6 w0 w1 E (fG u r.a2.a1.length vc) (fG D r.a2.out.length F) r hs T (fG fR 0 0) [] (wr.drewN q)from M.out.C (fK (AV _ _) q)).fYs (max T (zy:Int)));rw[<-aE]at aT;have be:=fQ aE;clear hx bA G op O g hT aE M bB;go_wp2_with fail;go_region
    all_goals
     go_wp2_with fail
     first
      | exact⟨⟨k+1,fu,fz,by rw[be.out];rw[be.out]at aT;exact fQ (aT.out 1)⟩,fB⟩
   ·as_aux_lemma=>
    have t1:decide ((k:Int)<P)=fU:=fw;have bC:hs.take k=hs:=AW (by rw[aR.out];omega);rw[bC]at M;obtain⟨w3,rfl⟩:∃ w3:BK,w3=wr:=⟨_,rfl⟩;obtain⟨p,G,op,O,g,hg⟩:=M.out;have Y:=al.C g (by have:=aB.out;omega);obtain⟨I,J,r2,L,r4⟩:=gZ Y;have y3:=Y.lt;have aw:=fQ (show ∃ d,k6 w0 w1 E (fG u r.a2.a1.length vc) (fG D r.a2.out.length F) r hs (rX hs) d ((r.K.take 0).map (vJ hs)) w3 from⟨_,M.out⟩);clear G op O g M;go_wp2_with fail;go_loopw [7] (fun i wr=>∃ k:Nat,k<=n/\i = fF fN k/\Hid (∃ d,k6 w0 w1 E (fG u r.a2.a1.length vc) (fG D r.a2.out.length F) r hs (rX hs) d ((r.K.take k).map (vJ hs)) wr)) (fun i _=>n - (intOf i).toNat)
    case atStart=>exact⟨0,fu,rfl,aw⟩
    case round=>
     clear aw I J r2 L r4 y3;obtain⟨k,hk,rfl,M⟩:=hrel;obtain⟨d,p,G,op,O,g,hg⟩:=M.out;have Y:=al.C g (by have:=aB.out;omega);obtain⟨I,J,r2,L,r4⟩:=gZ Y;have y3:=Y.lt;by_cases bD:k<n
     ·as_aux_lemma=>
      have t1:decide ((k:Int)<n)=fT:=fw;have t2:(k:Int)<n:=fu;obtain⟨c,hc⟩:∃ c,r.K[k]? = fS c:=⟨_,Av (by rw[HN.out];exact bD)⟩;have bE:=fQ hc;have Z:=aC.trans (g.mono aC.out.size);obtain⟨cb,co,ua,ub,uc,rfl,ax,g0,g1,g2,g3,g4,bf,i1,i2,i3⟩:=bb.K hc;replace g0:=(Z.cell (p:=⟨cb,_,fR⟩) ax).trans g0;replace g1:=(Z.cell (p:=⟨cb,_,fR⟩) ax).trans g1;replace g2:=(Z.cell (p:=⟨cb,_,fR⟩) ax).trans g2;replace g3:=(Z.cell (p:=⟨cb,_,fR⟩) ax).trans g3;replace g4:=(Z.cell (p:=⟨cb,_,fR⟩) ax).trans g4;have y2:cb<wr.heap.size:=(by have:=Z.size;omega);obtain⟨pA,pc,rfl⟩:=i1.I;obtain⟨qA,qc,rfl⟩:=i2.I;obtain⟨R,tc,rfl⟩:=i3.I;have J1:=fQ (i1.ir.C aC.out (Az _));have J2:=fQ (i2.ir.C aC.out (Az _));have J3:=fQ i3;have ao:=bu.out c (AJ hc);have aU:=fQ bf;have b7:c.to.length<=100:=ao.2.2.2.2;have P1:=fQ ao.1;have P2:=fQ ao.2.1;have b8:=ao.2.2.1;have b9:=ao.2.2.2.1;have q4:hs.length<=100000:=(by rw[aR.out];omega);obtain⟨N,hN⟩:=fX wr.heap.size;have aF:((r.K.take k).map (vJ hs)).length=k:=(by rw[AQ,List.length_take,HN.out];omega);obtain⟨C,hC⟩:=fX ((r.K.take k).map (vJ hs));rw[hC]at O aF;have bg:=fQ aF
      have bF:=fQ (show(r.K.take (k+1)).map (vJ hs)=C ++ [vJ hs c]from by
       obtain⟨h1,h2⟩:=gw bE.out;rw[Aw h1,h2,BJ,hC]
       rfl)
      obtain⟨bG,ad⟩:=O.row;rw[aF]at ad;obtain⟨Ad,cd,aG,_⟩:=fJ ad;subst aG;have bH:=fQ (show ∀ j,(Value.slice Ad k cd).ownBlock=fS j->w1.heap.size<=j/\j≠N from fun j hj=>by have:=ad.lt j hj;omega);have bI:=G.lt;have bJ:N≠E:=fu;have ca:w1.heap.size<=N:=(by have:=g.size;omega);obtain⟨wk,aH⟩:=fX (wr.alloc (fP #[fF fN c.op,fF fO (c.n:Int),fG pA c.args.length pc,fG qA c.O.length qc,fG R c.to.length tc] 86));have ak:BW wr.heap.size wr wk:=aH ▸ (AV _ _).alloc (Az _) _;have aV:gO wk N 86 #[fF fN c.op,fF fO (c.n:Int),fG pA c.args.length pc,fG qA c.O.length qc,fG R c.to.length tc]:=aH ▸ gO.X wr (N:=N) 86 _ hN;obtain⟨n0,n1,n2,n3,n4⟩:=gZ aV;have aI:=(show _/\_/\_/\_/\_/\_/\_ from⟨n0,n1,n2,n3,n4,aV.lt,th g ak⟩);have X:=fQ ((show k6 w0 w1 E (fG u r.a2.a1.length vc) (fG D r.a2.out.length F) r hs (rX hs) (fG Ad k cd) C wr from⟨p,G,op,O,g,hg⟩).C ak)
      have l:wk.cell? ⟨E,4,fR⟩=fS (fG Ad k cd):=by
       obtain⟨_,G,_⟩:=X.out;exact(gZ G).2.2.2.2
      have H:E<wk.heap.size:=Ay bI ak.size;have bL:=fQ aI;have bM:=fQ l;have bN:=fQ H;have cf:=fQ (show True from trivial);clear hc i1 i2 i3 bf ao G op O g Z M hC aF ad ak aV n0 n1 n2 n3 n4 aI l H Y;rw[hN]at y2;go_wp2_with fail
      (try rw[aH])
      have aI:=bL.out;have l:=bM.out;have H:=bN.out;clear aH g0 g1 g2 g3 g4 y2 I J r2 L r4 y3;have CA:=fQ (fun w' (g:BW w1.heap.size w1 w')=>aYd (fG pA c.args.length pc) (fG Ah P ch) c.args hs w' (J1.C g (Az _)) ((HH.C S.out (Aa ar.out)).C g (Az _)) P1.out fu q4);have CB:=fQ (fun w' (g:BW w1.heap.size w1 w')=>aYd (fG qA c.O.length qc) (fG Ah P ch) c.O hs w' (J2.C g (Az _)) ((HH.C S.out (Aa ar.out)).C g (Az _)) P2.out fu q4);obtain⟨ic,bO,bP,bQ,bd⟩:=info_parts cKu;have aW:=rC wk;have U:=eKt aI;have l:=(aW.cell (p:=⟨E,4,fR⟩) H).trans l;have H:=Ay H aW.size;have X:=fQ (k6.C X.out aW);refine jY (fun w'=>w'.cell? ⟨N,0,fR⟩=fS (fF fN c.op)/\w'.cell? ⟨N,1,fR⟩=fS (fF fO (c.n:Int))/\w'.cell? ⟨N,2,fR⟩=fS (fG pA c.args.length pc)/\w'.cell? ⟨N,3,fR⟩=fS (fG qA c.O.length qc)/\w'.cell? ⟨N,4,fR⟩=fS (fG R c.to.length tc)/\N<w'.heap.size/\BW w1.heap.size w1 w') (fun w'=>w'.cell? ⟨E,4,fR⟩=fS (fG Ad k cd)) 18 fx U l fun a=>?_;refine ig 0 a fun a=>?_;refine nY (i:=1) (v:=?vc1) rfl fx fx fx (fun _ _ _ h=>h) rfl fx fx (Or.inl ⟨by rfl,?hyc1⟩) a fun a=>?_
      case hyc1=>intro w bj;(try dsimp only at bj);go_simp;(try with_reducible rfl)
      try simp only[Ak,Aj,Aq,Ax]
      refine ig 2 a fun a=>?_;refine ig 3 a fun a=>?_;refine ig 4 a fun a=>?_;refine ig 5 a fun a=>?_;refine ig 6 a fun a=>?_;refine ig 7 a fun a=>?_;refine ig 8 a fun a=>?_;refine ig 10 a fun a=>?_;refine ig 11 a fun a=>?_;refine ig 12 a fun a=>?_;refine ig 14 a fun a=>?_;refine ig 15 a fun a=>?_;refine gX (i:=9) fx rfl fun K b=>?_;go_simp;refine(CA.out _ (aWb U)).mono ?_;rintro en wA ⟨u,rfl,bk,aJ⟩;have oA:=fQ (iQ bk (Bv (aWb U)));have sA:=bQo U aJ;have l:=(aJ.cell (p:=⟨E,4,fR⟩) H).trans l;have H:=Ay H aJ.size;have X:=fQ (k6.C X.out aJ);obtain⟨AA,cA,rfl,_⟩:=fJ bk;refine b.out _ _ ⟨sA,fun _=>l⟩ fun a=>?_;clear b K
      try simp only[Ak,Aj,Aq,Ax]
      refine gX (i:=13) fx rfl fun K b=>?_;go_simp;refine(CB.out _ (aWb sA)).mono ?_;rintro en wB ⟨D,rfl,bm,ay⟩;have oB:=fQ (iQ bm (Bv (aWb sA)));have sB:=bQo sA ay;have l:=(ay.cell (p:=⟨E,4,fR⟩) H).trans l;have H:=Ay H ay.size;have X:=fQ (k6.C X.out ay);have oA:=fQ (bZr oA.out ay);obtain⟨AB,cB,rfl,_⟩:=fJ bm;refine b.out _ _ ⟨sB,fun _=>l⟩ fun a=>?_;clear b K
      try simp only[Ak,Aj,Aq,Ax]
      refine fW (i:=16) (v:=?vc16) rfl fx fx fx (fun _ _ _ h=>h) rfl (Or.inl ⟨by rfl,?nt⟩) a fun a=>?_
      case nt=>intro w bj;refine cYs (o0:=.tmp 46) (o1:=.tmp 48) (o2:=.tmp 52) (o3:=.tmp 56) (o4:=.tmp 58) (x:=c.op) (y:=(c.n:Int)) (A:=AA) (n:=c.args.length) (c:=cA) (B:=AB) (m:=c.O.length) (d:=cB) (C:=R) (q:=c.to.length) (e:=tc) ?_ ?_ ?_ ?_ ?_ ?_ <;> rfl
      try simp only[Ak,Aj,Aq,Ax]
      refine gX (i:=17) fx rfl fun K b=>?_;refine cYr rfl (.tmp 59) rfl (v0:=fF fN c.op) (v1:=fF fO (c.n:Int)) (v2:=fG AA c.args.length cA) (v3:=fG AB c.O.length cB) (v4:=fG R c.to.length tc) rfl ?_;have sN:=dYn (o:=fP #[fF fN c.op,fF fO (c.n:Int),fG AA c.args.length cA,fG AB c.O.length cB,fG R c.to.length tc] 86) sB;have ak:=(AV wB.heap.size wB).alloc (Az _) (fP #[fF fN c.op,fF fO (c.n:Int),fG AA c.args.length cA,fG AB c.O.length cB,fG R c.to.length tc] 86);have l:=(ak.cell (p:=⟨E,4,fR⟩) H).trans l;refine b.out _ _ ⟨sN,fun _=>l⟩ fun a=>?_;clear b K
      try simp only[Ak,Aj,Aq,Ax]
      obtain⟨p9,aK,bn,⟨bT,aL,bo,bp⟩,bq,bU⟩:=k6.C X.out ak;have aX:=aL;rw[bg.out]at aX;refine gX (i:=18) fx rfl fun K b=>?_;refine step_append_lies _ (by rfl) (.tmp 44) (.tmp 60) 87 (by rfl) w1.heap.size 86 ic _ 5 88 underlying87 bO bP bQ bd (by rfl) fu (.slice Ad k cd) k bT.flatten (by go_simp) aX ⟨wB.heap.size,0,fR⟩ 1 1 [fF fN c.op,fF fO (c.n:Int),fG AA c.args.length cA,fG AB c.O.length cB,fG R c.to.length tc] (by go_simp) (by rfl) (World.news_of_block (cs:=#[fF fN c.op,fF fO (c.n:Int),fG AA c.args.length cA,fG AB c.O.length cB,fG R c.to.length tc]) (t:=86) (fr:=(0,0)) (gO.X _ _ _ rfl)) (fQj _ _ _ _ _ rfl rfl rfl rfl rfl) fu (by unfold maxLen;omega) fu bq.size _ rfl ?_;intro gg cap w9 az aM bV cj;have aN:=aK.grown aM (iZ aL aK fy);obtain⟨_,_,_,_,d4⟩:=gZ aN;have f4:=ik aN 4;have y9:=aN.lt;have sD:=dYo sN aM (fun j hj=>bH.out j hj);have br:=cKx aU.out oA.out oB.out J3.out (gO.a4 wB 86 #[fF fN c.op,fF fO (c.n:Int),fG AA c.args.length cA,fG AB c.O.length cB,fG R c.to.length tc]);have bW:=fQ (k6.push (n:=k) aK bn aL bo bp bq bU br (by rw[bg.out];exact az) aM);clear az aM bV aN aK bn aL aX bo bp br;refine b.out _ _ (SD.after sD fx) fun a=>?_;clear b K
      try simp only[Ak,Aj,Aq,Ax]
      refine ig 19 a fun a=>?_;refine gX (i:=20) fx rfl fun K b=>?_;go_simp;refine b.out _ _ (SD.after (fQk sD bJ hg) fx) fun a=>?_;clear b K
      try simp only[Ak,Aj,Aq,Ax]
      refine jX fx ?_ _;go_wp2_with fail
      with_reducible exact⟨⟨k+1,fu,fz,fQ ⟨_,by rw[bF.out];exact bW.out⟩⟩,fB⟩
     ·as_aux_lemma=>
      have t1:decide ((k:Int)<n)=fU:=fw;have aY:r.K.take k=r.K:=AW (by rw[HN.out];omega);rw[aY]at O;have bX:=O.row;obtain⟨A3,c3,rfl,_⟩:=fJ op;obtain⟨bG,ad⟩:=bX;obtain⟨A4,l,aG,_⟩:=fJ ad;rw[AQ,HN.out]at aG;subst aG;obtain⟨d0,d1,d2,d3,d4⟩:=gZ G;have yb:=G.lt;have Q:=aA.C g aB.out;obtain⟨z0,z1,z2,z3,z4⟩:=gZ Q;have f0:=ik Q 0;have f1:=ik Q 1;have f2:=ik Q 2;have f3:=ik Q 3;have f4:=ik Q 4;have yz:=Q.lt;have aZ:w.heap.size<=w1.heap.size:=(by have:=aS.out;have:=ar.out;omega);have bY:=fQ (iQ (fQi op Q (fG u r.a2.a1.length vc) (fG D r.a2.out.length F) (fF fN (rX hs)) (fG A3 r.params.length c3) (fG A4 n l)) aZ);have bZ:=fQ ((O.fYr Q (fG u r.a2.a1.length vc) (fG D r.a2.out.length F) (fF fN (rX hs)) (fG A3 r.params.length c3) (fG A4 n l)).mono aZ);have b0:=fQ (zX (S.trans (g.mono aS.out)) (show s0<=s0+1 by omega) (fG u r.a2.a1.length vc) (fG D r.a2.out.length F) (fF fN (rX hs)) (fG A3 r.params.length c3) (fG A4 n l));have b1:=fQ (bYo Q (fG u r.a2.a1.length vc) (fG D r.a2.out.length F) (fF fN (rX hs)) (fG A3 r.params.length c3) (fG A4 n l));clear G op O g M ad Q Y aZ;go_wp2_with fail;refine bodyPost_ret (bWt _ _ (s0+1) _ _ _ _ _ rfl b1.out) rfl ?_;exact⟨_,_,rfl,bY.out,bZ.out,by rw[ar.out];exact b0.out⟩
theorem Ints.own(h:w.ownsRow base 3 1 v l.length (ix l))(hl:l.length<=1000000):Ints w v l:=by
 have a:=h;rcases h.2 with⟨rfl,hn⟩|⟨g,cap,cur,rfl,hb,hg,h1,h2,h3,h4⟩
 ·have:l = []:=List.length_eq_zero_iff.1 hn;subst this;exact Ints.nil w
 ·exact⟨_,_,rfl,Src.mf a,h1,(fun e=>by cases e),fu,by unfold maxLen at h2;omega⟩
theorem nr.c{w:BK}{base:Nat}{cs:List BV}{c:gP}(h:nr w base cs c)(ha:c.args.length<=100)(ho:c.O.length<=100)(ht:c.to.length<=100):jE w cs c:=by
 obtain⟨a,b,d,e,f,h1,h2,g⟩:=h;exact⟨a,b,d,e,f,Ints.own h1 fu,Ints.own h2 fu,Ints.own g fu⟩
theorem aVb{A:Option Addr}{c:Nat}{b:List BV}(h:w.ownsRow base e k (fG A n c) n b):Src w A (n*k) b:=by
 refine⟨h.1,fun hn=>?_⟩;rcases h.2 with⟨h1,h2⟩|⟨g,cap,cur,h1,_,hg,h5,_,h6,d⟩
 ·subst h2;simp at hn
 ·injection h1 with h1 h2 h3;subst h1;refine⟨g,0,rfl,(Array.getElem?_eq_some_iff.1 hg).1,fun j u a=>?_⟩
  have hj:j<n*k:=by
   have:=(gw a).1
   rwa[h.1]at this
  rw[Nat.zero_add];have f:gO w g e cur:=hg;rw[f.cell j,<-Array.getElem?_toList];rw[<-d,List.getElem?_take,gz hj]at a;exact a
theorem mw.structs{C:List gP}(h:mw w base v C)(hl:C.length<=100000)(n:∀ c∈C,c.args.length<=100/\c.O.length<=100/\c.to.length<=100):Structs 5 jE w v C:=by
 obtain⟨vs,h1,h2,k⟩:=h;obtain⟨A,c,rfl,hc⟩:=fJ h1
 have l:c<=9223372036854775807/\(A=fR->c=0):=by
  rcases h1.2 with⟨e,_⟩|⟨g,cap,cur,e,_,_,_,o,_⟩
  ·injection e with f e2 j;subst f;subst j;exact⟨fu,fun _=>rfl⟩
  ·injection e with f e2 j;subst f;subst j;exact⟨by unfold maxLen at o;omega,fun e=>by cases e⟩
 refine⟨A,c,vs,rfl,hc,l.2,⟨fu,l.1⟩,h2,fun r p=>?_,fun i r x q1 m=>?_,aVb h1⟩
 ·obtain⟨i,hi,rfl⟩:=Bz p;obtain⟨a,b,d,e,_⟩:=k i _ _ (Av hi) (Av fu);rw[e];rfl
 ·have:=n x (AJ m);exact(k i r x q1 m).c this.1 this.2.1 this.2.2
theorem j0.c{w0 w:BK}{base:Nat}{cs:List BV}{c:gP}(h:j0 w0 w base cs c)(f:BW w0.heap.size w0 w)(ha:c.args.length<=100)(ho:c.O.length<=100):jE w cs c:=by
 obtain⟨a,b,d,e,g,h1,h2,i⟩:=h;exact⟨a,b,d,e,g,Ints.own h1 fu,Ints.own h2 fu,i.C f (Az _)⟩
theorem iN.structs{C:List gP}(h:iN w0 w base v C)(n:BW w0.heap.size w0 w)(hl:C.length<=100000)(o:∀ c∈C,c.args.length<=100/\c.O.length<=100/\c.to.length<=100):Structs 5 jE w v C:=by
 obtain⟨vs,h1,h2,k⟩:=h;obtain⟨A,c,rfl,hc⟩:=fJ h1
 have l:c<=9223372036854775807/\(A=fR->c=0):=by
  rcases h1.2 with⟨e,_⟩|⟨g,cap,cur,e,_,_,_,p,_⟩
  ·injection e with f e2 j;subst f;subst j;exact⟨fu,fun _=>rfl⟩
  ·injection e with f e2 j;subst f;subst j;exact⟨by unfold maxLen at p;omega,fun e=>by cases e⟩
 refine⟨A,c,vs,rfl,hc,l.2,⟨fu,l.1⟩,h2,fun r q=>?_,fun i r x q1 m=>?_,aVb h1⟩
 ·obtain⟨i,hi,rfl⟩:=Bz q;obtain⟨a,b,d,e,_⟩:=k i _ _ (Av hi) (Av fu);rw[e];rfl
 ·have:=o x (AJ m);exact(k i r x q1 m).c n this.1 this.2.1
theorem aWc{e:ia}{r:gR}(hc:iq e r):r.a2.a1.length<=8/\r.a2.out.length<=8/\r.params.length<=8/\r.K.length<=4096/\∀ c∈r.K,c.args.length<=100/\c.O.length<=100/\c.to.length<=100:=by
 have h1:=se hc.a2;refine⟨h1.1,h1.2,by rw[hc.par];exact h1.1,hc.n2,fun c b=>?_⟩;have a:=hc.K c b;have h2:=cYl hc a;exact⟨h2.1,h2.2,cKt a⟩
theorem bKz{r:gR}(h:∀ c∈r.K,c.args.length<=100/\c.O.length<=100/\c.to.length<=100):∀ c∈(zQ r hs).K,c.args.length<=100/\c.O.length<=100/\c.to.length<=100:=by
 intro c hc;obtain⟨a,b,rfl⟩:=List.mem_map.1 (show c∈r.K.map (vJ hs)from hc);have:=h a b;exact⟨by show(mV hs a.args).length<=100;rw[xV];exact this.1,by show(mV hs a.O).length<=100;rw[xV];exact this.2.1,this.2.2⟩
theorem bZs{r:gR}(h:w.ownsRow base 3 1 p r.params.length (ix (mV hs r.params)))(hl:r.params.length<=8):Ints w p (mV hs r.params):=by
 rw[<-xV hs r.params]at h;exact Ints.own h (by rw[xV];omega)
theorem fVa{e:ia}{r:gR}(hc:iq e r)(f:w.ownsRow base 3 1 a r.a2.a1.length (ix r.a2.a1))(g:w.ownsRow base 3 1 b r.a2.out.length (ix r.a2.out))(op:w.ownsRow base 3 1 p r.params.length (ix (mV hs r.params)))(h:mw w base d (r.K.map (vJ hs))):
  jn w (fI #[a,b,fF fN (rX hs),p,d]) (zQ r hs):=by
 have c:=aWc hc;exact⟨a,b,p,d,rfl,Ints.own (l:=r.a2.a1) f (show r.a2.a1.length<=1000000 by omega),Ints.own (l:=r.a2.out) g (show r.a2.out.length<=1000000 by omega),bZs op c.2.2.1,h.structs (by rw[AQ];omega) (bKz (hs:=hs) c.2.2.2.2)⟩
theorem cYt{e:ia}{r:gR}{g vs:BV}(hc:iq e r)(h:jn w0 (fI #[a,b,fF fN x,g,vs]) r)(c:BW w0.heap.size w0 w)(op:w.ownsRow w0.heap.size 3 1 p r.params.length (ix (mV hs r.params)))(i:iN w0 w w0.heap.size d (r.K.map (vJ hs))):
  jn w (fI #[a,b,fF fN (rX hs),p,d]) (zQ r hs):=by
 have f:=aWc hc;obtain⟨_,_,_,_,e,j,k,h6,h7⟩:=h;injection e with e;injection e with e;simp only[List.cons.injEq,and_true]at e;obtain⟨rfl,rfl,_,rfl,rfl⟩:=e;exact⟨a,b,p,d,rfl,j.C c (Az _),k.C c (Az _),bZs op f.2.2.1,i.structs c (by rw[AQ];omega) (bKz (hs:=hs) f.2.2.2.2)⟩
end Go.Proofs.YtabibkpfgmolkaaGreatDoor
namespace Go.Proofs.YtabibkpfgmolkaaGreatDoor
variable {w w1 w0 w':BK}{hs l D:List Int}{base P g n i N k:Nat}{v x0 x1 x2 x3 x4 d a b p f:BV}{x:Int}{t e:TypeId}
theorem bXx(w:BK):BW w.heap.size w w.drew:=⟨rfl,rfl,rfl,Az _,fun _ _=>rfl⟩
theorem bKg(p:hU)(v:BV)(w:BK)(hv:jf w v p):Calls fZ 32 #[v] w (dYj p w):=by
 obtain⟨a,b,d,f,rfl,h1,h2,h3,Z⟩:=hv;have ax:=fQ (show iG w (fI #[a,fF fN p.J.G,b,d,fH p.J.L]) p.J from⟨a,b,d,rfl,h1,h2,h3⟩);obtain⟨sA,sc,rfl,_,aT,_⟩:=h1.len;obtain⟨fA,fc,rfl,_,aE,_⟩:=Z.len;have ay:=fQ h1;have az:=fQ Z;have ao:=fQ ((AV w.heap.size w).alloc (Az _) (fP #[fG sA p.J.R.length sc,fF fN p.J.G,b,d,fH p.J.L,fG fA p.b0.length fc] 29));have K0:=fQ (gO.a4 w 29 #[fG sA p.J.R.length sc,fF fN p.J.G,b,d,fH p.J.L,fG fA p.b0.length fc]);clear h1 h2 h3 Z;go_in;go_wp2_with fail;refine(aXf _ p.J _ (ax.C ao.out (Az _))).mono ?_;rintro en w1 ⟨rfl,aq⟩;have H:=fQ (ao.trans (aq.mono ao.out.size));have KP:=fQ (K0.C aq K0.lt);clear aq;cases T:iH p.J
 ·go_wp2_with fail;go_ret;exact⟨fU,rfl,⟨fun h=>(by cases h),fun h=>(by have:=h.J;rw[T]at this;cases this)⟩,H.out⟩
 have aF:=kY T;obtain⟨M,hM⟩:∃ M:Nat,p.J.G=(M:Int):=⟨p.J.G.toNat,fu⟩;obtain⟨n,hn⟩:=fX p.b0.length;obtain⟨L,hL⟩:=fX p.J.R.length;obtain⟨S,hS⟩:=fX (L - M);have aU:M<=L:=fu;have aG:=fQ T;have N:=fQ hM;have U:=fQ hn;have V:=fQ hL;have O:=fQ (show S+M=L by omega);have aH:M<=64:=fu;have aI:L<=64:=fu;have aJ:S<=64:=fu;rw[hn]at aE;have aK:IntKind.i64.wrap ((L:Int) - (M:Int))=(S:Int):=(by rw[show(L:Int) - (M:Int)=(S:Int) by omega];exact IntWalk.i64_in _ fu);obtain⟨e0,l,e2,o,q,m⟩:=pQ KP.out;rw[hM]at l ⊢;rw[hL]at e0 ay ⊢;rw[hn]at m az ⊢;have y1:=KP.lt;have aL:=fQ (show ∀ w',BW w1.heap.size w1 w'->_/\_/\_/\_/\_/\_ from fun w' t=>⟨(t.cell (p:=⟨w.heap.size,_,fR⟩) y1).trans e0,(t.cell (p:=⟨w.heap.size,_,fR⟩) y1).trans l,(t.cell (p:=⟨w.heap.size,_,fR⟩) y1).trans e2,(t.cell (p:=⟨w.heap.size,_,fR⟩) y1).trans o,(t.cell (p:=⟨w.heap.size,_,fR⟩) y1).trans q,(t.cell (p:=⟨w.heap.size,_,fR⟩) y1).trans m⟩);clear T aF hM hn hL hS;by_cases aM:n=S
 ·subst aM;have q0:((n:Int) != (n:Int))=fU:=fz;go_wp2_with fail;clear e0 l e2 o q m q0 aK;go_loopw [3] (fun i wr=>∃ k:Nat,k<=n/\i = fF fN k/\Hid (lI p M w1 k wr)) (fun i _=>n - (intOf i).toNat)
  case atStart=>exact⟨0,fu,rfl,fQ ⟨AV _ _,fun j r hj=>fu⟩⟩
  case round=>
   obtain⟨k,hk,rfl,I⟩:=hrel;obtain⟨e0,l,e2,o,q,m⟩:=aL.out _ I.out.1;by_cases aN:k<n
   ·as_aux_lemma=>
    have t2:(k:Int)<n:=fu;obtain⟨r,hr⟩:∃ r,p.b0[k]? = fS r:=⟨_,Av (by rw[U.out];exact aN)⟩;obtain⟨X,hX⟩:=fX (M+k);obtain⟨s,hs⟩:∃ s,p.J.R[X]? = fS s:=⟨_,Av (by have:=O.out;have:=V.out;omega)⟩;have HR:=fQ hr;have aA:=fQ (show p.J.R[M+k]? = fS s from hX ▸ hs);have aV:IntKind.i64.wrap ((M:Int)+(k:Int))=(X:Int):=(by rw[show(M:Int)+(k:Int)=(X:Int) by omega];exact IntWalk.i64_in _ (by have:=O.out;omega));have t3:(X:Int)<L:=(by have:=O.out;omega);have F:=H.trans (I.out.1.mono H.out.size);have W:=fQ F;obtain⟨P,fo,x0,x1,x3,x4,rfl,J,u,x,y,z,A,i1,i2,i3,i4⟩:=az.row hr;obtain⟨sb,so,u0,u1,rfl,ar,B,C,i5,i6⟩:=ay.a2 hs;have y2:w.heap.size<wr.heap.size:=Ay y1 I.out.1.size
    have D:=fQ (show ∀ w',BW wr.heap.size wr w'->_/\_/\_/\_/\_/\_/\_/\_/\_/\_ from fun w' t=>by
     have hc:=F.trans (t.mono F.size)
     exact⟨(t.cell (p:=⟨w.heap.size,_,fR⟩) y2).trans e0,(t.cell (p:=⟨w.heap.size,_,fR⟩) y2).trans l,(t.cell (p:=⟨w.heap.size,_,fR⟩) y2).trans m,(hc.cell (p:=⟨P,_,fR⟩) J).trans u,(hc.cell (p:=⟨P,_,fR⟩) J).trans x,(hc.cell (p:=⟨P,_,fR⟩) J).trans y,(hc.cell (p:=⟨P,_,fR⟩) J).trans z,(hc.cell (p:=⟨P,_,fR⟩) J).trans A,(hc.cell (p:=⟨sb,_,fR⟩) ar).trans B,(hc.cell (p:=⟨sb,_,fR⟩) ar).trans C⟩)
    have E:=fQ (show ∀ w',BW wr.heap.size wr w'->_/\_/\_ from fun w' t=>⟨(t.cell (p:=⟨w.heap.size,_,fR⟩) y2).trans e2,(t.cell (p:=⟨w.heap.size,_,fR⟩) y2).trans o,(t.cell (p:=⟨w.heap.size,_,fR⟩) y2).trans q⟩);have aO:=fQ (i1.C F (Az _));have aP:=fQ (i2.C F (Az _));have aQ:=fQ (i5.C F (Az _));have aR:=fQ (i6.C F (Az _));have aS:=fQ ((jn.of i1 i2 i3 i4).C F (Az _))
    have au:=fQ (show iG wr (fI #[fG (fS ⟨sb,so,fR⟩) L sc,fF fN (M:Int),b,d,fH p.J.L]) p.J from by
     have:=ax.C F (Az _);rw[N.out,V.out]at this
     exact this)
    clear hr hs hX F i1 i2 i3 i4 i5 i6 J ar u x y z A B C;go_wp2_with fail;clear e0 l e2 o q m;refine jY (fun w'=>BW wr.heap.size wr w') (fun _=>True) 7 fx (bXx wr) trivial fun c=>?_;have Y:=fQ (bXx wr);refine fW (i:=0) (v:=?va0) rfl fx fx fx (fun _ _ _ h=>h) rfl (Or.inl ⟨by rfl,?hya0⟩) c fun c=>?_
    case hya0=>intro g e;obtain⟨e0,l,m,u,x,y,z,A,B,C⟩:=D.out _ e;obtain⟨e2,o,q⟩:=E.out _ e;go_simp;(try with_reducible rfl)
    try simp only[Ak,Aj,Aq,Ax]
    refine fW (i:=1) (v:=?va1) rfl fx fx fx (fun _ _ _ h=>h) rfl (Or.inl ⟨by rfl,?hya1⟩) c fun c=>?_
    case hya1=>intro g e;obtain⟨e0,l,m,u,x,y,z,A,B,C⟩:=D.out _ e;obtain⟨e2,o,q⟩:=E.out _ e;go_simp;(try with_reducible rfl)
    try simp only[Ak,Aj,Aq,Ax]
    refine fW (i:=2) (v:=?va2) rfl fx fx fx (fun _ _ _ h=>h) rfl (Or.inl ⟨by rfl,?hya2⟩) c fun c=>?_
    case hya2=>intro g e;obtain⟨e0,l,m,u,x,y,z,A,B,C⟩:=D.out _ e;obtain⟨e2,o,q⟩:=E.out _ e;go_simp;(try with_reducible rfl)
    try simp only[Ak,Aj,Aq,Ax]
    refine fW (i:=3) (v:=?va3) rfl fx fx fx (fun _ _ _ h=>h) rfl (Or.inl ⟨by rfl,?hya3⟩) c fun c=>?_
    case hya3=>intro g e;obtain⟨e0,l,m,u,x,y,z,A,B,C⟩:=D.out _ e;obtain⟨e2,o,q⟩:=E.out _ e;go_simp;(try with_reducible rfl)
    try simp only[Ak,Aj,Aq,Ax]
    refine fW (i:=4) (v:=?va4) rfl fx fx fx (fun _ _ _ h=>h) rfl (Or.inl ⟨by rfl,?hya4⟩) c fun c=>?_
    case hya4=>intro g e;obtain⟨e0,l,m,u,x,y,z,A,B,C⟩:=D.out _ e;obtain⟨e2,o,q⟩:=E.out _ e;go_simp;(try with_reducible rfl)
    try simp only[Ak,Aj,Aq,Ax]
    refine fW (i:=5) (v:=?va5) rfl fx fx fx (fun _ _ _ h=>h) rfl (Or.inl ⟨by rfl,?hya5⟩) c fun c=>?_
    case hya5=>intro g e;obtain⟨e0,l,m,u,x,y,z,A,B,C⟩:=D.out _ e;obtain⟨e2,o,q⟩:=E.out _ e;go_simp;(try with_reducible rfl)
    try simp only[Ak,Aj,Aq,Ax]
    refine fW (i:=6) (v:=?va6) rfl fx fx fx (fun _ _ _ h=>h) rfl (Or.inl ⟨by rfl,?hya6⟩) c fun c=>?_
    case hya6=>intro g e;obtain⟨e0,l,m,u,x,y,z,A,B,C⟩:=D.out _ e;obtain⟨e2,o,q⟩:=E.out _ e;go_simp;(try with_reducible rfl)
    try simp only[Ak,Aj,Aq,Ax]
    refine gX (i:=7) fx rfl fun K Q=>?_;go_simp;refine(aJp p.J r _ _ _ (au.C Y.out (Az _)) (aS.C Y.out (Az _))).mono ?_;rintro en w2 ⟨bb,rfl,aB,R⟩;have G:=fQ (Y.trans (R.mono Y.out.size));have aC:=fQ aB;clear R aB;refine Q.out _ _ ⟨G.out,fun _=>trivial⟩ fun c=>?_;clear Q K
    try simp only[Ak,Aj,Aq,Ax]
    cases bb
    ·as_aux_lemma=>
     refine fW (i:=8) (v:=?vb8) rfl fx fx fx (fun _ _ _ h=>h) rfl (Or.inl ⟨by rfl,?hyb8⟩) c fun c=>?_
     case hyb8=>intro g e;go_simp;(try with_reducible rfl)
     try simp only[Ak,Aj,Aq,Ax]
     refine fW (i:=9) (v:=?vb9) rfl fx fx fx (fun _ _ _ h=>h) rfl (Or.inl ⟨by rfl,?hyb9⟩) c fun c=>?_
     case hyb9=>intro g e;go_simp;(try with_reducible rfl)
     try simp only[Ak,Aj,Aq,Ax]
     refine fW (i:=10) (v:=undef) rfl fx fx fx (fun _ _ _ h=>h) rfl (Or.inr ⟨by rfl,rfl⟩) c fun c=>?_
     try simp only[Ak,Aj,Aq,Ax]
     refine fW (i:=11) (v:=undef) rfl fx fx fx (fun _ _ _ h=>h) rfl (Or.inr ⟨by rfl,rfl⟩) c fun c=>?_
     try simp only[Ak,Aj,Aq,Ax]
     refine fW (i:=12) (v:=undef) rfl fx fx fx (fun _ _ _ h=>h) rfl (Or.inr ⟨by rfl,rfl⟩) c fun c=>?_
     try simp only[Ak,Aj,Aq,Ax]
     refine fW (i:=13) (v:=undef) rfl fx fx fx (fun _ _ _ h=>h) rfl (Or.inr ⟨by rfl,rfl⟩) c fun c=>?_
     try simp only[Ak,Aj,Aq,Ax]
     refine fW (i:=14) (v:=undef) rfl fx fx fx (fun _ _ _ h=>h) rfl (Or.inr ⟨by rfl,rfl⟩) c fun c=>?_
     try simp only[Ak,Aj,Aq,Ax]
     refine fW (i:=15) (v:=undef) rfl fx fx fx (fun _ _ _ h=>h) rfl (Or.inr ⟨by rfl,rfl⟩) c fun c=>?_
     try simp only[Ak,Aj,Aq,Ax]
     refine fW (i:=16) (v:=undef) rfl fx fx fx (fun _ _ _ h=>h) rfl (Or.inr ⟨by rfl,rfl⟩) c fun c=>?_
     try simp only[Ak,Aj,Aq,Ax]
     refine fW (i:=17) (v:=undef) rfl fx fx fx (fun _ _ _ h=>h) rfl (Or.inr ⟨by rfl,rfl⟩) c fun c=>?_
     try simp only[Ak,Aj,Aq,Ax]
     refine fW (i:=18) (v:=undef) rfl fx fx fx (fun _ _ _ h=>h) rfl (Or.inr ⟨by rfl,rfl⟩) c fun c=>?_
     try simp only[Ak,Aj,Aq,Ax]
     refine fW (i:=19) (v:=undef) rfl fx fx fx (fun _ _ _ h=>h) rfl (Or.inr ⟨by rfl,rfl⟩) c fun c=>?_
     try simp only[Ak,Aj,Aq,Ax]
     refine fW (i:=20) (v:=undef) rfl fx fx fx (fun _ _ _ h=>h) rfl (Or.inr ⟨by rfl,rfl⟩) c fun c=>?_
     try simp only[Ak,Aj,Aq,Ax]
     refine fW (i:=21) (v:=undef) rfl fx fx fx (fun _ _ _ h=>h) rfl (Or.inr ⟨by rfl,rfl⟩) c fun c=>?_
     try simp only[Ak,Aj,Aq,Ax]
     refine fW (i:=22) (v:=undef) rfl fx fx fx (fun _ _ _ h=>h) rfl (Or.inr ⟨by rfl,rfl⟩) c fun c=>?_
     try simp only[Ak,Aj,Aq,Ax]
     refine fW (i:=23) (v:=undef) rfl fx fx fx (fun _ _ _ h=>h) rfl (Or.inr ⟨by rfl,rfl⟩) c fun c=>?_
     try simp only[Ak,Aj,Aq,Ax]
     refine fW (i:=24) (v:=undef) rfl fx fx fx (fun _ _ _ h=>h) rfl (Or.inr ⟨by rfl,rfl⟩) c fun c=>?_
     try simp only[Ak,Aj,Aq,Ax]
     refine fW (i:=25) (v:=undef) rfl fx fx fx (fun _ _ _ h=>h) rfl (Or.inr ⟨by rfl,rfl⟩) c fun c=>?_
     try simp only[Ak,Aj,Aq,Ax]
     refine fW (i:=26) (v:=undef) rfl fx fx fx (fun _ _ _ h=>h) rfl (Or.inr ⟨by rfl,rfl⟩) c fun c=>?_
     try simp only[Ak,Aj,Aq,Ax]
     refine fW (i:=27) (v:=undef) rfl fx fx fx (fun _ _ _ h=>h) rfl (Or.inr ⟨by rfl,rfl⟩) c fun c=>?_
     try simp only[Ak,Aj,Aq,Ax]
     refine fW (i:=28) (v:=?vb28) rfl fx fx fx (fun _ _ _ h=>h) rfl (Or.inl ⟨by rfl,?ti⟩) c fun c=>?_
     case ti=>intro g e;go_simp;(try with_reducible rfl)
     try simp only[Ak,Aj,Aq,Ax]
     refine jX fx ?_ _;go_wp2_with fail;go_ret;refine⟨fU,rfl,⟨fun h=>(by cases h),fun h=>?_⟩,W.trans (G.mono W.out.size)⟩;exact aC.2 (h.row k r HR.out).1
    ·as_aux_lemma=>
     refine fW (i:=8) (v:=?vc8) rfl fx fx fx (fun _ _ _ h=>h) rfl (Or.inl ⟨by rfl,?hyc8⟩) c fun c=>?_
     case hyc8=>intro g e;go_simp;(try with_reducible rfl)
     try simp only[Ak,Aj,Aq,Ax]
     refine fW (i:=9) (v:=?vc9) rfl fx fx fx (fun _ _ _ h=>h) rfl (Or.inl ⟨by rfl,?hyc9⟩) c fun c=>?_
     case hyc9=>intro g e;go_simp;(try with_reducible rfl)
     try simp only[Ak,Aj,Aq,Ax]
     refine fW (i:=10) (v:=?vc10) rfl fx fx fx (fun _ _ _ h=>h) rfl (Or.inl ⟨by rfl,?tj⟩) c fun c=>?_
     case tj=>intro g e;go_simp;(try with_reducible rfl)
     try simp only[Ak,Aj,Aq,Ax]
     refine fW (i:=11) (v:=?vc11) rfl fx fx fx (fun _ _ _ h=>h) rfl (Or.inl ⟨by rfl,?tk⟩) c fun c=>?_
     case tk=>intro g e;obtain⟨e0,l,m,u,x,y,z,A,B,C⟩:=D.out _ e;obtain⟨e2,o,q⟩:=E.out _ e;go_simp;(try with_reducible rfl)
     try simp only[Ak,Aj,Aq,Ax]
     refine fW (i:=12) (v:=?vc12) rfl fx fx fx (fun _ _ _ h=>h) rfl (Or.inl ⟨by rfl,?tl⟩) c fun c=>?_
     case tl=>intro g e;go_simp;(try with_reducible rfl)
     try simp only[Ak,Aj,Aq,Ax]
     refine fW (i:=13) (v:=?vc13) rfl fx fx fx (fun _ _ _ h=>h) rfl (Or.inl ⟨by rfl,?tm⟩) c fun c=>?_
     case tm=>intro g e;go_simp;(try with_reducible rfl)
     try simp only[Ak,Aj,Aq,Ax]
     refine fW (i:=14) (v:=?vc14) rfl fx fx fx (fun _ _ _ h=>h) rfl (Or.inl ⟨by rfl,?tn⟩) c fun c=>?_
     case tn=>intro g e;go_simp;(try with_reducible rfl)
     try simp only[Ak,Aj,Aq,Ax]
     refine fW (i:=15) (v:=?vc15) rfl fx fx fx (fun _ _ _ h=>h) rfl (Or.inl ⟨by rfl,?tp⟩) c fun c=>?_
     case tp=>intro g e;obtain⟨e0,l,m,u,x,y,z,A,B,C⟩:=D.out _ e;obtain⟨e2,o,q⟩:=E.out _ e;go_simp;(try with_reducible rfl)
     try simp only[Ak,Aj,Aq,Ax]
     refine fW (i:=16) (v:=?vc16) rfl fx fx fx (fun _ _ _ h=>h) rfl (Or.inl ⟨by rfl,?nt⟩) c fun c=>?_
     case nt=>intro g e;go_simp;(try with_reducible rfl)
     try simp only[Ak,Aj,Aq,Ax]
     refine fW (i:=17) (v:=?vc17) rfl fx fx fx (fun _ _ _ h=>h) rfl (Or.inl ⟨by rfl,?tr⟩) c fun c=>?_
     case tr=>intro g e;go_simp;(try with_reducible rfl)
     try simp only[Ak,Aj,Aq,Ax]
     refine fW (i:=18) (v:=?vc18) rfl fx fx fx (fun _ _ _ h=>h) rfl (Or.inl ⟨by rfl,?tu⟩) c fun c=>?_
     case tu=>intro g e;obtain⟨e0,l,m,u,x,y,z,A,B,C⟩:=D.out _ e;obtain⟨e2,o,q⟩:=E.out _ e;go_simp;(try with_reducible rfl)
     try simp only[Ak,Aj,Aq,Ax]
     refine fW (i:=19) (v:=?vc19) rfl fx fx fx (fun _ _ _ h=>h) rfl (Or.inl ⟨by rfl,?tx⟩) c fun c=>?_
     case tx=>intro g e;go_simp;(try with_reducible rfl)
     try simp only[Ak,Aj,Aq,Ax]
     refine fW (i:=20) (v:=?vc20) rfl fx fx fx (fun _ _ _ h=>h) rfl (Or.inl ⟨by rfl,?tB⟩) c fun c=>?_
     case tB=>intro g e;go_simp;(try with_reducible rfl)
     try simp only[Ak,Aj,Aq,Ax]
     refine fW (i:=21) (v:=?vc21) rfl fx fx fx (fun _ _ _ h=>h) rfl (Or.inl ⟨by rfl,?tC⟩) c fun c=>?_
     case tC=>intro g e;obtain⟨e0,l,m,u,x,y,z,A,B,C⟩:=D.out _ e;obtain⟨e2,o,q⟩:=E.out _ e;go_simp;(try with_reducible rfl)
     try simp only[Ak,Aj,Aq,Ax]
     refine fW (i:=22) (v:=?vc22) rfl fx fx fx (fun _ _ _ h=>h) rfl (Or.inl ⟨by rfl,?tD⟩) c fun c=>?_
     case tD=>intro g e;go_simp;(try with_reducible rfl)
     try simp only[Ak,Aj,Aq,Ax]
     refine fW (i:=23) (v:=?vc23) rfl fx fx fx (fun _ _ _ h=>h) rfl (Or.inl ⟨by rfl,?tF⟩) c fun c=>?_
     case tF=>intro g e;go_simp;(try with_reducible rfl)
     try simp only[Ak,Aj,Aq,Ax]
     refine fW (i:=24) (v:=?vc24) rfl fx fx fx (fun _ _ _ h=>h) rfl (Or.inl ⟨by rfl,?tG⟩) c fun c=>?_
     case tG=>intro g e;go_simp;(try with_reducible rfl)
     try simp only[Ak,Aj,Aq,Ax]
     refine fW (i:=25) (v:=?vc25) rfl fx fx fx (fun _ _ _ h=>h) rfl (Or.inl ⟨by rfl,?tH⟩) c fun c=>?_
     case tH=>intro g e;obtain⟨e0,l,m,u,x,y,z,A,B,C⟩:=D.out _ e;obtain⟨e2,o,q⟩:=E.out _ e;go_simp;(try with_reducible rfl)
     try simp only[Ak,Aj,Aq,Ax]
     refine gX (i:=26) fx rfl fun K Q=>?_;go_simp;refine(cJp _ _ _ _ r.a2 s _ (aO.C G.out (Az _)) (aP.C G.out (Az _)) (aQ.C G.out (Az _)) (aR.C G.out (Az _))).mono ?_;rintro en w3 ⟨rfl,R⟩;have aw:=fQ (G.trans (R.mono G.out.size));clear R;refine Q.out _ _ ⟨aw.out,fun _=>trivial⟩ fun c=>?_;clear Q K
     try simp only[Ak,Aj,Aq,Ax]
     cases hq:si r.a2 s
     ·as_aux_lemma=>
      refine fW (i:=27) (v:=?vd027) rfl fx fx fx (fun _ _ _ h=>h) rfl (Or.inl ⟨by rfl,?pU⟩) c fun c=>?_
      case pU=>intro g e;go_simp;(try with_reducible rfl)
      try simp only[Ak,Aj,Aq,Ax]
      refine fW (i:=28) (v:=?vd028) rfl fx fx fx (fun _ _ _ h=>h) rfl (Or.inl ⟨by rfl,?p6⟩) c fun c=>?_
      case p6=>intro g e;go_simp;(try with_reducible rfl)
      try simp only[Ak,Aj,Aq,Ax]
      refine jX fx ?_ _;go_wp2_with fail;go_ret;refine⟨fU,rfl,⟨fun h=>(by cases h),fun h=>?_⟩,W.trans (aw.mono W.out.size)⟩;have h1:=(h.row k r HR.out).2;rw[show p.J.G.toNat=M by rw[N.out];rfl,aA.out]at h1;injection h1 with h1;rw[bWs.2 h1.symm]at hq;cases hq
     ·as_aux_lemma=>
      refine fW (i:=27) (v:=?vd127) rfl fx fx fx (fun _ _ _ h=>h) rfl (Or.inl ⟨by rfl,?p7⟩) c fun c=>?_
      case p7=>intro g e;go_simp;(try with_reducible rfl)
      try simp only[Ak,Aj,Aq,Ax]
      refine fW (i:=28) (v:=?vd128) rfl fx fx fx (fun _ _ _ h=>h) rfl (Or.inl ⟨by rfl,?p8⟩) c fun c=>?_
      case p8=>intro g e;go_simp;(try with_reducible rfl)
      try simp only[Ak,Aj,Aq,Ax]
      refine jX fx ?_ _;go_wp2_with fail;have aD:=bWs.1 hq
      with_reducible exact⟨⟨k+1,by omega,by simp,fQ (I.out.step HR.out aA.out (by rw[<-aD]) (by rw[<-aD]) (aC.out.1 rfl) aw.out)⟩,by simp[intOf];omega⟩
   ·as_aux_lemma=>
    have t1:decide ((k:Int)<n)=fU:=fw;go_wp2_with fail;go_ret;refine⟨true,rfl,⟨fun _=>⟨aG.out,?_,fun i r hi=>?_⟩,fun _=>rfl⟩,H.out.trans (I.out.1.mono H.out.size)⟩
    ·have:=N.out;have:=U.out;have:=V.out;have:=O.out;omega
    ·rw[show p.J.G.toNat=M by rw[N.out];rfl];exact I.out.2 i r (by have:=(gw hi).1;have:=U.out;omega) hi
 ·have q0:((n:Int) != (S:Int))=fT:=fw;go_wp2_with fail;go_ret;refine⟨fU,rfl,⟨fun h=>(by cases h),fun h=>?_⟩,H.out⟩;have:=h.len;have:=N.out;have:=U.out;have:=V.out;have:=O.out;omega
def nD(P i:Nat)(D:List Int):Prop:=D.length=P/\∀ (j:Nat) x,D[j]? = fS x->(j<i->0<=x/\x<=16+j)/\(i<=j->x = -1)
theorem nD.put{a:Nat}(h:nD P i D)(ha:a<=16+i)(hi:i<P):nD P (i+1) (D.set i (a:Int)):=by
 refine⟨by rw[BQ];exact h.1,fun j x b=>?_⟩;by_cases e:i=j
 ·subst e;rw[Bq (by have:=h.1;omega)]at b;injection b with b;subst b;exact⟨fun _=>fu,fun hj=>fu⟩
 ·rw[Bx e]at b;have:=h.2 j x b;exact⟨fun hj=>this.1 fu,fun hj=>this.2 fu⟩
theorem nD.le(h:nD P i D){j:Nat}(a:D[j]? = fS x):x<=15+i:=by
 have:=h.2 j x a;by_cases hj:j<i
 ·have:=this.1 hj;omega
 ·have:=this.2 fu;omega
theorem nD.done(h:nD P P D)(hP:P<=2032):∀ x∈D,0<=x/\x<10000:=by
 intro x a;obtain⟨j,hj⟩:=List.mem_iff_getElem?.1 a;have hl:=(gw hj).1;have:=(h.2 j x hj).1 (by have:=h.1;omega);have:=h.1;omega
def pd(P i:Nat)(D:List Int):Prop:=D.length=P/\∀ j,j<i->D[j]? = fS (-1)
theorem pd.put(h:pd P i D)(hi:i<P):pd P (i+1) (D.set i (-1)):=by
 refine⟨by rw[BQ];exact h.1,fun j hj=>?_⟩;by_cases e:i=j
 ·subst e;exact Bq (by have:=h.1;omega)
 ·rw[Bx e];exact h.2 j fu
theorem pd.done(h:pd P P D):nD P 0 D:=by
 refine⟨h.1,fun j x a=>⟨fun hj=>fu,fun _=>?_⟩⟩;have hl:=(gw a).1;have:=h.2 j (by have:=h.1;omega);rw[this]at a;injection a with a;exact a.symm
open List renaming setIfInBounds_toArray->jA,set_cons_zero->jB,set_cons_succ->jC
def ni(C:List Int->Prop)(g:Nat)(a wr:BK):Prop:=∃ D:List Int,C D/\gO wr g 3 (ix D).toArray/\BW g a wr
theorem ni.put{C a:List Int->Prop}{b wr:BK}(h:ni C g b wr)(c:∀ D,C D->a (D.set i x)):ni a g b (wr.setCell ⟨g,i,fR⟩ (fF fN x)):=by
 obtain⟨D,h1,h2,d⟩:=h;exact⟨D.set i x,c D h1,eKu h2 i x,d.setCell (p:=⟨g,i,fR⟩) (Az _) _⟩
def dYp:BV->Nat
 | fH fT=>1
 | _=>0
open List renaming setIfInBounds_toArray->jA,set_cons_zero->jB,set_cons_succ->jC
theorem cJq{a:List BV}{r:Option Nat}(b:w.ownsRow base e k v n a)(he:e≠89)(hg:w.grownBy w' r)(c:∀ g t cs,gO w g t cs->t≠89->r≠fS g):w'.ownsRow base e k v n a:=rO b hg (fun g d=>by
  obtain⟨cur,f⟩:=oD b d
  exact c g e cur f he)
theorem dYq{x5:BV}(a:gO w g t #[x0,x1,x2,x3,x4,x5])(f:BV):gO (w.setCell ⟨g,5,fR⟩ f) g t #[x0,x1,x2,x3,x4,f]:=by
 have h:=fY a 5 f
 simpa using h
theorem bXy{x5:BV}(i:gO w g t #[x0,x1,x2,x3,x4,x5])(a b c d e f:BV):gO ((((((w.setCell ⟨g,0,fR⟩ a).setCell ⟨g,1,fR⟩ b).setCell ⟨g,2,fR⟩ c).setCell ⟨g,3,fR⟩ d).setCell ⟨g,4,fR⟩ e).setCell ⟨g,5,fR⟩ f) g t #[a,b,c,d,e,f]:=by
 have h:=fY (fY (fY (fY (fY (fY i 0 a) 1 b) 2 c) 3 d) 4 e) 5 f
 simpa using h
theorem bYp{B:Nat}(h:BW B w w')(hg:B<=g)(a b c d e f:BV):BW B w ((((((w'.setCell ⟨g,0,fR⟩ a).setCell ⟨g,1,fR⟩ b).setCell ⟨g,2,fR⟩ c).setCell ⟨g,3,fR⟩ d).setCell ⟨g,4,fR⟩ e).setCell ⟨g,5,fR⟩ f):=
 (zX h hg a b c d e).setCell (p:=⟨g,5,fR⟩) hg f
open List renaming setIfInBounds_toArray->jA,set_cons_zero->jB,set_cons_succ->jC
def bYh:BV:=fI #[fG fR 0 0,fF fN 0,fG fR 0 0,fG fR 0 0,fH fU,fG fR 0 0]
theorem dYr{m:Bool}{e:ia}{G:List gR}(he:iG w (fI #[a,fF fN x,b,d,fH m]) e)(hf:Structs 5 kr w f G):jf w (fI #[a,fF fN x,b,d,fH m,f]) ⟨e,G⟩:=by
 obtain⟨a',b',d',e',c,k2,g⟩:=he;injection e' with e';injection e' with e';simp only[List.cons.injEq,and_true]at e';obtain⟨rfl,h1,rfl,rfl,h2⟩:=e';refine⟨a,b,d,f,?_,c,k2,g,hf⟩;rw[h1,h2]
theorem cYp:(fZ.info? 89).map (fun i=>(i.zero,i.size,i.bytes))=fS (fS (fI #[fG fR 0 0,fG fR 0 0,fF fN 0,fG fR 0 0,fG fR 0 0]),5,104):=fx
theorem cYq{X:List (gR×List Int)}{F:List gR}{r:gR}(h:X.map Prod.fst=F.take k)(a:F[k]? = fS r):(X ++ [(r,hs)]).map Prod.fst=F.take (k+1):=by
 obtain⟨h1,h2⟩:=gw a;rw[Aw h1,h2,BJ,h];rfl
open List renaming setIfInBounds_toArray->jA,set_cons_zero->jB,set_cons_succ->jC
theorem aJl(g:Array BV)(W:BK)(h:Nat)(a b c d e f x:BV)(h2:g.getD 2 undef = fM (fS ⟨h,0,fR⟩))(i:g.getD 3 undef=x)(k:gO W h 29 #[a,b,c,d,e,f]):
  (results Tryz.f20 g).run fZ W = .ok (.tuple #[fI #[a,b,c,d,e,f],x]) W:=by
 obtain⟨j,l,m,n,o,p⟩:=pQ k;simp only[AY]at h2 i;simp[results,results20,go_sem,h2,i,j,l,m,n,o,p]
theorem dYs{ops:Array Oper}{o:Oper}{a:Act}{w:BK}{K:Act->BK->Prop}{Q:Exit->Act->BK->Prop}{E:Prop}(b:o.guard=fR)(x:Operand)(c:o.op = .buildSlice 27 1 #[(0,x)]){v0 v1 v2 v3 v4:BV}(d:a.eval x = fI #[v0,v1,v2,v3,v4])
  (h:K (a.put o.dst (fG (fS ⟨w.heap.size,0,fR⟩) 1 1)) (w.alloc (fP #[v0,v1,v2,v3,v4] 89))):if Region.wanted o (yielded ops a.tmps)=fT then Oper.wp fZ o a w K Q else E:=by
 have e:Region.wanted o (yielded ops a.tmps)=fT:=(by simp[Region.wanted,b]);rw[gz e]
 have he:(execOp a.eval o).run fZ w = .ok (.value (fG (fS ⟨w.heap.size,0,fR⟩) 1 1)) (w.alloc (fP #[v0,v1,v2,v3,v4] 89)):=by
  unfold execOp;rw[c];simp only[Ai,Bk,Bw,d]
  kernel_rfl
 unfold Oper.wp;rw[he];exact h
end Go.Proofs.YtabibkpfgmolkaaGreatDoor

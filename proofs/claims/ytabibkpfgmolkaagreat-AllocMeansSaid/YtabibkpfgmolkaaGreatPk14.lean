/- Lemmas for the claim, part 14. Conditions: none. -/
import Derived.Test.YtabibkpfgmolkaaGreatPk13
import Derived.Deep.RegionHeld3
set_option maxRecDepth 100000
set_option maxHeartbeats 16000000
set_option linter.unusedVariables false
set_option linter.unusedSimpArgs false
open Go.Lib renaming hid→fQ
open Go.Proofs.Tryz renaming prog→fZ
open Go.Proofs.Tryz
open Go.RowKit
open Nat renaming le_refl→Aj,lt_of_lt_of_le→Ay,le_of_eq→Bx,lt_or_ge→BQ,zero_add→BX
open List renaming getElem?_eq_getElem→Aq,range→Ax,mem_of_getElem?→Az,setIfInBounds_toArray→Ak,take_of_length_le→Av,take_succ_eq_append_getElem→Aw,set_cons_zero→AJ,set_cons_succ→AQ,pairwise_map→AX,length_map→AZ,replicate→AK,getElem?_eq_none→AV,getElem?_map→Ae,getD_eq_getElem?_getD→Af,Nodup→Ag,getElem?_append_right→Ai,getElem?_append_left→Bj,getElem?_set_self→Bq,getElem?_set_ne→Bz,getElem?_take→Bv,ext_getElem?→Bw,not_mem_nil→By,mem_cons→BJ
open Classical renaming byContradiction→AW
open Go.RowKit.Below renaming refl→AY,size→Ab
open Go.Act renaming put→Bk
open Go renaming World→BZ,Value→BK
open Go.RowKit renaming Below→BV
namespace Go.Proofs.YtabibkpfgmolkaaGreat
variable {w w1 w' wr:BZ}{hs l tk:List Int}{base P g n N k p i:Nat}{v x0 x1 a b x2 x3 x4 d f:BK}{t e:TypeId}
def giveV(first:Nat)(tk:List Int):Nat:=((Ax 2048).find? fun n=>decide (first<=n/\n≠15/\(n:Int) ∉ tk)).getD 2048
theorem aVa{first:Nat}{c:Nat}(hc:c<2048)(h:first<=c/\c≠15/\(c:Int) ∉ tk):
  giveV first tk<=c/\(first<=giveV first tk/\giveV first tk≠15/\((giveV first tk:Nat):Int) ∉ tk)/\∀ n,n<giveV first tk->¬(first<=n/\n≠15/\(n:Int) ∉ tk):=by
 unfold giveV
 cases hf:(Ax 2048).find? fun n=>decide (first<=n/\n≠15/\(n:Int) ∉ tk)with
 | none=>
  rw[List.find?_eq_none]at hf;have:=hf c (List.mem_range.2 hc);exact absurd (decide_eq_true h) this
 | some x=>
  have a:=List.find?_some hf;simp only[decide_eq_true_eq]at a;rw[List.find?_range_eq_some]at hf
  have b:∀ n,n<x->¬(first<=n/\n≠15/\(n:Int) ∉ tk):=fun n hn=>by
   have:=hf.2.2 n hn;simp only[decide_eq_true_eq,Bool.not_eq_true,decide_eq_false_iff_not,Bool.not_eq_eq_eq_not,Bool.not_true]at this;exact this
  simp only[Option.getD_some];refine⟨?_,a,b⟩;rcases BQ c x with d | e
  ·exact absurd h (b c d)
  ·exact e
theorem dKm{first:Nat}(hn:n<2048)(h:first<=n/\n≠15/\(n:Int) ∉ tk)(a:∀ m,m<n->¬(first<=m/\m≠15/\(m:Int) ∉ tk)):giveV first tk=n:=by
 obtain⟨g1,b,g3⟩:=aVa hn h;rcases BQ (giveV first tk) n with c | ab
 ·exact absurd b (a _ c)
 ·omega
theorem cJb{first:Nat}(a:∀ m,m<2048->¬(first<=m/\m≠15/\(m:Int) ∉ tk)):giveV first tk=2048:=by
 unfold giveV;rw[List.find?_eq_none.2 (fun x b=>by have:=a x (List.mem_range.1 b);simpa using this)];rfl
theorem cQu{first:Nat}{a b:List Int}(h:∀ x,x∈a↔x∈b):giveV first a=giveV first b:=by
 unfold giveV;simp only[h]
structure RightP (r:RowD) (P:Nat) (hs:List Int):Prop where
 len:hs.length=P
 ok:∀ h∈hs,0<=h/\h≠15/\h<16+(P:Int)/\(P<=7->h<16)
 gap:∀ s h:Int,16<=s->h∈hs->s<=h->s∈hs
 cl:∀ (i j:Nat) hi hj,hs[i]? = some hi->hs[j]? = some hj->Clashes r i j->hi≠hj
 ac:∀ (i:Nat) hi,hs[i]? = some hi->AcrossP r i->8<=hi
structure GrInv (r:RowD) (P:Nat) (D:List Nat) (H:Nat->Int):Prop where
 un:∀ p,p ∉ D->H p = -1
 ok:∀ p∈D,0<=H p/\H p≠15/\H p<16+(P:Int)/\(P<=7->H p<16)/\(AcrossP r p->8<=H p)
 cl:∀ p∈D,∀ q∈D,Clashes r p q->H p≠H q
 gap:∀ p∈D,17<=H p->∃ q∈D,H q=H p - 1
theorem GrInv.start(r:RowD)(P:Nat):GrInv r P [] (fun _=>-1):=⟨fun _ _=>rfl,fun p h=>by simp at h,fun p h=>by simp at h,fun p h=>by simp at h⟩
theorem GrInv.step{e:EnvD}{r:RowD}{D:List Nat}{H:Nat->Int}{cl:List Int}{first:Nat}(h:GrInv r P D H)(hc:CheckP e r)(hP:r.places=P)(av:P<=2032)(hp:p<P)(G:p ∉ D)(hcl:IsSet cl (Clashes r p))(I:(first=8/\AcrossP r p)\/(first=0/\¬AcrossP r p)):
  GrInv r P (D ++ [p]) (fun q=>if q=p then((giveV first (cl.map fun x=>H x.toNat):Nat):Int)else H q):=by
 obtain⟨tk,k⟩:=fX (cl.map (fun x=>H x.toNat));rw[k]
 have l:∀ x∈cl,0<=x/\x<(P:Int)/\x≠(p:Int):=fun x f=>by
  have f:=(hcl.2 x).1 f;have:=f.range hc;have aw:=f.1;omega
 have hlen:cl.length<=P - 1:=by
  have h1:(cl.map Int.toNat).Nodup:=by
   rw[Ag,AX]
   exact(List.Pairwise.and_mem.1 hcl.1).imp (fun {a b} h=>by
    have ha:=l a h.1;have m:=l b h.2.1;have:=h.2.2
    omega)
  have h2:(cl.map Int.toNat).length<=((Ax P).erase p).length:=List.Nodup.length_le_of_subset h1 fun y n=>by
   obtain⟨x,f,rfl⟩:=List.mem_map.1 n;have:=l x f;rw[List.Nodup.mem_erase_iff List.nodup_range];exact⟨by omega,List.mem_range.2 (by omega)⟩
  rw[AZ,List.length_erase_of_mem (List.mem_range.2 hp),List.length_range]at h2;exact h2
 have v:∀ C:List Nat,C.Nodup->P - 1<C.length->∃ c∈C,(c:Int) ∉ tk:=by
  intro C J ax;refine AW fun hn=>?_
  have h1:(C.map fun c:Nat=>(c:Int)).Nodup:=by
   rw[Ag,AX];exact J.imp (fun h=>by omega)
  have h2:(C.map fun c:Nat=>(c:Int)).length<=tk.length:=List.Nodup.length_le_of_subset h1 fun y n=>by
   obtain⟨c,K,rfl⟩:=List.mem_map.1 n;exact AW fun h=>hn ⟨c,K,h⟩
  rw[<-k]at h2;simp only[AZ]at h2;omega
 have f8:first<=8:=by omega
 obtain⟨c,o,s⟩:=v ((Ax P).map fun i=>16+i) (by
  rw[Ag,AX]
  exact List.nodup_range.imp (fun h=>by omega)) (by simp;omega)
 obtain⟨i,hi,rfl⟩:=List.mem_map.1 o;have hi:=List.mem_range.1 hi;have g:=aVa (first:=first) (c:=16+i) (by omega) ⟨by omega,by omega,s⟩;obtain⟨L,⟨M,N,t⟩,w⟩:=g
 have z:P<=7->giveV first tk<16:=by
  intro A
  obtain⟨c,o,s⟩:=v ((Ax 7).map fun i=>8+i) (by
   rw[Ag,AX]
   exact List.nodup_range.imp (fun h=>by omega)) (by simp;omega)
  obtain⟨i,hi,rfl⟩:=List.mem_map.1 o;have hi:=List.mem_range.1 hi;have:=(aVa (first:=first) (c:=8+i) (by omega) ⟨by omega,by omega,s⟩).1;omega
 obtain⟨gv,O⟩:=fX (giveV first tk);rw[O]at L M N t w z ⊢;have old:∀ q,q∈D->q≠p:=fun q hq e=>G (e ▸ hq)
 have mem:∀ q,q∈D ++ [p]↔q∈D\/q=p:=fun q=>by simp
 have taken:∀ q,q∈D->Clashes r p q->H q∈tk:=fun q hq f=>by
  rw[<-k];exact List.mem_map.2 ⟨(q:Int),(hcl.2 _).2 f,by simp⟩
 refine⟨fun q hq=>?_,fun q hq=>?_,fun a ha b m hab=>?_,fun q hq u=>?_⟩
 ·rw[mem]at hq;rw[if_neg (fun e=>hq (.inr e))];exact h.un q (fun e=>hq (.inl e))
 ·rcases(mem q).1 hq with hq | hq
  ·rw[if_neg (old q hq)];exact h.ok q hq
  ·subst hq;rw[if_pos rfl];refine⟨by omega,by omega,by omega,fun A=>by have:=z A;omega,fun Q=>?_⟩;rcases I with⟨e,_⟩ | ⟨_,hn⟩
   ·omega
   ·exact absurd Q hn
 ·rcases(mem a).1 ha with j | j
  ·rcases(mem b).1 m with d | d
   ·rw[if_neg (old a j),if_neg (old b d)];exact h.cl a j b d hab
   ·rw[if_neg (old a j),if_pos d];intro e;rw[d]at hab;exact t (e ▸ taken a j hab.symm)
  ·rcases(mem b).1 m with d | d
   ·rw[if_pos j,if_neg (old b d)];intro e;rw[j]at hab;exact t (e ▸ taken b d hab)
   ·rw[j,d]at hab;exact absurd rfl hab.1
 ·rcases(mem q).1 hq with hq | hq
  ·rw[if_neg (old q hq)]at u ⊢;obtain⟨B,h1,h2⟩:=h.gap q hq u;exact⟨B,by simp[h1],by rw[if_neg (old B h1)];exact h2⟩
  ·subst hq;rw[if_pos rfl]at u ⊢;have R:=w (gv - 1) (by omega);have E:((gv - 1:Nat):Int)∈tk:=AW fun hn=>R ⟨by omega,by omega,hn⟩;rw[<-k]at E;obtain⟨x,f,he⟩:=List.mem_map.1 E
   have F:x.toNat∈D:=AW fun hn=>by
    have:=h.un _ hn;omega
   exact⟨x.toNat,by simp[F],by rw[if_neg (old _ F),he];omega⟩
theorem GrInv.done{r:RowD}{D:List Nat}{H:Nat->Int}(h:GrInv r P D H)(d:∀ p,p<P->p∈D)(g:∀ p∈D,p<P):RightP r P ((Ax P).map H):=by
 have get:∀ (i:Nat) x,((Ax P).map H)[i]? = some x->i<P/\x=H i:=by
  intro i x c;by_cases hi:i<P
  ·simp[hi]at c;exact⟨hi,c.symm⟩
  ·rw[AV (by simp;omega)]at c;cases c
 have mem:∀ x,x∈(Ax P).map H↔∃ i,i<P/\H i=x:=fun x=>by simp
 have down:∀ (k:Nat) (p:Nat),p<P->16<=H p - (k:Int)->∃ q,q<P/\H q=H p - (k:Int):=by
  intro k
  induction k with
  | zero=>intro p hp _;exact⟨p,hp,by simp⟩
  | succ k l=>
   intro p hp hk;obtain⟨q,hq,e⟩:=l p hp (by omega);obtain⟨f,h1,h2⟩:=h.gap q (d q hq) (by omega);exact⟨f,g f h1,by omega⟩
 refine⟨by simp,fun x c=>?_,fun s x hs c hle=>?_,fun i j a b ha m hab=>?_,fun i a ha n=>?_⟩
 ·obtain⟨i,hi,rfl⟩:=(mem x).1 c;have:=h.ok i (d i hi);exact⟨this.1,this.2.1,this.2.2.1,this.2.2.2.1⟩
 ·obtain⟨i,hi,rfl⟩:=(mem x).1 c;obtain⟨q,hq,e⟩:=down (H i - s).toNat i hi (by omega);exact(mem s).2 ⟨q,hq,by omega⟩
 ·obtain⟨hi,rfl⟩:=get i a ha;obtain⟨hj,rfl⟩:=get j b m;exact h.cl i (d i hi) j (d j hj) hab
 ·obtain⟨hi,rfl⟩:=get i a ha;exact(h.ok i (d i hi)).2.2.2.2 n
def rW(hs:List Int)(p:Int):Int:=hs.getD p.toNat 0
def kY(hs l:List Int):List Int:=l.map (rW hs)
def rK(m:Int)(l:List Int):Int:=l.foldl (fun m h=>max m (h+1)) m
def oY(hs:List Int):Int:=rK 16 hs
def tJ(hs:List Int)(c:CodeD):CodeD:={ c with args:=kY hs c.args,outs:=kY hs c.outs }
def xJ(r:RowD)(hs:List Int):RowD:={ r with places:=oY hs,params:=kY hs r.params,code:=r.code.map (tJ hs) }
theorem aZi:∀ (l:List Int) (m:Int),m<=rK m l
 | [],m=>Int.le_refl m
 | h :: l,m=>by
  have:=aZi l (max m (h+1));show m<=rK (max m (h+1)) l;omega
theorem bQa:∀ (l:List Int) (m:Int),∀ h∈l,h+1<=rK m l
 | [],m,h,b=>by simp at b
 | a :: l,m,h,b=>by
  show h+1<=rK (max m (a+1)) l;rcases List.mem_cons.1 b with e | b
  ·have:=aZi l (max m (a+1));omega
  ·exact bQa l _ h b
theorem aVb:∀ (l:List Int) (m b:Int),m<=b->(∀ h∈l,h+1<=b)->rK m l<=b
 | [],m,b,c,_=>c
 | a :: l,m,b,c,d=>by
  show rK (max m (a+1)) l<=b;exact aVb l _ b (by have:=d a (by simp);omega) (fun h e=>d h (by simp[e]))
theorem bWb(l:List Int)(m h:Int):rK m (l ++ [h])=max (rK m l) (h+1):=by simp[rK]
theorem vX(hs l:List Int):(kY hs l).length=l.length:=by simp[kY]
theorem cVp{x:Int}:x∈kY hs l↔∃ p∈l,rW hs p=x:=by simp[kY]
theorem RightP.get{r:RowD}(h:RightP r P hs){p:Int}(h0:0<=p)(h1:p<P):hs[p.toNat]? = some (rW hs p):=by
 have hl:=h.len;have a:p.toNat<hs.length:=(by omega);unfold rW;rw[Af,Aq a];rfl
theorem RightP.mem{r:RowD}(h:RightP r P hs){p:Int}(a:0<=p)(h1:p<P):rW hs p∈hs:=Az (h.get a h1)
theorem RightP.ne{r:RowD}(h:RightP r P hs){p q:Int}(hp:0<=p/\p<P)(hq:0<=q/\q<P)(hc:Clashes r p q):rW hs p≠rW hs q:=by
 refine h.cl p.toNat q.toNat _ _ (h.get hp.1 hp.2) (h.get hq.1 hq.2) ?_;rw[show((p.toNat:Nat):Int)=p by omega,show((q.toNat:Nat):Int)=q by omega];exact hc
theorem RightP.top{r:RowD}(h:RightP r P hs):16<=oY hs/\oY hs<=16+P:=
 ⟨aZi _ _,aVb _ _ _ (by omega) (fun x a=>by have:=h.ok x a;omega)⟩
theorem RightP.lt{r:RowD}(h:RightP r P hs){p:Int}(b:0<=p)(h1:p<P):0<=rW hs p/\rW hs p<oY hs:=by
 have a:=h.mem b h1;have h2:=h.ok _ a;have h3:=bQa hs 16 _ a;unfold oY;omega
theorem aZt{r:RowD}(h:RightP r P hs)(a:∀ x∈l,0<=x/\x<(P:Int)):within (oY hs) (kY hs l)=true:=by
 unfold within;rw[List.all_eq_true];intro x b;obtain⟨p,hp,rfl⟩:=cVp.1 b;have:=a p hp;have:=h.lt this.1 this.2
 simpa using this
theorem bQb{r:RowD}(h:RightP r P hs)(c:∀ x∈l,0<=x/\x<(P:Int))(hn:l.Nodup)(hc:∀ x∈l,∀ y∈l,x≠y->Clashes r x y):(kY hs l).Nodup:=by
 unfold kY;rw[Ag,AX];exact(List.Pairwise.and_mem.1 hn).imp (fun {a b} q=>h.ne (c a q.1) (c b q.2.1) (hc a q.1 b q.2.1 q.2.2))
theorem cJc{e:EnvD}{r:RowD}(hc:CheckP e r)(p:r.places=P)(ah:P<=2032)(h:RightP r P hs):CheckP e (xJ r hs) where
 env:=hc.env
 sig:=hc.sig
 n1:=by simpa[xJ]using hc.n1
 n2:=by simpa[xJ]using hc.n2
 p1:=by have:=h.top;show 0<=oY hs;omega
 p2:=by have:=h.top;show oY hs<=4096;omega
 par:=by
  show(kY hs r.params).length=_;rw[vX];exact hc.par
 pin:=aZt h (fun x f=>by have:=pQ hc.pin f;omega)
 pun:=bQb h (fun x f=>by have:=pQ hc.pin f;omega) hc.pun (fun x f y j l=>⟨l,.inl (.inr ⟨f,.inl j⟩)⟩)
 code:=by
  intro c a;obtain⟨b,m,rfl⟩:=List.mem_map.1 (show c∈r.code.map (tJ hs)from a);obtain⟨i,hi⟩:=List.mem_iff_getElem?.1 m;have d:=hc.code b m;have g:=qY d;rw[p]at g;unfold codeOk at d ⊢
  show(match iX e r.sig b.op b.n with
   | none=>false
   | some (i,o)=>decide ((kY hs b.args).length=i.length/\(kY hs b.outs).length=o.length/\sX b.op<=b.to.length/\(b.to.length:Int)<=nJ b.op) && (within (oY hs) (kY hs b.args) && (within (oY hs) (kY hs b.outs) && (decide (kY hs b.outs).Nodup && within (r.code.map (tJ hs)).length b.to))))=true
  cases hf:iX e r.sig b.op b.n with
  | none=>rw[hf]at d;cases d
  | some q=>
   obtain⟨i1,o1⟩:=q;rw[hf]at d;simp only[Bool.and_eq_true,decide_eq_true_eq]at d ⊢;obtain⟨s,k2,k3,k4,t⟩:=d;refine⟨by rw[vX,vX];exact s,aZt h g.1,aZt h g.2.1,bQb h g.2.1 g.2.2 (fun x f y j l=>⟨l,.inl (.inl ⟨i,b,hi,f,.inr j⟩)⟩),by rw[AZ];exact t⟩
 first:=by
  intro c a;have a:(r.code.map (tJ hs))[0]? = some c:=a;rw[Ae]at a
  cases h0:r.code[0]? with
  | none=>rw[h0]at a;cases a
  | some b=>
   rw[h0]at a;injection a with a;subst a;exact hc.first b h0
 last:=by
  intro c a;have a:(r.code.map (tJ hs))[(r.code.map (tJ hs)).length - 1]? = some c:=a;rw[AZ,Ae]at a
  cases h0:r.code[r.code.length - 1]? with
  | none=>rw[h0]at a;cases a
  | some b=>
   rw[h0]at a;injection a with a;subst a;exact hc.last b h0
 rank:=by
  obtain⟨rk,u⟩:=hc.rank;refine⟨rk,fun i c k a v d=>?_⟩;have a:(r.code.map (tJ hs))[i]? = some c:=a;rw[Ae]at a
  cases h0:r.code[i]? with
  | none=>rw[h0]at a;cases a
  | some b=>
   rw[h0]at a;injection a with a;subst a;exact u i b k h0 v d
def cVq(hs l:List Int)(w:BZ)(a:Ending)(w':BZ):Prop:=∃ v,a = .returned v/\w'.ownsRow w.heap.size 3 1 v l.length (i64s (kY hs l))/\BV w.heap.size w w'
theorem cVr{x y:Int}(h:l[k]? = some x)(a:rW hs x=y):i64s (kY hs (l.take k)) ++ [.int .i64 y]=i64s (kY hs (l.take (k+1))):=by
 obtain⟨h1,h2⟩:=List.getElem?_eq_some_iff.1 h;rw[Aw h1,h2,<-a];simp[i64s,kY]
theorem eQa{z:Nat}(h:z<hs.length):hs[z]? = some (rW hs (z:Int)):=by
 unfold rW;rw[Int.toNat_natCast,Af,Aq h];rfl
theorem eQb(x:Int):∀ u ∈ [Value.int .i64 x],u.oneCell'=true:=by
 intro u a;obtain rfl:=List.mem_singleton.1 a;rfl
theorem bQr(vl h:BK)(l hs:List Int)(w:BZ)(m:IR w vl l)(o:IR w h hs)(hr:∀ x∈l,0<=x/\x<hs.length)(hz:l.length<=100000)(B:hs.length<=100000):
  Calls fZ 51 #[vl,h] w (cVq hs l w):=by
 have p:=fQ m;have q:=fQ o;have r:=fQ hr;obtain⟨Al,cl,rfl,_⟩:=m;obtain⟨Ah,ch,rfl,_⟩:=o;obtain⟨n,hn⟩:=fX l.length;obtain⟨P,d⟩:∃ n,hs.length=n:=⟨_,rfl⟩;have s:=fQ hn;have C:=fQ d;unfold cVq;rw[hn]at p hz ⊢;rw[d]at q B ⊢
 have t:∀ x∈l,0<=x/\x<(P:Int):=fun x a=>by have:=hr x a;omega
 have r:=fQ t;clear hn d hr t;go_in;go_wp2_with fail;go_loopw [5,10] (fun v i wr=>∃ k:Nat,k<=n/\i = .int .i64 k/\Hid (wr.ownsRow w.heap.size 3 1 v k (i64s (kY hs (l.take k))))/\Hid (BV w.heap.size w wr)) (fun _ i _=>n - (intOf i).toNat)
 case atStart=>exact⟨0,by omega,rfl,fQ (World.ownsRow_nil _ _ _ _),fQ (AY _ _)⟩
 case round=>
  obtain⟨k,hk,rfl,iO,b⟩:=hrel;obtain⟨D,E,F,_⟩:=fW iO.out;subst F;by_cases G:k<n
  ·have H:decide ((k:Int)<n)=true:=(by simp;omega);have t2:(k:Int)<n:=(by omega);obtain⟨x,a⟩:∃ x,l[k]? = some x:=⟨_,Aq (by rw[s.out];exact G)⟩;have I:=r.out x (Az a);obtain⟨c,rfl⟩:∃ z:Nat,x=z:=⟨x.toNat,by omega⟩;have J:c<P:=(by omega);have av:(c:Int)<P:=(by omega);obtain⟨y,e⟩:=fX (rW hs (c:Int));have f:=eQa (hs:=hs) (z:=c) (by rw[C.out];exact J);rw[e]at f;obtain⟨xb,xo,rfl,aw,ax⟩:=(p.out.below b.out (Aj _)).cell a;obtain⟨yb,yo,rfl,ay,az⟩:=(q.out.below b.out (Aj _)).cell f;have K:=fQ (cVr a e);have hsz:=b.out.size;have u:=fQ (iJ iO.out (.cells #[.int .i64 y] 3));have L:=fQ (b.out.alloc b.out.size (.cells #[.int .i64 y] 3));clear a I e f;go_wp2_with (at_builtin;refine jY _ rfl (.tmp 14) (.tmp 19) 23 rfl w.heap.size 3 (.int .i64 0) 1 8 underlying23 oK rfl (by omega) (.slice D k E) k (i64s (kY hs (l.take k))) rfl u.out (some ⟨wr.heap.size,0,none⟩) 1 1 [.int .i64 y] rfl (Blk.fQc (cs:=#[.int .i64 y]) (Blk.newAt _ _ _ rfl) rfl) (eQb _) (by unfold maxLen;omega) (by omega) (by simp;omega) ?_);rintro v' w' g A M _;rw[K.out]at g;have N:=fQ g;have O:=fQ (iK L.out A (by simp;omega) (fun j hj=>(u.out.lt j hj).1));clear g A M;go_wp2;exact⟨⟨k+1,by omega,by simp,N,O⟩,by simp[intOf];omega⟩
  ·have H:decide ((k:Int)<n)=false:=(by simp;omega);have Q:n=k:=(by omega);subst Q;have R:=fQ (show l.take n=l from Av (by rw[s.out];exact Aj _));go_wp2;go_ret;exact⟨_,rfl,by have:=iO.out;rw[R.out]at this;exact this,b.out⟩
theorem cJa(w:BZ):(zeroValue 4).run fZ w = .ok (.bool false) w:=by kernel_rfl
theorem bWa(first b:Nat)(s:List Int)(w:BZ)(h:IM w b (setKV s)):
  Calls fZ 59 #[.int .i64 (first:Int),.map (some b)] w fun l w'=>l = .returned (.int .i64 ((giveV first s:Nat):Int))/\w'=w:=by
 have o:=fQ h;clear h;go_in;go_wp2;go_loopw [6] (fun i wr=>∃ n:Nat,n<=2048/\i = .int .i64 n/\w=wr/\Hid (∀ m,m<n->¬(first<=m/\m≠15/\(m:Int) ∉ s))) (fun i _=>2048 - (intOf i).toNat)
 case atStart=>exact⟨0,by omega,rfl,rfl,fQ (fun m k=>by omega)⟩
 case round=>
  obtain⟨n,hn,rfl,p,g⟩:=hrel;subst p;by_cases q:n<2048
  ·have r:decide ((n:Int)<2048)=true:=by simp;omega
   have next:¬(first<=n/\n≠15/\(n:Int) ∉ s)->∀ m,m<n+1->¬(first<=m/\m≠15/\(m:Int) ∉ s):=fun t m k=>by
    by_cases e:m=n
    ·subst e;exact t
    ·exact g.out m (by omega)
   have j:=fQ next;clear next;by_cases h1:first<=n
   ·have u:decide ((first:Int)<=(n:Int))=true:=(by simp;omega);have v:decide (first<=n)=true:=(by simp;omega);by_cases h2:n=15
    ·have x:((n:Int) != 15)=false:=(by subst h2;rfl);have a:=fQ (j.out (fun d=>d.2.1 h2));clear h2;go_wp2;exact⟨⟨n+1,by omega,by simp,trivial,a⟩,by simp[intOf];omega⟩
    ·have x:((n:Int) != 15)=true:=(by simp;omega);have f:=(o.out.lookup (P:=fZ) underlying72 underlying3 (cJa _) (n:Int)).1;rw[aWj]at f;by_cases c:(n:Int)∈s
     ·rw[if_pos c]at f;simp only[Option.getD_some]at f;have a:=fQ (j.out (fun d=>d.2.2 c));clear c h2;go_wp2;exact⟨⟨n+1,by omega,by simp,trivial,a⟩,by simp[intOf];omega⟩
     ·rw[if_neg c]at f;simp only[Option.getD_none]at f;have a:=fQ (dKm q ⟨h1,h2,c⟩ g.out);clear c h2;go_wp2;go_ret;exact⟨by rw[a.out];rfl,rfl⟩
   ·have u:decide ((first:Int)<=(n:Int))=false:=(by simp;omega);have v:decide (first<=n)=false:=(by simp;omega);have a:=fQ (j.out (fun d=>h1 d.1));go_wp2;exact⟨⟨n+1,by omega,by simp,trivial,a⟩,by simp[intOf];omega⟩
  ·have r:decide ((n:Int)<2048)=false:=(by simp;omega);have a:=fQ (cJb (first:=first) (tk:=s) (fun m k=>g.out m (by omega)));go_wp2;go_ret;exact⟨by rw[a.out];rfl,rfl⟩
theorem bJv(P:Nat)(H:Nat->Int)(p:Nat)(x:Int):((Ax P).map H).set p x=(Ax P).map fun q=>if q=p then x else H q:=by
 apply Bw;intro i;by_cases hi:i<P
 ·by_cases e:p=i
  ·subst e;rw[Bq (by simpa using hi)];simp[hi]
  ·rw[Bz e];have e2:¬i=p:=fun h=>e h.symm;simp[hi,e2]
 ·rw[AV (by simp;omega),AV (by simp;omega)]
theorem cVl(P:Nat)(x:Int):AK P x=(Ax P).map fun _=>x:=by
 rw[List.map_const'];simp
theorem dKk{H:Nat->Int}(h:p<P):((Ax P).map H)[p]? = some (H p):=by simp[h]
theorem cVm{D:List Int}(h:D.Perm ((Ax P).map fun i:Nat=>(i:Int))):∃ L:List Nat,D=L.map (fun i:Nat=>(i:Int))/\L.Nodup/\∀ p,p∈L↔p<P:=by
 have d:∀ x∈D,0<=x:=fun x c=>by
  have:=h.mem_iff.1 c;simp at this;omega
 refine⟨D.map Int.toNat,?_,?_,fun p=>?_⟩
 ·rw[List.map_map]
  conv=>lhs;rw[<-List.map_id D]
  exact List.map_congr_left fun x c=>by have:=d x c;simp;omega
 ·have hn:((Ax P).map fun i:Nat=>(i:Int)).Nodup:=by
   rw[Ag,AX];exact List.nodup_range.imp (fun h=>by omega)
  have hd:=h.nodup_iff.2 hn;rw[Ag,AX];exact(List.Pairwise.and_mem.1 hd).imp (fun {a b} q=>by have:=d a q.1;have:=d b q.2.1;have:=q.2.2;omega)
 ·constructor
  ·intro hp;obtain⟨x,c,rfl⟩:=List.mem_map.1 hp;have:=h.mem_iff.1 c;simp at this;omega
  ·intro hp;exact List.mem_map.2 ⟨(p:Int),h.mem_iff.2 (List.mem_map.2 ⟨p,List.mem_range.2 hp,rfl⟩),by simp⟩
theorem bJw{L:List Nat}(hn:L.Nodup)(hp:L[k]? = some p):p ∉ L.take k:=by
 intro a;obtain⟨i,hi⟩:=List.mem_iff_getElem?.1 a;rw[Bv]at hi;by_cases h:i<k
 ·rw[if_pos h]at hi;obtain⟨h1,b⟩:=List.getElem?_eq_some_iff.1 hi;obtain⟨h2,e2⟩:=List.getElem?_eq_some_iff.1 hp;exact(List.pairwise_iff_getElem.1 hn) i k h1 h2 h (b.trans e2.symm)
 ·rw[if_neg h]at hi;cases hi
theorem aZh{L:List Nat}(hp:L[k]? = some p):L.take (k+1)=L.take k ++ [p]:=by
 obtain⟨h2,e2⟩:=List.getElem?_eq_some_iff.1 hp;rw[Aw h2,e2]
theorem dKl{D:List Int}(h:D.Perm ((Ax P).map fun i:Nat=>(i:Int))):D.length=P:=by
 have:=h.length_eq
 simpa using this
theorem dYy(v:BK)(l:List Int)(x:Int)(w:BZ)(hs:IR w v l)(hr:l.Pairwise (· <= ·))(hl:l.length<=1000000):
  Calls fZ 58 #[v,.int .i64 x] w fun e w'=>(∃ k:Nat,e = .returned (.tuple #[.int .i64 k,.bool (decide (x∈l))]))/\∃ q,w'=w.drewN q:=by
 obtain⟨A,c,rfl,a⟩:=hs;by_cases d:l.length=0
 ·have f:l = []:=List.eq_nil_of_length_eq_zero d;subst f;go_in;go_wp2_with fail;go_loopw [7,8] (fun i j wr=>i = .int .i64 0/\j = .int .i64 0/\w=wr) (fun _ _ _=>0)
  case atStart=>exact⟨rfl,rfl,rfl⟩
  case round=>
   obtain⟨rfl,rfl,g⟩:=hrel;subst g;go_wp2_with fail;go_ret2;exact⟨⟨0,by simp⟩,0,rfl⟩
 ·obtain⟨b,o,rfl,hb,hc⟩:=a.2 (by omega)
  have h:=Tryz.slices_BinarySearch_int b o l.length c l x w (Aj _) (by omega) (fun j hj=>by
   rw[hc j (.int .i64 (l.getD j 0)) (by simp[i64s,Af,Aq hj])]) (by rw[Av (Aj _)];exact hr)
  refine h.mono ?_;rintro e w' ⟨rfl,q,rfl⟩;rw[Av (Aj _)]
  exact⟨⟨l.countP (· < x),by simp⟩,q,rfl⟩
theorem cVn(b:Nat)(s:List Int)(w:BZ)(h:IM w b (setKV s)):Calls fZ 59 #[.int .i64 8,.map (some b)] w fun a w'=>a = .returned (.int .i64 ((giveV 8 s:Nat):Int))/\w'=w:=bWa 8 b s w h
theorem cVo(b:Nat)(s:List Int)(w:BZ)(h:IM w b (setKV s)):Calls fZ 59 #[.int .i64 0,.map (some b)] w fun a w'=>a = .returned (.int .i64 ((giveV 0 s:Nat):Int))/\w'=w:=bWa 0 b s w h
def OrS(g P k:Nat)(a wr:BZ):Prop:=∃ D:List Int,D.length=P/\(∀ i,i<k->D[i]? = some (i:Int))/\Blk wr g 3 (i64s D).toArray/\Only g a wr
theorem OrS.put{a:BZ}(h:OrS g P k a wr)(hk:k<P):OrS g P (k+1) a (wr.setCell ⟨g,k,none⟩ (.int .i64 (k:Int))):=by
 obtain⟨D,h1,h2,b,c⟩:=h;refine⟨D.set k (k:Int),by rw[List.length_set];exact h1,fun i hi=>?_,qK b k (k:Int),c.setCell k _⟩;by_cases e:k=i
 ·subst e;rw[Bq (by omega)]
 ·rw[Bz e];exact h2 i (by omega)
theorem OrS.done{a:BZ}(h:OrS g P P a wr):Blk wr g 3 (i64s ((Ax P).map fun i:Nat=>(i:Int))).toArray/\Only g a wr:=by
 obtain⟨D,h1,h2,b,c⟩:=h
 have e:D=(Ax P).map fun i:Nat=>(i:Int):=by
  apply Bw;intro i;by_cases hi:i<P
  ·rw[h2 i hi];simp[hi]
  ·rw[AV (by omega),AV (by simp;omega)]
 subst e;exact⟨b,c⟩
inductive HoR (r:RowD):List Nat->(Nat->Int)->Prop
 | nil:HoR r [] (fun _=>-1)
 | snoc {L:List Nat} {H:Nat->Int} {p:Nat} {cl:List Int} {first:Nat} (h:HoR r L H) (hcl:IsSet cl (Clashes r p)) (hf:(first=8/\AcrossP r p)\/(first=0/\¬AcrossP r p)):HoR r (L ++ [p]) (fun q=>if q=p then((giveV first (cl.map fun x=>H x.toNat):Nat):Int)else H q)
def HomesR(r:RowD)(P:Nat)(hs:List Int):Prop:=∃ (L:List Nat) (H:Nat->Int),bJc (bJe (aWg r)) P ((Ax P).map fun i:Nat=>(i:Int))=L.map (fun i:Nat=>(i:Int))/\HoR r L H/\hs=(Ax P).map H
structure RightX (r:RowD) (P:Nat) (hs:List Int):Prop extends RightP r P hs where
 hr:HomesR r P hs
def dYz(e:EnvD)(r:RowD)(w:BZ)(a:Ending)(w':BZ):Prop:=
 (¬CheckP e r/\a = .returned (.tuple #[.slice none 0 0,.int .i64 6])/\BV w.heap.size w w') \/
 (CheckP e r/\2032<r.places/\a = .returned (.tuple #[.slice none 0 0,.int .i64 15])/\BV w.heap.size w w') \/
 (CheckP e r/\∃ (P:Nat) (hs:List Int) (g:Nat),r.places=P/\P<=2032/\RightX r P hs/\a = .returned (.tuple #[.slice (some ⟨g,0,none⟩) P P,.int .i64 0])/\w.heap.size<=g/\Blk w' g 3 (i64s hs).toArray/\BV w.heap.size w w')
def HoX(r:RowD)(P a:Nat)(L:List Nat)(b:BZ)(i:Nat)(wr:BZ):Prop:=∃ H:Nat->Int,(GrInv r P (L.take i) H/\HoR r (L.take i) H)/\Blk wr a 3 (i64s ((Ax P).map H)).toArray/\BV a b wr
theorem cZb(e:EnvD)(r:RowD)(ve vr:BK)(w:BZ)(he:EnvV w ve e)(hr:RowV w vr r):Calls fZ 30 #[ve,vr] w (dYz e r w):=by
 have HE:=fQ he;have Z:=fQ hr;obtain⟨va,vb,vd,rfl,h1,h2,C⟩:=he;obtain⟨vp,vq,ae,vs,rfl,h4,h5,h6,h7⟩:=hr;clear h1 h2 C h4 h5 h6 h7;have aO:=fQ (al2 w (.cells #[va,.int .i64 e.imports,vb,vd,.bool e.mem] 26) (.cells #[vp,vq,.int .i64 r.places,ae,vs] 43));have aZ:=fQ (Blk.newAt (w.alloc (.cells #[va,.int .i64 e.imports,vb,vd,.bool e.mem] 26)) (N:=w.heap.size+1) 43 #[vp,vq,.int .i64 r.places,ae,vs] (by simp));have a1:=fQ (Blk.alloc (Blk.new w 26 #[va,.int .i64 e.imports,vb,vd,.bool e.mem]) (.cells #[vp,vq,.int .i64 r.places,ae,vs] 43));go_in;go_wp2_with fail;refine(aWq e r _ _ _ (HE.out.below aO.out (Aj _)) (Z.out.below aO.out (Aj _))).mono ?_;rintro E w1 ⟨b,rfl,bx,ax⟩;have I:=fQ (aO.out.trans (ax.mono aO.out.size));have bz:=fQ bx;have T:=fQ (aZ.out.below ax aZ.out.lt);have ay:=fQ (a1.out.below ax a1.out.lt);clear ax bx
 cases b with
 | false=>
  go_wp2;go_ret2;exact .inl ⟨(fun h=>by have:=bz.out.2 h;cases this),rfl,I.out⟩
 | true=>
  have d:=fQ (bz.out.1 rfl);obtain⟨P,hP⟩:∃ P:Nat,r.places=P:=⟨r.places.toNat,by have:=d.out.p1;omega⟩;have bD:r.places.toNat=P:=(by omega);have bE:=fQ bD;obtain⟨n,hn⟩:=fX r.code.length;have HN:=fQ hn;have U:=fQ hP;rw[hP]at T;rw[hP]at Z;clear hP bD hn aZ a1;obtain⟨o,t,v,y,A⟩:=gQ T.out;obtain⟨e0,e1,e2,e3,e4⟩:=gQ ay.out;have y1:=T.out.lt;have y2:=ay.out.lt;by_cases cf:2032<P
  ·have J:decide ((2032:Int)<(P:Int))=true:=(by simp;omega);have bF:decide (2032<P)=true:=(by simp;omega);go_wp2_with fail;go_ret2;exact .inr (.inl ⟨d.out,by rw[U.out];omega,rfl,I.out⟩)
  ·have J:decide ((2032:Int)<(P:Int))=false:=(by simp;omega);have bF:decide (2032<P)=false:=(by simp;omega);go_wp2_with fail;refine(dQp e r _ _ _ (HE.out.below I.out (Aj _)) (Z.out.below I.out (Aj _))).mono ?_;rintro E w2 (⟨a6,_,_⟩ | ⟨_,vC,rfl,hT,aP⟩)
   ·exact absurd d.out a6
   rw[bE.out]at hT;obtain⟨AC,cC,rfl⟩:=hT.shape;have bG:=fQ hT;have az:=fQ (I.out.trans (aP.mono I.out.size));have aA:=fQ (T.out.below aP T.out.lt);have a7:=fQ (ay.out.below aP ay.out.lt);clear hT aP o t v y A e0 e1 e2 e3 e4 y1 y2 J bF;obtain⟨o,t,v,y,A⟩:=gQ aA.out;obtain⟨e0,e1,e2,e3,e4⟩:=gQ a7.out;have y1:=aA.out.lt;have y2:=a7.out.lt;go_wp2_with fail;refine(cJy e r _ _ _ (HE.out.below az.out (Aj _)) (Z.out.below az.out (Aj _))).mono ?_;rintro E w3 (⟨a6,_,_⟩ | ⟨_,pl,Aa,ca,rfl,ho,aa,aQ⟩)
   ·exact absurd d.out a6
   have a8:=fQ (IR.own ho);have aB:=fQ aa
   have ch:=fQ (show pl.Pairwise (· <= ·)from aa.1.imp (fun h=>by omega))
   have aR:=fQ (az.out.trans (aQ.mono az.out.size));have aC:=fQ (aA.out.below aQ aA.out.lt);have bH:=fQ (bG.out.below aQ);obtain⟨mp,aD⟩:∃ m,pl.length=m:=⟨_,rfl⟩;have cj:=fQ aD;have ck:mp<=4096:=(by rw[<-aD];exact aa.small d.out (fun x hx=>hx.range d.out));rw[aD];rw[aD]at a8;clear ho aa aQ aD o t v y A e0 e1 e2 e3 e4 y1 y2;obtain⟨o,t,v,y,A⟩:=gQ aC.out;have y1:=aC.out.lt;go_wp2_with fail;refine(eWl e r _ _ P n (Z.out.below aR.out (Aj _)) d.out U.out HN.out).mono ?_;rintro E l ⟨gA,rfl,cm,ag,aE⟩;have aF:=fQ ag;have cn:=fQ (a8.out.below aE (Aj _));have cq:=fQ (aR.out.trans (aE.mono aR.out.size));have aS:=fQ (aC.out.below aE aC.out.lt);have cr:=fQ (bH.out.below aE);have ct:gA<l.heap.size:=Blk.lt ag;obtain⟨c,aG⟩:∃ b,l.heap.size=b:=⟨_,rfl⟩;have bI:=fQ aG;have cM:w.heap.size+1<c:=(by have:=aS.out.lt;omega);have mk:=vZ (P:=fZ) 23 3 (.int .i64 0) 8 underlying23 oK rfl P (by omega) (by omega);have hZ:(AK P (Value.int .i64 0)).toArray=(i64s (AK P 0)).toArray:=(by simp[i64s]);rw[hZ]at mk;clear hZ;have bJ:=fQ (Blk.alloc (Blk.alloc aS.out (.cells #[.slice (some ⟨gA,0,none⟩) P P] 23)) (.cells (i64s (AK P 0)).toArray 3));have bb:=fQ (Blk.alloc (Blk.newAt l (N:=c) 23 #[.slice (some ⟨gA,0,none⟩) P P] aG) (.cells (i64s (AK P 0)).toArray 3));have bc:=fQ (Blk.newAt (l.alloc (.cells #[.slice (some ⟨gA,0,none⟩) P P] 23)) (N:=c+1) 3 (i64s (AK P 0)).toArray (by simp[aG]));have ah:=fQ (show BV c l ((l.alloc (.cells #[.slice (some ⟨gA,0,none⟩) P P] 23)).alloc (.cells (i64s (AK P 0)).toArray 3))from((AY c l).alloc (Bx aG.symm) _).alloc (by simp[aG]) _);clear ag aE o t v y A y1 cm aC bH aA a7 ay T a8 I az aR bG;have K:=Blk.alloc aS.out (.cells #[.slice (some ⟨gA,0,none⟩) P P] 23);obtain⟨o,t,v,y,A⟩:=gQ K;have y1:=K.lt;clear K;go_wp2_with fail;obtain⟨wO,bd⟩:=fX ((l.alloc (.cells #[.slice (some ⟨gA,0,none⟩) P P] 23)).alloc (.cells (i64s (AK P 0)).toArray 3));have M:=fQ (show OrS (c+1) P 0 wO wO from⟨_,by simp,fun i hi=>by omega,bd ▸ bc.out,Only.refl _ _⟩);rw[bd]at bJ bb bc ah ⊢;clear bd o t v y A y1 mk;go_loopw [50] (fun i wr=>∃ k:Nat,k<=P/\i = .int .i64 k/\Hid (OrS (c+1) P k wO wr)) (fun i _=>P - (intOf i).toNat)
   case atStart=>exact⟨0,by omega,rfl,M⟩
   case round=>
    as_aux_lemma=>
    clear M;obtain⟨k,hk,rfl,F⟩:=hrel;by_cases be:k<P
    ·have J:decide ((k:Int)<P)=true:=(by simp;omega);have t2:(k:Int)<P:=(by omega);obtain⟨D,h1,h2,C,h4⟩:=F.out;obtain⟨u,c1⟩:=sY C (show k<D.length by omega);have c2:=frozen_of_row wr (c+1) k _ _ C;have c3:=C.lt;clear h1 h2 C h4;go_wp2_with fail;exact⟨⟨k+1,by omega,by simp,fQ (F.out.put be)⟩,by simp[intOf];omega⟩
    ·have J:decide ((k:Int)<P)=false:=(by simp;omega);have ak:P=k:=(by omega);subst ak;obtain⟨bL,bM⟩:=F.out.done;have bN:=fQ bL;have M:=fQ bM;clear bL bM J;obtain⟨DB,ab⟩:=fX (aWg r);have cv:=fQ ab;have al:=aF.out;rw[ab]at al;have bO:DB.length=P:=(by rw[<-ab,dKj];exact bE.out);have aH:=fQ (cWa c gA (c+1) P P DB ((Ax P).map fun i:Nat=>(i:Int)) wr (M.out.blk bb.out (by omega)) (M.out.blk (al.below ah.out (by omega)) (by omega)) bO (fun x hx=>by simp at hx;omega) (by omega) (by omega));clear bO al ab;go_wp2_with fail;refine(eQi (bJe DB) c (c+1) P P ((Ax P).map fun i:Nat=>(i:Int)) _ bN.out (by simp) (by omega) aH.out).mono ?_;obtain⟨D6,bf⟩:∃ D,bJc (bJe DB) P ((Ax P).map fun i:Nat=>(i:Int))=D:=⟨_,rfl⟩;rw[bf];have cw:=fQ bf;clear bf;rintro E w6 ⟨rfl,bg,bj,bP⟩;obtain⟨L,hL,bQ,bT⟩:=cVm bg;have bU:L.length=P:=(by have:=dKl bg;rw[hL]at this;simpa using this);have aI:=fQ (ah.out.trans ((M.out.trans bP).below c wO (by omega) (AY _ _)));have bV:=fQ (aS.out.below aI.out (by omega));have HL:=fQ hL;have bW:=fQ bQ;have bk:=fQ bT;have bl:=fQ bU;have bX:=fQ bj;have bY:=bj.lt;clear bg bj bP hL bQ bT bU aH bN M bJ bb bc F aF;obtain⟨a,V⟩:∃ s,w6.heap.size=s:=⟨_,rfl⟩;have cN:=fQ V;rw[V]at bY;have KM:=fQ (Blk.newAt w6 (N:=a) 3 #[.int .i64 (-1)] V);have K:=Blk.alloc bV.out (.cells #[.int .i64 (-1)] 3);obtain⟨o,t,v,y,A⟩:=gQ K;have y1:=K.lt;clear K;go_wp2_with fail;refine(cZa (-1) a P _ KM.out (by omega)).mono ?_;rintro E O ⟨rfl,aT,bn⟩;have bo:(w6.alloc (.cells #[.int .i64 (-1)] 3)).heap.size=a+1:=(by simp[V]);rw[bo]at aT bn ⊢;have an:=fQ (show BV a w6 O from((AY a w6).alloc (Bx V.symm) _).trans (bn.mono (by omega)));have aJ:=fQ (aI.out.trans (an.out.mono (by omega)));have cx:=fQ (bX.out.below an.out bY);have bZ:=fQ (show HoX r P (a+1) L O 0 O from⟨fun _=>-1,⟨GrInv.start r P,HoR.nil⟩,by rw[<-cVl];exact aT,AY _ _⟩);have cy:D6.length=P:=(by rw[HL.out];simpa using bl.out);have cO:a+1<O.heap.size:=aT.lt;clear aT bn o t v y A y1 KM bV bX an V cy;go_wp2_with fail;go_loopw [67] (fun i wr=>∃ k:Nat,k<=P/\i = .int .i64 k/\Hid (HoX r P (a+1) L O k wr)) (fun i _=>P - (intOf i).toNat)
     case atStart=>exact⟨0,by omega,rfl,bZ⟩
     case round=>
      as_aux_lemma=>
      clear bZ;obtain⟨k,hk,rfl,F⟩:=hrel;by_cases be:k<P
      ·have J:decide ((k:Int)<P)=true:=(by simp;omega);have t2:(k:Int)<P:=(by omega);obtain⟨H,Q,aU,R⟩:=F.out;obtain⟨p,hp⟩:∃ p,L[k]? = some p:=⟨_,Aq (by rw[bl.out];exact be)⟩;have aV:=(bk.out p).1 (Az hp);have cP:(p:Int)<P:=(by omega);have bp:=cx.out.below R (by omega);have c0:=mV bp (show D6[k]? = some (p:Int) by rw[HL.out,Ae,hp];rfl);have c1:=bp.lt;have b0:=fQ (aJ.out.trans (R.mono (show c<=a+1 by omega)));have bq:=cr.out.below (show BV l.heap.size l wr by rw[bI.out];exact b0.out);obtain⟨cl,hcl⟩:=bq.get aV;obtain⟨b1,o1,B1,k1,rfl,ax,b2,br⟩:=bq.first aV hcl;have cz:=hcl.small d.out (fun x hx=>hx.range d.out);obtain⟨m,hm⟩:=fX cl.length;rw[hm]at b2 br cz;have HM:=fQ hm;have cA:=fQ br;have aK:=fQ hcl;have W:=fQ hp;have HG:=fQ Q;have cB:=fQ aU;have cD:=fQ R
       have cQ:∀ w,(Instr.makeMap 72 none).run fZ w = .ok (.map (some w.heap.size)) (w.alloc (.map #[] 0)):=fun w=>by simp[Instr.makeMap]
       obtain⟨g,aW⟩:∃ b,wr.heap.size=b:=⟨_,rfl⟩;have b3:=fQ aW;have hsz:=R.size;obtain⟨G,b4⟩:=fX ((cl.map fun x=>H x.toNat));have bs:=fQ b4;clear b4;have b5:=fQ (show IM (wr.alloc (.map #[] 0)) g (setKV (lY [] (G.take 0)))/\BV g wr (wr.alloc (.map #[] 0))from⟨IM.newAt aW,(AY g wr).alloc (Bx aW.symm) _⟩);have cE:(wr.alloc (.map #[] 0)).cell? ⟨b1,o1+p,none⟩=some (.slice B1 m k1):=((AY g wr).alloc (Bx aW.symm) (.map #[] 0)).cell (p:=⟨b1,o1+p,none⟩) (show b1<g by omega) |>.trans b2;have y1:b1<g:=(by omega);clear hp Q aU R bp bq hcl br hm F;obtain⟨X,rfl⟩:∃ X:BZ,X=wr:=⟨_,rfl⟩;go_wp2_with fail;go_loopw [77] (fun i wr=>∃ j:Nat,j<=m/\i = .int .i64 j/\Hid (IM wr g (setKV (lY [] (G.take j)))/\BV g X wr)) (fun i _=>m - (intOf i).toNat)
       case atStart=>exact⟨0,by omega,rfl,b5⟩
       case round=>
        as_aux_lemma=>
        clear b5 c0 cE c1;obtain⟨j,hj,rfl,IZ⟩:=hrel;obtain⟨aL,S⟩:=IZ.out;have b6:=fQ aL;have bt:=fQ S;have aX:=fQ (cB.out.below S (by omega));by_cases cF:j<m
        ·have t3:decide ((j:Int)<m)=true:=(by simp;omega);have t4:(j:Int)<m:=(by omega);obtain⟨q,hq⟩:∃ q,cl[j]? = some q:=⟨_,Aq (by rw[HM.out];exact cF)⟩;have b7:=Clashes.range d.out ((aK.out.2 q).1 (Az hq));rw[U.out]at b7;obtain⟨zq,rfl⟩:∃ z:Nat,q=z:=⟨q.toNat,by omega⟩;have cG:zq<P:=(by omega);have cR:(zq:Int)<P:=(by omega);obtain⟨xb,xo,rfl,cS,cT⟩:=(cA.out.below (show BV X.heap.size X wr by rw[b3.out];exact S) (Aj _)).cell hq;have cU:=mV aX.out (dKk (H:=H) cG);have yH:=aX.out.lt
         have cH:=fQ (show lY [] (G.take (j+1))=ins (lY [] (G.take j)) (H zq)from by
          have cI:G[j]? = some (H zq):=(by rw[<-bs.out,Ae,hq];rfl);obtain⟨h1,h2⟩:=List.getElem?_eq_some_iff.1 cI;rw[Aw h1,h2]
          exact bQg _ _ _)
         clear hq b7 aL S IZ;go_wp2_with (at_mapUpdate;refine bWk _ rfl _ _ _ 72 rfl 3 4 underlying72 underlying3 g (setKV (lY [] (G.take j))) (H zq) (.bool true) rfl rfl rfl b6.out ?_);rintro w' h1 h2 C;rw[aWk,<-cH.out]at h1;have cJ:=fQ (show IM w' g (setKV (lY [] (G.take (j+1))))/\BV g X w' from⟨h1,iK bt.out h2 (by have:=bt.out.size;have:=b3.out;omega) (fun kk b8=>by injection b8 with b8;omega)⟩);clear h1 h2 C;go_wp2;exact⟨⟨j+1,by omega,by simp,cJ⟩,by simp[intOf];omega⟩
        ·have t3:decide ((j:Int)<m)=false:=(by simp;omega);have cK:m=j:=(by omega);obtain⟨s,hs⟩:=fX (lY [] (G.take j));rw[hs]at aL
         have aY:=fQ (show ∀ f,giveV f (cl.map fun x=>H x.toNat)=giveV f s from fun f=>cQu (fun x=>by
          rw[<-hs,aZk,Av (by rw[<-bs.out,AZ,HM.out];omega),bs.out]
          simp))
         have b9:=fQ ((cn.out.below (show BV l.heap.size l wr by rw[bI.out];exact b0.out.trans (S.mono (by omega))) (Aj _)));clear hs;go_wp2_with fail;refine(dYy _ pl (p:Int) _ b9.out ch.out (by rw[cj.out];omega)).mono ?_;rintro E wb ⟨⟨kk,rfl⟩,q,rfl⟩;have bu:=fQ (aL.drewN q);have B:=fQ (aX.out.drewN q);have bw:=fQ (fK (cD.out.trans (S.mono (by omega))) q);obtain⟨wy,cd⟩:=fX (wr.drewN q);rw[cd]at bu B bw ⊢;clear cd aL S b6 bt aX b9 IZ;by_cases Y:AcrossP r p
         ·have hd:decide ((p:Int)∈pl)=true:=(by rw[decide_eq_true_eq];exact(aB.out.2 _).2 Y);rw[hd];have aM:=fQ (GrInv.step (first:=8) HG.out.1 d.out U.out (by omega) aV (bJw bW.out W.out) aK.out (.inl ⟨rfl,Y⟩));rw[aY.out,<-aZh W.out]at aM;have aN:=fQ (HoR.snoc (first:=8) HG.out.2 aK.out (.inl ⟨rfl,Y⟩));rw[aY.out,<-aZh W.out]at aN;clear hd;go_wp2_with fail;refine(cVn g s _ bu.out).mono ?_;rintro E w9 ⟨rfl,rfl⟩;obtain⟨u9,c9⟩:=sY B.out (show p<((Ax P).map H).length by simp;omega);have f9:=frozen_of_row w9 (a+1) p _ _ B.out;have y9:=B.out.lt;go_wp2_with fail;refine⟨⟨k+1,by omega,by simp,fQ (show HoX r P (a+1) L O (k+1) _ from⟨_,⟨aM.out,aN.out⟩,by rw[<-bJv];exact qK B.out p _,bw.out.setCell (p:=⟨a+1,_,none⟩) (Aj _) _⟩)⟩,by simp[intOf];omega⟩
         ·have hd:decide ((p:Int)∈pl)=false:=(by rw[decide_eq_false_iff_not];exact fun h=>Y ((aB.out.2 _).1 h));rw[hd];have aM:=fQ (GrInv.step (first:=0) HG.out.1 d.out U.out (by omega) aV (bJw bW.out W.out) aK.out (.inr ⟨rfl,Y⟩));rw[aY.out,<-aZh W.out]at aM;have aN:=fQ (HoR.snoc (first:=0) HG.out.2 aK.out (.inr ⟨rfl,Y⟩));rw[aY.out,<-aZh W.out]at aN;clear hd;go_wp2_with fail;refine(cVo g s _ bu.out).mono ?_;rintro E w9 ⟨rfl,rfl⟩;obtain⟨u9,c9⟩:=sY B.out (show p<((Ax P).map H).length by simp;omega);have f9:=frozen_of_row w9 (a+1) p _ _ B.out;have y9:=B.out.lt;go_wp2_with fail;refine⟨⟨k+1,by omega,by simp,fQ (show HoX r P (a+1) L O (k+1) _ from⟨_,⟨aM.out,aN.out⟩,by rw[<-bJv];exact qK B.out p _,bw.out.setCell (p:=⟨a+1,_,none⟩) (Aj _) _⟩)⟩,by simp[intOf];omega⟩
      ·have J:decide ((k:Int)<P)=false:=(by simp;omega);have ak:P=k:=(by omega);subst ak;go_wp2_with fail;go_ret2;obtain⟨H,Q,aU,R⟩:=F.out;have cL:L.take P=L:=Av (by rw[bl.out];exact Aj _);obtain⟨Q,hR⟩:=Q;rw[cL]at Q hR;exact .inr (.inr ⟨d.out,P,(Ax P).map H,a+1,U.out,by omega,⟨Q.done (fun p hp=>(bk.out p).2 hp) (fun p hp=>(bk.out p).1 hp),⟨L,H,by rw[cv.out,cw.out,HL.out],hR,rfl⟩⟩,rfl,by omega,aU,cq.out.trans ((aJ.out.mono (by omega)).trans (R.mono (by omega)))⟩)
def CodeO(w:BZ)(base:Nat)(cs:List BK)(c:CodeD):Prop:=∃ a b d,cs = [.int .i64 c.op,.int .u64 (c.n:Int),a,b,d]/\c.ok/\w.ownsRow base 3 1 a c.args.length (i64s c.args)/\w.ownsRow base 3 1 b c.outs.length (i64s c.outs)/\w.ownsRow base 3 1 d c.to.length (i64s c.to)
def CodesO(w:BZ)(base:Nat)(v:BK)(C:List CodeD):Prop:=∃ vs:List (List BK),w.ownsRow base 52 5 v C.length vs.flatten/\vs.length=C.length/\∀ (i:Nat) cs c,vs[i]? = some cs->C[i]? = some c->CodeO w base cs c
theorem CodeO.grown{cs:List BK}{c:CodeD}{r:Option Nat}(h:CodeO w base cs c)(hg:w.grownBy w' r)(hr:∀ g cs,Blk w g 3 cs->r≠some g):CodeO w' base cs c:=by
 obtain⟨a,b,d,e,i,h1,h2,j⟩:=h
 have k:∀ {v:BK} {n:Nat} {xs:List BK},w.ownsRow base 3 1 v n xs->w'.ownsRow base 3 1 v n xs:=fun f=>kV f hg (fun g l=>by
  obtain⟨cur,m⟩:=sW f l
  exact hr g cur m)
 exact⟨a,b,d,e,i,k h1,k h2,k j⟩
theorem CodesO.nil(w:BZ)(base:Nat):CodesO w base (.slice none 0 0) []:=⟨[],World.ownsRow_nil _ _ _ _,rfl,fun i cs c h=>by simp at h⟩
theorem CodesO.below{C:List CodeD}(h:CodesO w base v C)(a:BV w.heap.size w w'):CodesO w' base v C:=by
 obtain⟨vs,h1,h2,b⟩:=h;exact⟨vs,nK h1 a (Aj _),h2,fun i cs c q1 d=>(b i cs c q1 d).grown (rQ a) (fun _ _ _=>by simp)⟩
theorem CodesO.push{w':BZ}{n:Nat}{d:BK}{C:List CodeD}{cs:List BK}{c:CodeD}{vs:List (List BK)}(h1:w.ownsRow base 52 5 v C.length vs.flatten)(h2:vs.length=C.length)(f:∀ (i:Nat) cs c,vs[i]? = some cs->C[i]? = some c->CodeO w base cs c)
  (hc:CodeO w base cs c) (h:w'.ownsRow base 52 5 d (C.length+1) (vs.flatten++cs)) (hg:w.grownBy w' v.ownBlock):CodesO w' base d (C ++ [c]):=by
 have hr:∀ g cs,Blk w g 3 cs->v.ownBlock≠some g:=fun g cs j=>own_ne h1 j (by decide);refine⟨vs ++ [cs],by rw[List.length_append,List.flatten_append];simpa using h,by simp[h2],fun i u x a b=>?_⟩;by_cases hi:i<vs.length
 ·rw[Bj hi]at a;rw[Bj (by omega)]at b;exact(f i u x a b).grown hg hr
 ·rw[Ai (by omega)]at a;rw[Ai (by omega)]at b
  have e:i - vs.length=0:=by
   have:=(List.getElem?_eq_some_iff.1 a).1;simp at this;omega
  rw[e]at a;rw[<-h2,e]at b;simp at a b;subst a;subst b;exact hc.grown hg hr
def RuB(w1:BZ)(c:Nat)(r:RowD)(hs:List Int)(T:Int)(d:BK)(C:List CodeD)(wr:BZ):Prop:=∃ a b p,Blk wr c 43 #[a,b,.int .i64 T,p,d]/\wr.ownsRow w1.heap.size 3 1 a r.sig.inn.length (i64s r.sig.inn)/\wr.ownsRow w1.heap.size 3 1 b r.sig.out.length (i64s r.sig.out)/\wr.ownsRow w1.heap.size 3 1 p r.params.length (i64s (kY hs r.params))/\CodesO wr w1.heap.size d C/\BV w1.heap.size w1 wr/\w1.heap.size<=c
theorem RuB.mk1{c:BZ}{r:RowD}{p:BK}(e:c.ownsRow w1.heap.size 3 1 a r.sig.inn.length (i64s r.sig.inn))(f:c.ownsRow w1.heap.size 3 1 b r.sig.out.length (i64s r.sig.out))(g:c.ownsRow w1.heap.size 3 1 p r.params.length (i64s (kY hs r.params)))(d:BV w1.heap.size w1 c):
  RuB w1 c.heap.size r hs 16 (.slice none 0 0) [] (c.alloc (.cells #[a,b,.int .i64 16,p,.slice none 0 0] 43)):=
 ⟨a,b,p,Blk.new _ _ _,iJ e _,iJ f _,iJ g _,CodesO.nil _ _,d.alloc d.size _,d.size⟩
theorem bJa{xs:List BK}{cs:Array BK}(h:w.ownsRow base 3 1 v n xs)(f:Blk w g 43 cs)(a b c d e:BK):(((((w.setCell ⟨g,0,none⟩ a).setCell ⟨g,1,none⟩ b).setCell ⟨g,2,none⟩ c).setCell ⟨g,3,none⟩ d).setCell ⟨g,4,none⟩ e).ownsRow base 3 1 v n xs:=by
 have hn:=own_ne h f (by decide);exact gY (gY (gY (gY (gY h hn) hn) hn) hn) hn
theorem RuB.mk2{d:BZ}{r:RowD}{p:BK}{c:Nat}{e c1 f g i:BK}(j:d.ownsRow w1.heap.size 3 1 a r.sig.inn.length (i64s r.sig.inn))(k:d.ownsRow w1.heap.size 3 1 b r.sig.out.length (i64s r.sig.out))(l:d.ownsRow w1.heap.size 3 1 p r.params.length (i64s (kY hs r.params)))(m:BV w1.heap.size w1 d)
  (kz:Blk d c 43 #[e,c1,f,g,i]) (hz:w1.heap.size<=c) :
  RuB w1 c r hs 16 (.slice none 0 0) [] (((((d.setCell ⟨c,0,none⟩ a).setCell ⟨c,1,none⟩ b).setCell ⟨c,2,none⟩ (.int .i64 16)).setCell ⟨c,3,none⟩ p).setCell ⟨c,4,none⟩ (.slice none 0 0)):=by
 refine⟨a,b,p,?_,bJa j kz _ _ _ _ _,bJa k kz _ _ _ _ _,bJa l kz _ _ _ _ _,CodesO.nil _ _,sQ m hz _ _ _ _ _,hz⟩;have h:=fV (fV (fV (fV (fV kz 0 a) 1 b) 2 (.int .i64 16)) 3 p) 4 (.slice none 0 0)
 simpa using h
theorem CodeO.other{cs:List BK}{c:CodeD}{ks:Array BK}(h:CodeO w base cs c)(f:Blk w g t ks)(j:3≠t)(u:BK):CodeO (w.setCell ⟨g,i,none⟩ u) base cs c:=by
 obtain⟨a,b,d,e,l,h1,h2,k⟩:=h;exact⟨a,b,d,e,l,gY h1 (own_ne h1 f j),gY h2 (own_ne h2 f j),gY k (own_ne k f j)⟩
theorem CodesO.other{w:BZ}{base g i:Nat}{v:BK}{C:List CodeD}{ks:Array BK}(h:CodesO w base v C)(a:Blk w g 43 ks)(u:BK):CodesO (w.setCell ⟨g,i,none⟩ u) base v C:=by
 obtain⟨vs,h1,h2,b⟩:=h;exact⟨vs,gY h1 (own_ne h1 a (by decide)),h2,fun j cs c q1 d=>(b j cs c q1 d).other a (by decide) u⟩
theorem CodesO.row{C:List CodeD}(h:CodesO w base v C):∃ xs,w.ownsRow base 52 5 v C.length xs:=by
 obtain⟨vs,h1,_⟩:=h;exact⟨_,h1⟩
theorem CodesO.fXp{C:List CodeD}(h:CodesO w base v C)(f:Blk w g 43 #[x0,x1,x2,x3,x4])(a b c d e:BK):CodesO (((((w.setCell ⟨g,0,none⟩ a).setCell ⟨g,1,none⟩ b).setCell ⟨g,2,none⟩ c).setCell ⟨g,3,none⟩ d).setCell ⟨g,4,none⟩ e) base v C:=
 ((((h.other f a).other (fV f 0 a) b).other (fV (fV f 0 a) 1 b) c).other (fV (fV (fV f 0 a) 1 b) 2 c) d).other (fV (fV (fV (fV f 0 a) 1 b) 2 c) 3 d) e
theorem CodesO.mono{C:List CodeD}(h:CodesO w base v C)(f:g<=base):CodesO w g v C:=by
 obtain⟨vs,h1,h2,j⟩:=h;refine⟨vs,jX h1 f,h2,fun i cs c q1 k=>?_⟩;obtain⟨a,b,d,e,l,m,k2,n⟩:=j i cs c q1 k;exact⟨a,b,d,e,l,jX m f,jX k2 f,jX n f⟩
theorem RuB.fXq{e:Nat}{r:RowD}{T:Int}{C:List CodeD}(h:RuB w1 e r hs T d C wr)(T':Int):RuB w1 e r hs T' d C (wr.setCell ⟨e,2,none⟩ (.int .i64 T')):=by
 obtain⟨a,b,p,c,f,g,op,i,j,hg⟩:=h;have k:=fV c 2 (.int .i64 T');exact⟨a,b,p,by simpa using k,gY f (own_ne f c (by decide)),gY g (own_ne g c (by decide)),gY op (own_ne op c (by decide)),i.other c _,j.setCell (p:=⟨e,2,none⟩) hg _,hg⟩
def eJb(e:EnvD)(r:RowD)(w:BZ)(c:Ending)(w':BZ):Prop:=
  (¬CheckP e r/\c = .returned (.tuple #[.agg #[.slice none 0 0,.slice none 0 0,.int .i64 0,.slice none 0 0,.slice none 0 0],.int .i64 6])/\BV w.heap.size w w') \/
  (CheckP e r/\2032<r.places/\c = .returned (.tuple #[.agg #[.slice none 0 0,.slice none 0 0,.int .i64 0,.slice none 0 0,.slice none 0 0],.int .i64 15])/\BV w.heap.size w w') \/
  (CheckP e r/\∃ (P:Nat) (hs:List Int) (a b p d:BK),r.places=P/\P<=2032/\RightX r P hs/\c = .returned (.tuple #[.agg #[a,b,.int .i64 (oY hs),p,d],.int .i64 0]) /\
    w'.ownsRow w.heap.size 3 1 a r.sig.inn.length (i64s r.sig.inn)/\w'.ownsRow w.heap.size 3 1 b r.sig.out.length (i64s r.sig.out)/\w'.ownsRow w.heap.size 3 1 p r.params.length (i64s (kY hs r.params))/\CodesO w' w.heap.size d (r.code.map (tJ hs))/\BV w.heap.size w w')
theorem zW{a:BZ}(h:BV w.heap.size w w1)(b:BV w1.heap.size w1 a):BV w.heap.size w a:=h.trans (b.mono h.size)
theorem aQl{s1:Nat}{c:BK}(e:w1.cell? ⟨s1,0,none⟩=some a)(f:w1.cell? ⟨s1,1,none⟩=some b)(g:w1.cell? ⟨s1,3,none⟩=some c)(hs:s1<w1.heap.size)(d:BV w1.heap.size w1 w'):
  w'.cell? ⟨s1,0,none⟩=some a/\w'.cell? ⟨s1,1,none⟩=some b/\w'.cell? ⟨s1,3,none⟩=some c/\BV w1.heap.size w1 w':=
 ⟨(d.cell (p:=⟨s1,0,none⟩) hs).trans e,(d.cell (p:=⟨s1,1,none⟩) hs).trans f,(d.cell (p:=⟨s1,3,none⟩) hs).trans g,d⟩
theorem aXb{s1:Nat}{c:BK}(h:w'.cell? ⟨s1,0,none⟩=some a/\w'.cell? ⟨s1,1,none⟩=some b/\w'.cell? ⟨s1,3,none⟩=some c/\BV w1.heap.size w1 w'):BV w1.heap.size w1 w':=h.2.2.2
theorem aZu{o:Obj}(h:BV w.heap.size w w1):BV w.heap.size w (w1.alloc o):=h.alloc h.size o
theorem tV{xs:List BK}(h:w.ownsRow base e 1 v n xs)(a:BV w.heap.size w w'):w'.ownsRow base e 1 v n xs:=nK h a (Aj _)
theorem aVc{o:Obj}{xs:List BK}(h:w.ownsRow base e 1 v n xs)(a:BV (w.alloc o).heap.size (w.alloc o) w'):w'.ownsRow base e 1 v n xs:=nK (iJ h o) a (Aj _)
theorem aWh{e wc:BZ}{c:BK}(g:BV (e.alloc (.cells #[a,b,c,d,f] t)).heap.size (e.alloc (.cells #[a,b,c,d,f] t)) wc):Blk wc e.heap.size t #[a,b,c,d,f]:=(Blk.new e t #[a,b,c,d,f]).below g (by simp)
theorem aVd{e wc:BZ}{c:BK}(g:BV (e.alloc (.cells #[a,b,c,d,f] t)).drew.heap.size (e.alloc (.cells #[a,b,c,d,f] t)).drew wc):Blk wc e.heap.size t #[a,b,c,d,f]:=((Blk.new e t #[a,b,c,d,f]).drew).below g (by show e.heap.size<(e.alloc _).heap.size;simp)
theorem eQc(w:BZ){o:Obj}:BV w.heap.size w (w.alloc o).drew:=by
 have h:=(AY w.heap.size w).alloc (Aj _) o;exact⟨h.os,h.tape,h.output,h.size,h.block⟩
theorem xK(w:BZ):BV w.heap.size w w.drew:=⟨rfl,rfl,rfl,Aj _,fun _ _=>rfl⟩
theorem eJc(a b c d e:BK)(ha:a.oneCell'=true)(hb:b.oneCell'=true)(hc:c.oneCell'=true)(hd:d.oneCell'=true)(he:e.oneCell'=true):∀ u ∈ [a,b,c,d,e],u.oneCell'=true:=by
 intro u f;simp only[BJ,By,or_false]at f;rcases f with rfl | rfl | rfl | rfl | rfl <;> assumption
theorem cVs{c:CodeD}{o:Obj}(e:c.ok)(f:w.ownsRow base 3 1 a c.args.length (i64s (kY hs c.args)))(g:w.ownsRow base 3 1 b c.outs.length (i64s (kY hs c.outs)))(h:w.ownsRow base 3 1 d c.to.length (i64s c.to))(_:Blk (w.alloc o) w.heap.size t #[x0,x1,a,b,d]):
  CodeO (w.alloc o) base [.int .i64 c.op,.int .u64 (c.n:Int),a,b,d] (tJ hs c):=by
 refine⟨a,b,d,rfl,e,?_,?_,iJ h o⟩
 ·show(w.alloc o).ownsRow base 3 1 a (kY hs c.args).length (i64s (kY hs c.args));rw[vX];exact iJ f o
 ·show(w.alloc o).ownsRow base 3 1 b (kY hs c.outs).length (i64s (kY hs c.outs));rw[vX];exact iJ g o
theorem bXl{e:EnvD}{r:RowD}{c:CodeD}(a:codeOk e r c=true):c.to.length<=100:=by
 have h2:=zZ a;have h3:nJ c.op<=65:=(by unfold nJ;split;omega;split <;> omega);omega
theorem cJd:(fZ.info? 52).map (fun i=>(i.zero,i.size,i.bytes))=some (some (.agg #[.int .i64 0,.int .u64 0,.slice none 0 0,.slice none 0 0,.slice none 0 0]),5,88):=by kernel_rfl
theorem aKk(h:w.cell? ⟨N,0,none⟩=some x0/\w.cell? ⟨N,1,none⟩=some x1/\w.cell? ⟨N,2,none⟩=some x2/\w.cell? ⟨N,3,none⟩=some x3/\w.cell? ⟨N,4,none⟩=some x4/\N<w.heap.size/\BV w1.heap.size w1 w)(a:BV w.heap.size w w'):w'.cell? ⟨N,0,none⟩=some x0/\w'.cell? ⟨N,1,none⟩=some x1/\w'.cell? ⟨N,2,none⟩=some x2/\w'.cell? ⟨N,3,none⟩=some x3/\w'.cell? ⟨N,4,none⟩=some x4/\N<w'.heap.size/\BV w1.heap.size w1 w':=by
 obtain⟨c,h1,h2,d,e,b,f⟩:=h;have k:∀ i,w'.cell? ⟨N,i,none⟩=w.cell? ⟨N,i,none⟩:=fun i=>a.cell (p:=⟨N,i,none⟩) b;exact⟨(k 0).trans c,(k 1).trans h1,(k 2).trans h2,(k 3).trans d,(k 4).trans e,Ay b a.size,zW f a⟩
theorem dKn{o:Obj}(h:w.cell? ⟨N,0,none⟩=some x0/\w.cell? ⟨N,1,none⟩=some x1/\w.cell? ⟨N,2,none⟩=some x2/\w.cell? ⟨N,3,none⟩=some x3/\w.cell? ⟨N,4,none⟩=some x4/\N<w.heap.size/\BV w1.heap.size w1 w):(w.alloc o).cell? ⟨N,0,none⟩=some x0/\(w.alloc o).cell? ⟨N,1,none⟩=some x1/\(w.alloc o).cell? ⟨N,2,none⟩=some x2/\(w.alloc o).cell? ⟨N,3,none⟩=some x3/\(w.alloc o).cell? ⟨N,4,none⟩=some x4/\N<(w.alloc o).heap.size/\BV w1.heap.size w1 (w.alloc o):=aKk h ((AY _ _).alloc (Aj _) _)
theorem eQd(h:w.cell? ⟨N,0,none⟩=some x0/\w.cell? ⟨N,1,none⟩=some x1/\w.cell? ⟨N,2,none⟩=some x2/\w.cell? ⟨N,3,none⟩=some x3/\w.cell? ⟨N,4,none⟩=some x4/\N<w.heap.size/\BV w1.heap.size w1 w):w.drew.cell? ⟨N,0,none⟩=some x0/\w.drew.cell? ⟨N,1,none⟩=some x1/\w.drew.cell? ⟨N,2,none⟩=some x2/\w.drew.cell? ⟨N,3,none⟩=some x3/\w.drew.cell? ⟨N,4,none⟩=some x4/\N<w.drew.heap.size/\BV w1.heap.size w1 w.drew:=aKk h (xK w)
theorem aXl(h:w.cell? ⟨N,0,none⟩=some x0/\w.cell? ⟨N,1,none⟩=some x1/\w.cell? ⟨N,2,none⟩=some x2/\w.cell? ⟨N,3,none⟩=some x3/\w.cell? ⟨N,4,none⟩=some x4/\N<w.heap.size/\BV w1.heap.size w1 w):BV w1.heap.size w1 w:=h.2.2.2.2.2.2
theorem dKo{r:Option Nat}(h:w.cell? ⟨N,0,none⟩=some x0/\w.cell? ⟨N,1,none⟩=some x1/\w.cell? ⟨N,2,none⟩=some x2/\w.cell? ⟨N,3,none⟩=some x3/\w.cell? ⟨N,4,none⟩=some x4/\N<w.heap.size/\BV w1.heap.size w1 w)(hg:w.grownBy w' r)(hr:∀ j,r=some j->w1.heap.size<=j/\j≠N):w'.cell? ⟨N,0,none⟩=some x0/\w'.cell? ⟨N,1,none⟩=some x1/\w'.cell? ⟨N,2,none⟩=some x2/\w'.cell? ⟨N,3,none⟩=some x3/\w'.cell? ⟨N,4,none⟩=some x4/\N<w'.heap.size/\BV w1.heap.size w1 w':=by
 obtain⟨c,h1,h2,d,f,a,b⟩:=h;have k:∀ i,w'.cell? ⟨N,i,none⟩=w.cell? ⟨N,i,none⟩:=fun i=>World.cell?_of_block (hg.block N a (fun e=>(hr N e.symm).2 rfl));exact⟨(k 0).trans c,(k 1).trans h1,(k 2).trans h2,(k 3).trans d,(k 4).trans f,Ay a hg.size,iK b hg b.size (fun j hj=>(hr j hj).1)⟩
theorem eJd{a:Nat}{u:BK}(h:w.cell? ⟨N,0,none⟩=some x0/\w.cell? ⟨N,1,none⟩=some x1/\w.cell? ⟨N,2,none⟩=some x2/\w.cell? ⟨N,3,none⟩=some x3/\w.cell? ⟨N,4,none⟩=some x4/\N<w.heap.size/\BV w1.heap.size w1 w)(b:N≠a)(c:w1.heap.size<=a):(w.setCell ⟨a,i,none⟩ u).cell? ⟨N,0,none⟩=some x0/\(w.setCell ⟨a,i,none⟩ u).cell? ⟨N,1,none⟩=some x1/\(w.setCell ⟨a,i,none⟩ u).cell? ⟨N,2,none⟩=some x2/\(w.setCell ⟨a,i,none⟩ u).cell? ⟨N,3,none⟩=some x3/\(w.setCell ⟨a,i,none⟩ u).cell? ⟨N,4,none⟩=some x4/\N<(w.setCell ⟨a,i,none⟩ u).heap.size/\BV w1.heap.size w1 (w.setCell ⟨a,i,none⟩ u):=by
 obtain⟨d,h1,h2,e,f,g,l⟩:=h;have k:∀ j,(w.setCell ⟨a,i,none⟩ u).cell? ⟨N,j,none⟩=w.cell? ⟨N,j,none⟩:=fun j=>World.cell?_of_block (heap_setCell_other w ⟨a,i,none⟩ N u b);exact⟨(k 0).trans d,(k 1).trans h1,(k 2).trans h2,(k 3).trans e,(k 4).trans f,by simpa using g,l.setCell (p:=⟨a,i,none⟩) c _⟩
theorem RuB.below{w1 w w':BZ}{e:Nat}{r:RowD}{hs:List Int}{T:Int}{d:BK}{C:List CodeD}(h:RuB w1 e r hs T d C w)(c:BV w.heap.size w w'):RuB w1 e r hs T d C w':=by
 obtain⟨a,b,p,f,g,i,op,j,k,hg⟩:=h;exact⟨a,b,p,f.below c f.lt,tV g c,tV i c,tV op c,j.below c,zW k c,hg⟩
theorem RuB.push{w1 w w':BZ}{e n:Nat}{r:RowD}{hs:List Int}{T:Int}{d m a b p:BK}{C:List CodeD}{cs:List BK}{c:CodeD}{vs:List (List BK)}
  (q:Blk w e 43 #[a,b,.int .i64 T,p,d]) (s:w.ownsRow w1.heap.size 3 1 a r.sig.inn.length (i64s r.sig.inn)) (t:w.ownsRow w1.heap.size 3 1 b r.sig.out.length (i64s r.sig.out)) (op:w.ownsRow w1.heap.size 3 1 p r.params.length (i64s (kY hs r.params))) (h1:w.ownsRow w1.heap.size 52 5 d C.length vs.flatten) (h2:vs.length=C.length) (x:∀ (i:Nat) cs c,vs[i]? = some cs->C[i]? = some c->CodeO w w1.heap.size cs c) (u:BV w1.heap.size w1 w) (hg:w1.heap.size<=e)
  (hc:CodeO w w1.heap.size cs c) (y:w'.ownsRow w1.heap.size 52 5 m (C.length+1) (vs.flatten++cs)) (o:w.grownBy w' d.ownBlock):RuB w1 e r hs T m (C ++ [c]) (w'.setCell ⟨e,4,none⟩ m):=by
 have z:d.ownBlock≠some e:=own_ne h1 q (by decide);have A:∀ g cs,Blk w g 3 cs->d.ownBlock≠some g:=fun g cs k=>own_ne h1 k (by decide)
 have f:∀ {v:BK} {n:Nat} {xs:List BK},w.ownsRow w1.heap.size 3 1 v n xs->w'.ownsRow w1.heap.size 3 1 v n xs:=fun h=>kV h o (fun g B=>by
  obtain⟨cur,k⟩:=sW h B
  exact A g cur k)
 have l:=q.grown o z;have k:=fV l 4 m;refine⟨a,b,p,by simpa using k,gY (f s) (own_ne (f s) l (by decide)),gY (f t) (own_ne (f t) l (by decide)),gY (f op) (own_ne (f op) l (by decide)),(CodesO.push (n:=n) h1 h2 x hc y o).other l _,(iK u o u.size (fun j hj=>(h1.lt j hj).1)).setCell (p:=⟨e,4,none⟩) hg _,hg⟩
theorem dKp(f:Blk w g t #[x0,x1,x2,x3,x4])(a b c d e:BK):Blk (((((w.setCell ⟨g,0,none⟩ a).setCell ⟨g,1,none⟩ b).setCell ⟨g,2,none⟩ c).setCell ⟨g,3,none⟩ d).setCell ⟨g,4,none⟩ e) g t #[a,b,c,d,e]:=by
 have h:=fV (fV (fV (fV (fV f 0 a) 1 b) 2 c) 3 d) 4 e
 simpa using h
theorem cQv(f:Array BK)(W:BZ)(g:Nat)(a b c d e x:BK)(h:f.getD 4 undef = .pointer (some ⟨g,0,none⟩))(i:f.getD 5 undef=x)(k:Blk W g 43 #[a,b,c,d,e]):
  (results Tryz.f29 f).run fZ W = .ok (.tuple #[.agg #[a,b,c,d,e],x]) W:=by
 obtain⟨j,l,m,n,o⟩:=gQ k;simp only[Array.getD_eq_getD_getElem?]at h i;simp[results,results29,go_sem,h,i,j,l,m,n,o]
theorem cWd(e:EnvD)(r:RowD)(ve vr vh:BK)(hs:List Int)(P:Nat)(w:BZ)(he:EnvV w ve e)(hr:RowV w vr r)(hc:CheckP e r)(hP:r.places=P)(bq:P<=2032)(hR:RightP r P hs)(hh:IR w vh hs):
  Calls fZ 32 #[ve,vr,vh] w fun en w'=>en = .returned (.bool true)/\BV w.heap.size w w':=by
 have HE:=fQ he;have aA:=fQ hr;obtain⟨va,vb,vd,rfl,h1,h2,h3⟩:=he;obtain⟨vp,vq,ae,vs,rfl,h4,h5,h6,Q⟩:=hr;clear h1 h2 h3 h4 h5 h6 Q;have aR:=fQ hh;obtain⟨Ah,ch,rfl,_⟩:=hh;have J:=fQ hR.len;rw[hR.len]at aR ⊢;rw[hP]at aA ⊢;have K:=fQ hc;have HP:=fQ hP;have ax:=fQ hR;clear hc hP hR;have R:=fQ (al2 w (.cells #[va,.int .i64 e.imports,vb,vd,.bool e.mem] 26) (.cells #[vp,vq,.int .i64 (P:Int),ae,vs] 43));have t:=fQ (Blk.newAt (w.alloc (.cells #[va,.int .i64 e.imports,vb,vd,.bool e.mem] 26)) (N:=w.heap.size+1) 43 #[vp,vq,.int .i64 (P:Int),ae,vs] (by simp));have aB:=fQ (Blk.alloc (Blk.new w 26 #[va,.int .i64 e.imports,vb,vd,.bool e.mem]) (.cells #[vp,vq,.int .i64 (P:Int),ae,vs] 43));obtain⟨u,v,A,B,C⟩:=gQ t.out;have y1:=t.out.lt;have tP:((P:Int) != (P:Int))=false:=(by simp);obtain⟨sP,br⟩:∃ s,16+P=s:=⟨_,rfl⟩;have wP:IntKind.i64.wrap (16+(P:Int))=(sP:Int):=(by rw[show(16:Int)+(P:Int)=(sP:Int) by omega];exact IntWalk.i64_in _ (by omega));go_in;go_wp2_with fail;clear u v A B C y1;obtain⟨w0,aS⟩:=fX ((w.alloc (.cells #[va,.int .i64 e.imports,vb,vd,.bool e.mem] 26)).alloc (.cells #[vp,vq,.int .i64 (P:Int),ae,vs] 43));rw[aS]at R t aB ⊢;clear aS;have ay:=fQ (aR.out.below R.out (Aj _));go_loopw [7,8] (fun mv i wr=>∃ (k:Nat) (M:Int),k<=P/\i = .int .i64 k/\mv = .int .i64 M/\15<=M/\M<=2048/\Hid (M=15\/M∈hs)/\Hid (∃ q,wr=w0.drewN q)) (fun _ i _=>P - (intOf i).toNat)
 case atStart=>exact⟨0,15,by omega,rfl,rfl,by omega,by omega,fQ (.inl rfl),fQ ⟨0,rfl⟩⟩
 case round=>
  obtain⟨k,M,hk,rfl,rfl,bs,bt,HM,a⟩:=hrel;obtain⟨q,hq⟩:=a.out;subst hq;have aT:=fQ (fK R.out q);obtain⟨u,v,A,B,C⟩:=gQ t.out;have y1:=t.out.lt;by_cases D:k<P
  ·have S:decide ((k:Int)<P)=true:=(by simp;omega);have T:(k:Int)<P:=(by omega);obtain⟨x,c⟩:∃ x,hs[k]? = some x:=⟨_,Aq (by rw[J.out];exact D)⟩;have aC:=ax.out.ok x (Az c);obtain⟨hb,ho,rfl,aD,aU⟩:=ay.out.cell c;obtain⟨d,rfl⟩:∃ z:Nat,x=z:=⟨x.toNat,by omega⟩;have s1:decide ((d:Int)<0)=false:=(by simp);have s2:((d:Int) == 15)=false:=(by simp;omega);have s3:decide ((sP:Int)<=(d:Int))=false:=(by simp;omega);have bu:decide (sP<=d)=false:=(by simp;omega);have HX:=fQ c;have a7:=fQ (Az c);have bw:d<2048:=(by omega)
   have aV:=fQ (show max M (d:Int)=15\/max M (d:Int)∈hs from by
    rcases Int.le_total M d with h | h
    ·rw[Int.max_eq_right h];exact .inr a7.out
    ·rw[Int.max_eq_left h];exact HM.out)
   by_cases Q:P<=7
   ·have s4:decide ((P:Int)<=7)=true:=(by simp;omega);have s5:decide ((16:Int)<=(d:Int))=false:=(by have:=aC.2.2.2 Q;simp;omega);clear c aC Q;go_wp2_with fail;go_quiet (fail);go_wp2_with fail;exact⟨⟨k+1,max M d,by omega,by simp,rfl,by omega,by omega,aV,fQ ⟨_,rfl⟩⟩,by simp[intOf];omega⟩
   ·have s4:decide ((P:Int)<=7)=false:=(by simp;omega);clear c aC Q;go_wp2_with fail;go_quiet (fail);go_wp2_with fail;exact⟨⟨k+1,max M d,by omega,by simp,rfl,by omega,by omega,aV,fQ ⟨_,rfl⟩⟩,by simp[intOf];omega⟩
  ·as_aux_lemma=>
   have S:decide ((k:Int)<P)=false:=(by simp;omega);have l:=fQ (show ∃ q',w0.drewN q=w0.drewN q' from⟨q,rfl⟩);obtain⟨wa,p⟩:=fX (w0.drewN q);rw[p]at l aT a ⊢;clear p u v A B C y1;go_wp2_with fail;go_loopw [9] (fun sv wr=>∃ s:Nat,16<=s/\(s:Int)<=M+1/\sv = .int .i64 s/\Hid (∃ q,wr=w0.drewN q)) (fun sv _=>(M+1 - intOf sv).toNat)
   case atStart=>exact⟨16,by omega,by omega,rfl,l⟩
   case round=>
    as_aux_lemma=>
    clear l a aT S;obtain⟨s,bx,bz,rfl,a⟩:=hrel;obtain⟨q,hq⟩:=a.out;subst hq;by_cases aE:(s:Int)<=M
    ·have S:decide ((s:Int)<=M)=true:=by simpa using aE
     have a8:=fQ (show(s:Int)∈hs from by
      rcases HM.out with h | h
      ·omega
      ·exact ax.out.gap s M (by omega) h aE)
     go_wp2_with fail;go_loopw [10,11] (fun tv i wr=>∃ k:Nat,k<=P/\i = .int .i64 k/\tv = .bool (decide ((s:Int)∈hs.take k))/\Hid (∃ q,wr=w0.drewN q)) (fun _ i _=>P - (intOf i).toNat)
     case atStart=>exact⟨0,by omega,rfl,by simp,a⟩
     case round=>
      clear a;obtain⟨k,hk,rfl,rfl,a⟩:=hrel;obtain⟨q,hq⟩:=a.out;subst hq;by_cases D:k<P
      ·have T:decide ((k:Int)<P)=true:=(by simp;omega);have t3:(k:Int)<P:=(by omega);obtain⟨x,c⟩:∃ x,hs[k]? = some x:=⟨_,Aq (by rw[J.out];exact D)⟩;obtain⟨hb,ho,rfl,aD,aU⟩:=ay.out.cell c;have aW:=oQ (y:=(s:Int)) c;have aF:=fQ aW;clear c aW;by_cases E:(s:Int)∈hs.take k
       ·have hd:=decide_eq_true E;have U:=fQ (show decide ((s:Int)∈hs.take (k+1))=true from decide_eq_true (aF.out.2 (.inl E)));rw[hd];clear E hd;go_wp2_with fail;exact⟨⟨k+1,by omega,by simp,by rw[U.out],a⟩,by simp[intOf];omega⟩
       ·have hd:=decide_eq_false E;rw[hd];by_cases L:x=(s:Int)
        ·have V:(x == (s:Int))=true:=(by simp[L]);have U:=fQ (show decide ((s:Int)∈hs.take (k+1))=true from decide_eq_true (aF.out.2 (.inr L.symm)));clear E hd L;go_wp2_with fail;exact⟨⟨k+1,by omega,by simp,by rw[U.out],a⟩,by simp[intOf];omega⟩
        ·have V:(x == (s:Int))=false:=by simp[L]
         have U:=fQ (show decide ((s:Int)∈hs.take (k+1))=false from decide_eq_false (fun h=>by
          rcases aF.out.1 h with h | h
          ·exact E h
          ·exact L h.symm))
         clear E hd L;go_wp2_with fail;exact⟨⟨k+1,by omega,by simp,by rw[U.out],a⟩,by simp[intOf];omega⟩
      ·have T:decide ((k:Int)<P)=false:=(by simp;omega);have hd:decide ((s:Int)∈hs.take k)=true:=(by rw[Av (by rw[J.out];omega)];exact decide_eq_true a8.out);rw[hd];clear hd;go_wp2_with fail;exact⟨⟨s+1,by omega,by omega,by simp,a⟩,by simp[intOf];omega⟩
    ·as_aux_lemma=>
     have S:decide ((s:Int)<=M)=false:=(by simpa using aE);have b:=fQ (fK R.out q);have f:=fQ (t.out.drewN q);have g:=fQ (aB.out.drewN q);have F:=fQ (ay.out.drewN q);obtain⟨wa,p⟩:=fX (w0.drewN q);rw[p]at b f g F a ⊢;clear p a t aB ay R;obtain⟨u,v,A,B,C⟩:=gQ f.out;obtain⟨e0,n,e2,e3,e4⟩:=gQ g.out;have y1:=f.out.lt;have y2:=g.out.lt;go_wp2_with fail;refine(cJr e r _ _ _ (HE.out.below b.out (Aj _)) (aA.out.below b.out (Aj _))).mono ?_;rintro en W (⟨aG,_,_⟩ | ⟨_,vC,rfl,hT,X⟩)
     ·exact absurd K.out aG
     rw[show r.places.toNat=P from by rw[HP.out];rfl]at hT;obtain⟨AC,cC,rfl⟩:=hT.shape;have HT:=fQ hT;have aX:=fQ (b.out.trans (X.mono b.out.size));have aY:=fQ (f.out.below X f.out.lt);have aZ:=fQ (g.out.below X g.out.lt);have az:=fQ (F.out.below X (Aj _));clear hT X u v A B C e0 n e2 e3 e4 y1 y2 f g F b S;have l:=fQ (show ∃ q',W=W.drewN q' from⟨0,rfl⟩);go_wp2_with fail;go_loopw [14] (fun i wr=>∃ k:Nat,k<=P/\i = .int .i64 k/\Hid (∃ q,wr=W.drewN q)) (fun i _=>P - (intOf i).toNat)
     case atStart=>exact⟨0,by omega,rfl,l⟩
     case round=>
      as_aux_lemma=>
      clear l;obtain⟨k,hk,rfl,a⟩:=hrel;obtain⟨q,hq⟩:=a.out;subst hq;by_cases D:k<P
      ·have T:decide ((k:Int)<P)=true:=(by simp;omega);have t3:(k:Int)<P:=(by omega);obtain⟨cl,hcl⟩:=HT.out.get D;obtain⟨b1,o1,B1,k1,rfl,bD,ba,aH⟩:=HT.out.first D hcl;have bb:=hcl.small K.out (fun x c=>c.range K.out);obtain⟨m,hm⟩:=fX cl.length;rw[hm]at ba aH bb;have bc:=fQ hm;have bd:=fQ aH;have be:=fQ hcl;obtain⟨xa,aI⟩:∃ x,hs[k]? = some x:=⟨_,Aq (by rw[J.out];exact D)⟩;have bf:=fQ aI;obtain⟨hb,ho,rfl,aD,aU⟩:=az.out.cell aI;clear hcl aH hm aI;go_wp2_with fail;go_loopw [15] (fun i wr=>∃ j:Nat,j<=m/\i = .int .i64 j/\Hid (∃ q,wr=W.drewN q)) (fun i _=>m - (intOf i).toNat)
       case atStart=>exact⟨0,by omega,rfl,a⟩
       case round=>
        clear a;obtain⟨j,hj,rfl,a⟩:=hrel;obtain⟨q,hq⟩:=a.out;subst hq;by_cases aJ:j<m
        ·have V:decide ((j:Int)<m)=true:=(by simp;omega);have t5:(j:Int)<m:=(by omega);obtain⟨y,G⟩:∃ y,cl[j]? = some y:=⟨_,Aq (by rw[bc.out];exact aJ)⟩;have H:=(be.out.2 y).1 (Az G);have Y:=Clashes.range K.out H;rw[HP.out]at Y;obtain⟨o,rfl⟩:∃ z:Nat,y=z:=⟨y.toNat,by omega⟩;have aK:o<P:=(by omega);have bg:(o:Int)<P:=(by omega);obtain⟨cb,co,rfl,bj,aL⟩:=bd.out.cell G;obtain⟨Z,I⟩:∃ x,hs[o]? = some x:=⟨_,Aq (by rw[J.out];exact aK)⟩;obtain⟨bk,bl,n,_,aM⟩:=az.out.cell I;injection n with n;injection n with n e2;subst n;subst e2;have a1:=ax.out.cl k o xa Z bf.out I H;have t6:(xa == Z)=false:=(by simpa using a1);clear G H Y I a1;go_wp2_with fail;go_quiet (fail);go_wp2_with fail;exact⟨⟨j+1,by omega,by simp,fQ ⟨_,rfl⟩⟩,by simp[intOf];omega⟩
        ·have V:decide ((j:Int)<m)=false:=(by simp;omega);go_wp2_with fail;exact⟨⟨k+1,by omega,by simp,a⟩,by simp[intOf];omega⟩
      ·as_aux_lemma=>
       have T:decide ((k:Int)<P)=false:=(by simp;omega);have b:=fQ (fK aX.out q);have f:=fQ (aY.out.drewN q);have g:=fQ (aZ.out.drewN q);have F:=fQ (az.out.drewN q);obtain⟨wa,p⟩:=fX (W.drewN q);rw[p]at b f g F a ⊢;clear p a aY aZ az aX HT;obtain⟨u,v,A,B,C⟩:=gQ f.out;obtain⟨e0,n,e2,e3,e4⟩:=gQ g.out;have y1:=f.out.lt;have y2:=g.out.lt;go_wp2_with fail;refine(cXd e r _ _ _ (HE.out.below b.out (Aj _)) (aA.out.below b.out (Aj _))).mono ?_;rintro en w3 (⟨aG,_,_⟩ | ⟨_,v3,pl,rfl,aN,bm,aw,aO⟩)
       ·exact absurd K.out aG
       obtain⟨Aa,ca,rfl,_⟩:=fW aN;have aP:=fQ aw;have a6:=fQ (IR.own aN);obtain⟨O,aQ⟩:∃ m,pl.length=m:=⟨_,rfl⟩;have bn:=fQ aQ;rw[aQ]at a6 bm ⊢;have bo:=fQ (b.out.trans (aO.mono b.out.size));have bp:=fQ (F.out.below aO (Aj _));have l:=fQ (show ∃ q',w3=w3.drewN q' from⟨0,rfl⟩);clear aN aw aQ aO u v A B C e0 n e2 e3 e4 y1 y2 f g F b T;go_wp2_with fail;go_loopw [18] (fun i wr=>∃ j:Nat,j<=O/\i = .int .i64 j/\Hid (∃ q,wr=w3.drewN q)) (fun i _=>O - (intOf i).toNat)
       case atStart=>exact⟨0,by omega,rfl,l⟩
       case round=>
        clear l;obtain⟨j,hj,rfl,a⟩:=hrel;obtain⟨q,hq⟩:=a.out;subst hq;by_cases aJ:j<O
        ·have V:decide ((j:Int)<O)=true:=(by simp;omega);have t5:(j:Int)<O:=(by omega);obtain⟨y,G⟩:∃ y,pl[j]? = some y:=⟨_,Aq (by rw[bn.out];exact aJ)⟩;have H:=(aP.out.2 y).1 (Az G);have Y:=AcrossP.range K.out H;rw[HP.out]at Y;obtain⟨o,rfl⟩:∃ z:Nat,y=z:=⟨y.toNat,by omega⟩;have aK:o<P:=(by omega);have bg:(o:Int)<P:=(by omega);obtain⟨cb,co,rfl,bj,aL⟩:=a6.out.cell G;obtain⟨Z,I⟩:∃ x,hs[o]? = some x:=⟨_,Aq (by rw[J.out];exact aK)⟩;obtain⟨bk,bl,rfl,aD,aM⟩:=bp.out.cell I;have h8:=ax.out.ac o Z I H;have t6:decide (Z<8)=false:=(by simp;omega);clear G H Y I h8;go_wp2_with fail;exact⟨⟨j+1,by omega,by simp,a⟩,by simp[intOf];omega⟩
        ·have V:decide ((j:Int)<O)=false:=(by simp;omega);go_wp2_with fail;go_ret;exact⟨rfl,fK bo.out q⟩
theorem eWk{P:Program}{Q:Exit->Act->BZ->Prop}{f:Region.Mode}{c d:BZ->Prop}{e:Nat}{l:List Oper}{j:Nat}{o g:Oper}{fuel:Nat}{listed:Array Bool}{a:Act}{w:BZ}(hr:Region.ready f l.toArray listed = [i,j])(p:l[i]? = some o)(q:l[j]? = some g)
  (h:∀ b:Act->BZ->Prop,Shut (∀ a w,SD c d e (listed.setIfInBounds i true) w->(SD c d e (listed.setIfInBounds i true) w->qQ P f l.toArray Q c d e fuel (listed.setIfInBounds i true) a w)->b a w)->if Region.wanted o (yielded l.toArray a.tmps)=true then Oper.wp P o a w b Q else b (a.put o.dst undef) w)
  (r:∀ b:Act->BZ->Prop,Shut (∀ a w,SD c d e (listed.setIfInBounds j true) w->(SD c d e (listed.setIfInBounds j true) w->qQ P f l.toArray Q c d e fuel (listed.setIfInBounds j true) a w)->b a w)->if Region.wanted g (yielded l.toArray a.tmps)=true then Oper.wp P g a w b Q else b (a.put g.dst undef) w) :
  qQ P f l.toArray Q c d e (fuel+1) listed a w:=
 ⟨fun s=>(by rw[s]at hr;cases hr),fun k m=>by
  rw[hr]at m;simp only[BJ,By,or_false]at m;rcases m with rfl | rfl
  ·exact wpOp_step (by simpa using p) (fun b n=>h b (fun a w h1 h2=>n a w ⟨h1,h2 h1⟩))
  ·exact wpOp_step (by simpa using q) (fun b n=>r b (fun a w h1 h2=>n a w ⟨h1,h2 h1⟩))⟩
theorem Ints.own(h:w.ownsRow base 3 1 v l.length (i64s l))(hl:l.length<=1000000):Ints w v l:=by
 have a:=h;rcases h.2 with⟨rfl,hn⟩ | ⟨g,cap,cur,rfl,hb,hg,h1,h2,h3,h4⟩
 ·have:l = []:=List.length_eq_zero_iff.1 hn;subst this;exact Ints.nil w
 ·exact⟨_,_,rfl,Src.fQj a,h1,(fun e=>by cases e),by omega,by unfold maxLen at h2;omega⟩
theorem CodeO.c{w:BZ}{base:Nat}{cs:List BK}{c:CodeD}(h:CodeO w base cs c)(ha:c.args.length<=100)(ho:c.outs.length<=100)(ht:c.to.length<=100):CodeC w cs c:=by
 obtain⟨a,b,d,e,f,h1,h2,g⟩:=h;exact⟨a,b,d,e,f,Ints.own h1 (by omega),Ints.own h2 (by omega),Ints.own g (by omega)⟩
theorem bQc{A:Option Addr}{c:Nat}{xs:List BK}(h:w.ownsRow base e k (.slice A n c) n xs):Src w A (n*k) xs:=by
 refine⟨h.1,fun hn=>?_⟩;rcases h.2 with⟨h1,h2⟩ | ⟨g,cap,cur,h1,_,hg,h5,_,h6,b⟩
 ·subst h2;simp at hn
 ·injection h1 with h1 h2 h3;subst h1;refine⟨g,0,rfl,(Array.getElem?_eq_some_iff.1 hg).1,fun j u a=>?_⟩
  have hj:j<n*k:=by
   have:=(List.getElem?_eq_some_iff.1 a).1
   rwa[h.1]at this
  rw[BX];have d:Blk w g e cur:=hg;rw[d.cell j,<-Array.getElem?_toList];rw[<-b,Bv,if_pos hj]at a;exact a
theorem CodesO.structs{C:List CodeD}(h:CodesO w base v C)(hl:C.length<=100000)(n:∀ c∈C,c.args.length<=100/\c.outs.length<=100/\c.to.length<=100):Structs 5 CodeC w v C:=by
 obtain⟨vs,h1,h2,k⟩:=h;obtain⟨A,c,rfl,hc⟩:=fW h1
 have l:c<=9223372036854775807/\(A=none->c=0):=by
  rcases h1.2 with⟨e,_⟩ | ⟨g,cap,cur,e,_,_,_,o,_⟩
  ·injection e with f e2 j;subst f;subst j;exact⟨by omega,fun _=>rfl⟩
  ·injection e with f e2 j;subst f;subst j;exact⟨by unfold maxLen at o;omega,fun e=>by cases e⟩
 refine⟨A,c,vs,rfl,hc,l.2,⟨by omega,l.1⟩,h2,fun r hr=>?_,fun i r x q1 m=>?_,bQc h1⟩
 ·obtain⟨i,hi,rfl⟩:=List.getElem_of_mem hr;obtain⟨a,b,d,e,_⟩:=k i _ _ (Aq hi) (Aq (by omega));rw[e];rfl
 ·have:=n x (Az m);exact(k i r x q1 m).c this.1 this.2.1 this.2.2
theorem dKz{e:EnvD}{r:RowD}(hc:CheckP e r):r.sig.inn.length<=8/\r.sig.out.length<=8/\r.params.length<=8/\r.code.length<=4096/\∀ c∈r.code,c.args.length<=100/\c.outs.length<=100/\c.to.length<=100:=by
 have h1:=aZp hc.sig;refine⟨h1.1,h1.2,by rw[hc.par];exact h1.1,hc.n2,fun c b=>?_⟩;have a:=hc.code c b;have h2:=aWf hc a;exact⟨h2.1,h2.2,bXl a⟩
theorem cWb{r:RowD}(h:∀ c∈r.code,c.args.length<=100/\c.outs.length<=100/\c.to.length<=100):∀ c∈(xJ r hs).code,c.args.length<=100/\c.outs.length<=100/\c.to.length<=100:=by
 intro c hc;obtain⟨a,b,rfl⟩:=List.mem_map.1 (show c∈r.code.map (tJ hs)from hc);have:=h a b;exact⟨by show(kY hs a.args).length<=100;rw[vX];exact this.1,by show(kY hs a.outs).length<=100;rw[vX];exact this.2.1,this.2.2⟩
theorem cJf{p:BK}{r:RowD}(h:w.ownsRow base 3 1 p r.params.length (i64s (kY hs r.params)))(hl:r.params.length<=8):Ints w p (kY hs r.params):=by
 rw[<-vX hs r.params]at h;exact Ints.own h (by rw[vX];omega)
theorem dVa{e:EnvD}{r:RowD}{p:BK}(hc:CheckP e r)(f:w.ownsRow base 3 1 a r.sig.inn.length (i64s r.sig.inn))(g:w.ownsRow base 3 1 b r.sig.out.length (i64s r.sig.out))(op:w.ownsRow base 3 1 p r.params.length (i64s (kY hs r.params)))(h:CodesO w base d (r.code.map (tJ hs))):
  RowV w (.agg #[a,b,.int .i64 (oY hs),p,d]) (xJ r hs):=by
 have c:=dKz hc;exact⟨a,b,p,d,rfl,Ints.own (l:=r.sig.inn) f (show r.sig.inn.length<=1000000 by omega),Ints.own (l:=r.sig.out) g (show r.sig.out.length<=1000000 by omega),cJf op c.2.2.1,h.structs (by rw[AZ];omega) (cWb (hs:=hs) c.2.2.2.2)⟩
theorem cZc(e:EnvD)(r:RowD)(ve vr:BK)(w:BZ)(he:EnvV w ve e)(hr:RowV w vr r):Calls fZ 29 #[ve,vr] w (eJb e r w):=by
  have HE:=fQ he;have HR:=fQ hr;obtain⟨va,vb,vd,rfl,h1,h2,h3⟩:=he;obtain⟨I,J,L,vs,rfl,h4,h5,h6,h7⟩:=hr;have bF:=fQ h4.ir;have bG:=fQ h5.ir;have bH:=fQ h6.ir;have bI:=fQ h7;obtain⟨Ac,cc,aB,_⟩:=h7.len;have bJ:=fQ aB;clear aB;clear h1 h2 h3 h4 h5 h6 h7;have ak:=fQ ((al2 w (.cells #[va,.int .i64 e.imports,vb,vd,.bool e.mem] 26) (.cells #[I,J,.int .i64 r.places,L,vs] 43)).alloc (by simp;omega) (.cells #[.slice none 0 0,.slice none 0 0,.int .i64 0,.slice none 0 0,.slice none 0 0] 43));have a6:=fQ (Blk.alloc (Blk.newAt (w.alloc (.cells #[va,.int .i64 e.imports,vb,vd,.bool e.mem] 26)) (N:=w.heap.size+1) 43 #[I,J,.int .i64 r.places,L,vs] (by simp)) (.cells #[.slice none 0 0,.slice none 0 0,.int .i64 0,.slice none 0 0,.slice none 0 0] 43));have aq:=fQ (Blk.newAt ((w.alloc (.cells #[va,.int .i64 e.imports,vb,vd,.bool e.mem] 26)).alloc (.cells #[I,J,.int .i64 r.places,L,vs] 43)) (N:=w.heap.size+1+1) 43 #[.slice none 0 0,.slice none 0 0,.int .i64 0,.slice none 0 0,.slice none 0 0] (by simp));go_in;go_wp2_with fail;refine(cZb e r _ _ _ (HE.out.below ak.out (Aj _)) (HR.out.below ak.out (Aj _))).mono ?_;rintro en w1 (⟨a7,rfl,R⟩ | ⟨hc,av,rfl,R⟩ | ⟨hc,P,hs,g,hP,bL,ar,rfl,hg,hk,R⟩)
  · have u:=aq.out.below R aq.out.lt
    obtain⟨z0,z1,z2,z3,z4⟩:=gQ u;have f0:=frz u 0;have f1:=frz u 1;have f2:=frz u 2;have f3:=frz u 3;have f4:=frz u 4;have y1:=u.lt;have y:=fQ (ak.out.trans (R.mono ak.out.size));have aO:=fQ a7;clear R a7;go_wp2;refine bodyPost_ret (v:=.tuple #[.agg #[.slice none 0 0,.slice none 0 0,.int .i64 0,.slice none 0 0,.slice none 0 0],.int .i64 6]) (by simp[results,results29,go_sem,z0,z1,z2,z3,z4]) rfl ?_;exact .inl ⟨aO.out,rfl,sQ y.out (by omega) _ _ _ _ _⟩
  · have u:=aq.out.below R aq.out.lt
    obtain⟨z0,z1,z2,z3,z4⟩:=gQ u;have f0:=frz u 0;have f1:=frz u 1;have f2:=frz u 2;have f3:=frz u 3;have f4:=frz u 4;have y1:=u.lt;have y:=fQ (ak.out.trans (R.mono ak.out.size));have aO:=fQ hc;have bM:=fQ av;clear R hc av;go_wp2;refine bodyPost_ret (v:=.tuple #[.agg #[.slice none 0 0,.slice none 0 0,.int .i64 0,.slice none 0 0,.slice none 0 0],.int .i64 15]) (by simp[results,results29,go_sem,z0,z1,z2,z3,z4]) rfl ?_;exact .inr (.inl ⟨aO.out,bM.out,rfl,sQ y.out (by omega) _ _ _ _ _⟩)
  · have aC:=fQ (a6.out.below R a6.out.lt)
    have u:=fQ (aq.out.below R aq.out.lt);have y:=fQ (ak.out.trans (R.mono ak.out.size));have HC:=fQ hc;have HP:=fQ hP;have aP:=fQ ar;have aD:=fQ (show IR w1 (.slice (some ⟨g,0,none⟩) P P) hs from IR.of (Blk.fQc hk (by simp[i64s,ar.len])) ar.len);have bN:=fQ (bF.out.below y.out (Aj _));have bO:=fQ (bG.out.below y.out (Aj _));have bP:=fQ (bH.out.below y.out (Aj _));have bQ:=(aZp hc.sig);have aQ:=hc.par
    have a8:∀ x∈r.params,0<=x/\x<hs.length:=fun x W=>by have:=pQ hc.pin W;have:=ar.len;omega
    have bT:=fQ a8;have hl:=ar.len;have q1:r.sig.inn.length<=1000000:=(by omega);have q2:r.sig.out.length<=1000000:=(by omega);have q3:r.params.length<=100000:=(by omega);have q4:hs.length<=100000:=(by omega);clear R hc hP ar hg hk a8 bQ aQ hl;obtain⟨B,D,r2,E,r4⟩:=gQ aC.out;have y1:=aC.out.lt;obtain⟨s1,aR⟩:∃ s,w.heap.size+1=s:=⟨_,rfl⟩;rw[aR]at B D r2 E r4 y1;have bU:=fQ aR;have CA:=fQ (fun w' (m:BV w1.heap.size w1 w')=>aJx I r.sig.inn w' (bN.out.below m (Aj _)) q1);have CB:=fQ (fun w' (m:BV w1.heap.size w1 w')=>aJx J r.sig.out w' (bO.out.below m (Aj _)) q2);have CC:=fQ (fun w' (m:BV w1.heap.size w1 w')=>bQr L (.slice (some ⟨g,0,none⟩) P P) r.params hs w' (bP.out.below m (Aj _)) (aD.out.below m (Aj _)) bT.out q3 q4);go_wp2_with fail;go_cut [8] (fun f wx=>∃ F:Nat,f = .pointer (some ⟨F,0,none⟩)/\Hid (RuB w1 F r hs 16 (.slice none 0 0) [] wx))
    case first=>
      go_region_held3 (fun w'=>w'.cell? ⟨s1,0,none⟩=some I/\w'.cell? ⟨s1,1,none⟩=some J/\w'.cell? ⟨s1,3,none⟩=some L/\BV w1.heap.size w1 w')
        (first
          | with_reducible exact aQl B D E y1 (xK w1)
          | with_reducible exact aQl B D E y1 sA
          | with_reducible exact aQl B D E y1 sB
          | with_reducible exact aQl B D E y1 sC
          | with_reducible exact aQl B D E y1 (aZu (xK w1))
          | with_reducible exact aQl B D E y1 (aZu sA)
          | with_reducible exact aQl B D E y1 (aZu sB)
          | with_reducible exact aQl B D E y1 (aZu sC)
          | with_reducible exact aQl B D E y1 (eQc w1)
          | with_reducible exact aQl B D E y1 (sQ sC (Aj _) _ _ _ _ _)
          | with_reducible exact aQl B D E y1 (sQ sC (Ab sA) _ _ _ _ _)
          | with_reducible exact aQl B D E y1 (sQ sC (Ab sB) _ _ _ _ _))
        (first
          | (go_at_call_of 50 I;(with_reducible refine(CA.out _ (aXb (s1:=s1) (a:=I) (b:=J) (c:=L) (by with_reducible assumption))).mono ?_);rintro en wA ⟨vA,rfl,aw,aj⟩;have A:=fQ (jX aw (Ab (aXb (s1:=s1) (a:=I) (b:=J) (c:=L) (by with_reducible assumption))));have sA:=zW (aXb (s1:=s1) (a:=I) (b:=J) (c:=L) (by with_reducible assumption)) aj;(try have kz:=fQ (aWh aj));(try have kz:=fQ (aVd aj));(try have kz:=fQ (Blk.below kz.out aj (Blk.lt kz.out)));obtain⟨AA,cA,rfl,_⟩:=fW aw)
          | (go_at_call_of 50 J;(with_reducible refine(CB.out _ (aXb (s1:=s1) (a:=I) (b:=J) (c:=L) (by with_reducible assumption))).mono ?_);rintro en wB ⟨vB,rfl,ax,S⟩;have U:=fQ (jX ax (Ab (aXb (s1:=s1) (a:=I) (b:=J) (c:=L) (by with_reducible assumption))));(first | (have A:=fQ (tV A.out S)) | (have A:=fQ (aVc A.out S)));have sB:=zW (aXb (s1:=s1) (a:=I) (b:=J) (c:=L) (by with_reducible assumption)) S;(try have kz:=fQ (aWh S));(try have kz:=fQ (aVd S));(try have kz:=fQ (Blk.below kz.out S (Blk.lt kz.out)));obtain⟨AB,cB,rfl,_⟩:=fW ax)
          | (go_at_call 51;(with_reducible refine(CC.out _ (aXb (s1:=s1) (a:=I) (b:=J) (c:=L) (by with_reducible assumption))).mono ?_);rintro en wC ⟨vC,rfl,ba,al⟩;have oC:=fQ (jX ba (Ab (aXb (s1:=s1) (a:=I) (b:=J) (c:=L) (by with_reducible assumption))));(first | (have A:=fQ (tV A.out al)) | (have A:=fQ (aVc A.out al)));(first | (have U:=fQ (tV U.out al)) | (have U:=fQ (aVc U.out al)));have sC:=zW (aXb (s1:=s1) (a:=I) (b:=J) (c:=L) (by with_reducible assumption)) al;(try have kz:=fQ (aWh al));(try have kz:=fQ (aVd al));(try have kz:=fQ (Blk.below kz.out al (Blk.lt kz.out)));(try (obtain⟨z0,z1,z2,z3,z4⟩:=gQ kz.out;have f0:=frz kz.out 0;have f1:=frz kz.out 1;have f2:=frz kz.out 2;have f3:=frz kz.out 3;have f4:=frz kz.out 4;have yz:=Blk.lt kz.out));obtain⟨AC,cC,rfl,_⟩:=fW ba))
      all_goals
        go_wp2_with fail;go_meet
        first
          | with_reducible exact⟨_,rfl,fQ (RuB.mk1 A.out U.out oC.out sC)⟩
          | with_reducible exact⟨_,rfl,fQ (RuB.mk2 A.out U.out oC.out sC kz.out (Aj _))⟩
          | with_reducible exact⟨_,rfl,fQ (RuB.mk2 A.out U.out oC.out sC kz.out (Ab sA))⟩
          | with_reducible exact⟨_,rfl,fQ (RuB.mk2 A.out U.out oC.out sC kz.out (Ab sB))⟩
    case rest=>
      as_aux_lemma=>
      obtain⟨w2,rfl⟩:∃ w2:BZ,w2=wc:=⟨_,rfl⟩;obtain⟨F,rfl,HU⟩:=hcut;have ay:=fQ (show RuB w1 F r hs (rK 16 (hs.take 0)) (.slice none 0 0) [] w2 from HU.out);have aS:=fQ aP.out.len;clear B D r2 E r4 CA CB CC HU q1 q2 q3 q4;go_wp2_with fail;go_loopw [39] (fun i wr=>∃ k:Nat,k<=P/\i = .int .i64 k/\Hid (RuB w1 F r hs (rK 16 (hs.take k)) (.slice none 0 0) [] wr)) (fun i _=>P - (intOf i).toNat)
      case atStart=>exact⟨0,by omega,rfl,ay⟩
      case round=>
        clear ay;obtain⟨k,hk,rfl,M⟩:=hrel;by_cases bV:k<P
        · as_aux_lemma=>
          have t1:decide ((k:Int)<P)=true:=(by simp;omega);have t2:(k:Int)<P:=(by omega);obtain⟨x,W⟩:∃ x,hs[k]? = some x:=⟨_,Aq (by rw[aS.out];exact bV)⟩;have bW:=aP.out.ok x (Az W);obtain⟨a,b,p,H,X,Y,op,Z,m,hg⟩:=M.out;obtain⟨xb,xo,e1,cv,bX⟩:=(aD.out.below m (Aj _)).cell W;injection e1 with e1;injection e1 with e1 e2;subst e1;subst e2;rw[BX]at bX;obtain⟨zx,rfl⟩:∃ z:Nat,x=z:=⟨x.toNat,by omega⟩;obtain⟨T,hT⟩:=fX (rK 16 (hs.take k))
          have aE:rK 16 (hs.take (k+1))=max T ((zx:Int)+1):=by
            obtain⟨h1,h2⟩:=List.getElem?_eq_some_iff.1 W;rw[Aw h1,h2,bWb,hT]
          rw[hT]at M H;have bb:zx<2048:=(by omega);obtain⟨zy,bY⟩:∃ z:Nat,zx+1=z:=⟨_,rfl⟩;have cw:IntKind.i64.wrap ((zx:Int)+1)=(zy:Int):=(by rw[show(zx:Int)+1=(zy:Int) by omega];exact IntWalk.i64_in _ (by omega));rw[show(zx:Int)+1=(zy:Int) by omega]at aE;obtain⟨d0,d1,d2,d3,d4⟩:=gQ H;have f2:=frz H 2;have yb:=H.lt;have aT:=fQ (M.out.fXq (max T (zy:Int)));rw[<-aE]at aT;have bc:=fQ aE;clear W bW H X Y op Z m hT aE M bY;go_wp2_with fail;exact⟨⟨k+1,by omega,by simp,by rw[bc.out];rw[bc.out]at aT;exact aT⟩,by simp[intOf];omega⟩
        · as_aux_lemma=>
          have t1:decide ((k:Int)<P)=false:=(by simp;omega);have bZ:hs.take k=hs:=Av (by rw[aS.out];omega);rw[bZ]at M;obtain⟨w3,rfl⟩:∃ w3:BZ,w3=wr:=⟨_,rfl⟩;have aB:=bJ.out;subst aB;obtain⟨n,hn⟩:=fX r.code.length;have HN:=fQ hn;have cx:n<=4096:=(by have:=HC.out.n2;omega);obtain⟨a,b,p,H,X,Y,op,Z,m,hg⟩:=M.out;have aU:=aC.out.below m aC.out.lt;rw[hn]at aU;obtain⟨B,D,r2,E,r4⟩:=gQ aU;have y3:=aU.lt;rw[aR]at B D r2 E r4 y3;have ay:=fQ (show ∃ d,RuB w1 F r hs (oY hs) d ((r.code.take 0).map (tJ hs)) w3 from⟨_,M.out⟩);clear H X Y op Z m M hn;rw[HN.out];go_wp2_with fail;clear B D r2 E r4 y3;go_loopw [53] (fun i wr=>∃ k:Nat,k<=n/\i = .int .i64 k/\Hid (∃ d,RuB w1 F r hs (oY hs) d ((r.code.take k).map (tJ hs)) wr)) (fun i _=>n - (intOf i).toNat)
          case atStart=>exact⟨0,by omega,rfl,ay⟩
          case round=>
            clear ay;obtain⟨k,hk,rfl,M⟩:=hrel;by_cases b0:k<n
            · as_aux_lemma=>
              have t1:decide ((k:Int)<n)=true:=(by simp;omega);have t2:(k:Int)<n:=(by omega);obtain⟨c,hc⟩:∃ c,r.code[k]? = some c:=⟨_,Aq (by rw[HN.out];exact b0)⟩;have b1:=fQ hc;obtain⟨d,a,b,p,H,X,Y,op,Z,m,hg⟩:=M.out;have ao:=y.out.trans (m.mono y.out.size);obtain⟨cb,co,cy,cz,cD,rfl,az,g0,g1,g2,g3,g4,s0,i1,i2,i3⟩:=bI.out.code hc;replace g0:=(ao.cell (p:=⟨cb,_,none⟩) az).trans g0;replace g1:=(ao.cell (p:=⟨cb,_,none⟩) az).trans g1;replace g2:=(ao.cell (p:=⟨cb,_,none⟩) az).trans g2;replace g3:=(ao.cell (p:=⟨cb,_,none⟩) az).trans g3;replace g4:=(ao.cell (p:=⟨cb,_,none⟩) az).trans g4;have y2:cb<wr.heap.size:=(by have:=ao.size;omega);obtain⟨pA,pc,rfl⟩:=i1.shape;obtain⟨qA,qc,rfl⟩:=i2.shape;obtain⟨tA,tc,rfl⟩:=i3.shape;have J1:=fQ (i1.ir.below y.out (Aj _));have J2:=fQ (i2.ir.below y.out (Aj _));have J3:=fQ (i3.ir.below y.out (Aj _));have aF:=HC.out.code c (Az hc);have aV:=qY aF;have an:=aWf HC.out aF;have b2:=fQ s0;have cE:c.to.length<=100:=bXl aF;have hl:=aS.out;have P1:=fQ (show ∀ x∈c.args,0<=x/\x<hs.length from fun x W=>by have:=aV.1 x W;rw[HP.out]at this;omega);have P2:=fQ (show ∀ x∈c.outs,0<=x/\x<hs.length from fun x W=>by have:=aV.2.1 x W;rw[HP.out]at this;omega);have q4:hs.length<=100000:=(by omega);have aW:=fQ m;have aX:=fQ H;have bd:=fQ X;have be:=fQ Y;have bf:=fQ op;have aG:=fQ Z;obtain⟨N,hN⟩:=fX wr.heap.size;have cF:=fQ hN;clear hc i1 i2 i3 s0 aF aV hl H X Y op Z m ao M;have aH:((r.code.take k).map (tJ hs)).length=k:=(by rw[AZ,List.length_take,HN.out];omega);obtain⟨C,hC⟩:=fX ((r.code.take k).map (tJ hs));rw[hC]at aG aH;have bg:=fQ aH
              have b3:=fQ (show(r.code.take (k+1)).map (tJ hs)=C ++ [tJ hs c]from by
                obtain⟨h1,h2⟩:=List.getElem?_eq_some_iff.1 b1.out;rw[Aw h1,h2,List.map_append,hC]
                rfl)
              obtain⟨b4,ae⟩:=aG.out.row;rw[aH]at ae;obtain⟨Ad,cd,aI,_⟩:=fW ae;subst aI;have b5:=fQ (show ∀ j,(Value.slice Ad k cd).ownBlock=some j->w1.heap.size<=j/\j≠N from fun j hj=>by have:=ae.lt j hj;omega);have b6:=fQ (show RuB w1 F r hs (oY hs) (.slice Ad k cd) C wr from⟨a,b,p,aX.out,bd.out,be.out,bf.out,aG.out,aW.out,hg⟩);have b7:=aX.out.lt;have b8:N≠F:=(by omega);have bj:=aW.out.size;have aY:=Blk.newAt wr (N:=N) 52 #[.int .i64 c.op,.int .u64 (c.n:Int),.slice pA c.args.length pc,.slice qA c.outs.length qc,.slice tA c.to.length tc] hN;obtain⟨n0,n1,n2,n3,n4⟩:=gQ aY;have an:BV wr.heap.size wr (wr.alloc (.cells #[.int .i64 c.op,.int .u64 (c.n:Int),.slice pA c.args.length pc,.slice qA c.outs.length qc,.slice tA c.to.length tc] 52)):=(AY _ _).alloc (Aj _) _;have bk:=(show _/\_/\_/\_/\_/\_/\_ from⟨n0,n1,n2,n3,n4,aY.lt,zW aW.out an⟩);have V:=fQ (b6.out.below an)
              have q:(wr.alloc (.cells #[.int .i64 c.op,.int .u64 (c.n:Int),.slice pA c.args.length pc,.slice qA c.outs.length qc,.slice tA c.to.length tc] 52)).cell? ⟨F,4,none⟩=some (.slice Ad k cd):=by
                obtain⟨_,_,_,H,_⟩:=V.out;exact(gQ H).2.2.2.2
              have O:F<(wr.alloc (.cells #[.int .i64 c.op,.int .u64 (c.n:Int),.slice pA c.args.length pc,.slice qA c.outs.length qc,.slice tA c.to.length tc] 52)).heap.size:=Ay b7 an.size;clear ae hC aH an aY n0 n1 n2 n3 n4 aX bd be bf aG;go_wp2_with fail;obtain⟨wk,bl⟩:=fX (wr.alloc (.cells #[.int .i64 c.op,.int .u64 (c.n:Int),.slice pA c.args.length pc,.slice qA c.outs.length qc,.slice tA c.to.length tc] 52));rw[bl]at bk V q O ⊢;clear bl g0 g1 g2 g3 g4 y2;have CA:=fQ (fun w' (m:BV w1.heap.size w1 w')=>bQr (.slice pA c.args.length pc) (.slice (some ⟨g,0,none⟩) P P) c.args hs w' (J1.out.below m (Aj _)) (aD.out.below m (Aj _)) P1.out (by omega) q4);have CB:=fQ (fun w' (m:BV w1.heap.size w1 w')=>bQr (.slice qA c.outs.length qc) (.slice (some ⟨g,0,none⟩) P P) c.outs hs w' (J2.out.below m (Aj _)) (aD.out.below m (Aj _)) P2.out (by omega) q4);have CT:=fQ (fun w' (m:BV w1.heap.size w1 w')=>aJx (.slice tA c.to.length tc) c.to w' (J3.out.below m (Aj _)) (by omega));obtain⟨ic,ca,cf,ch,bb⟩:=info_parts cJd;have V:=fQ (RuB.below V.out (xK wk));have bm:=xK wk;have aJ:=eQd bk;have q:=(bm.cell (p:=⟨F,4,none⟩) O).trans q;have O:=Ay O bm.size;refine lZ (fun w'=>w'.cell? ⟨N,0,none⟩=some (.int .i64 c.op)/\w'.cell? ⟨N,1,none⟩=some (.int .u64 (c.n:Int))/\w'.cell? ⟨N,2,none⟩=some (.slice pA c.args.length pc)/\w'.cell? ⟨N,3,none⟩=some (.slice qA c.outs.length qc)/\w'.cell? ⟨N,4,none⟩=some (.slice tA c.to.length tc)/\N<w'.heap.size/\BV w1.heap.size w1 w') (fun w'=>w'.cell? ⟨F,4,none⟩=some (.slice Ad k cd)) 19 (by kernel_rfl) aJ q (fun l=>?_);refine wtk 0 l (fun l=>?_);refine uW (i:=1) (v:=?v1) rfl (by kernel_rfl) (by kernel_rfl) (by kernel_rfl) (fun _ _ _ h=>h) rfl (by kernel_rfl) (by kernel_rfl) (Or.inl ⟨by rfl,?hy1⟩) l (fun l=>?_)
              case hy1=>intro w cj;(try dsimp only at cj);go_simp;(try with_reducible rfl)
              try simp only[Bk,Ak,AJ,AQ]
              refine wtk 2 l (fun l=>?_);refine wtk 3 l (fun l=>?_);refine wtk 4 l (fun l=>?_);refine wtk 5 l (fun l=>?_);refine wtk 6 l (fun l=>?_);refine wtk 7 l (fun l=>?_);refine wtk 8 l (fun l=>?_);refine wtk 10 l (fun l=>?_);refine wtk 11 l (fun l=>?_);refine wtk 12 l (fun l=>?_);refine wtk 14 l (fun l=>?_);refine wtk 15 l (fun l=>?_);refine jK (i:=9) (by kernel_rfl) rfl (fun K G=>?_);go_simp;refine(CA.out _ (aXl aJ)).mono ?_;rintro en wA ⟨vA,rfl,aw,aj⟩;have A:=fQ (jX aw (Ab (aXl aJ)));have sA:=aKk aJ aj;have q:=(aj.cell (p:=⟨F,4,none⟩) O).trans q;have O:=Ay O aj.size;have V:=fQ (RuB.below V.out aj);obtain⟨AA,cA,rfl,_⟩:=fW aw;refine G.out _ _ ⟨sA,fun _=>q⟩ (fun l=>?_);clear G K
              try simp only[Bk,Ak,AJ,AQ]
              refine jK (i:=13) (by kernel_rfl) rfl (fun K G=>?_);go_simp;refine(CB.out _ (aXl sA)).mono ?_;rintro en wB ⟨vB,rfl,ax,S⟩;have U:=fQ (jX ax (Ab (aXl sA)));have sB:=aKk sA S;have q:=(S.cell (p:=⟨F,4,none⟩) O).trans q;have O:=Ay O S.size;have V:=fQ (RuB.below V.out S);have A:=fQ (tV A.out S);obtain⟨AB,cB,rfl,_⟩:=fW ax;refine G.out _ _ ⟨sB,fun _=>q⟩ (fun l=>?_);clear G K
              try simp only[Bk,Ak,AJ,AQ]
              refine jK (i:=16) (by kernel_rfl) rfl (fun K G=>?_);go_simp;refine(CT.out _ (aXl sB)).mono ?_;rintro en wT ⟨vT,rfl,bn,au⟩;have oT:=fQ (jX bn (Ab (aXl sB)));have sT:=aKk sB au;have q:=(au.cell (p:=⟨F,4,none⟩) O).trans q;have O:=Ay O au.size;have V:=fQ (RuB.below V.out au);have A:=fQ (tV A.out au);have U:=fQ (tV U.out au);obtain⟨AT,cT,rfl,_⟩:=fW bn;refine G.out _ _ ⟨sT,fun _=>q⟩ (fun l=>?_);clear G K
              try simp only[Bk,Ak,AJ,AQ]
              refine wtk 17 l (fun l=>?_);refine jK (i:=18) (by kernel_rfl) rfl (fun K G=>?_);go_simp;have sN:=dKn (o:=.cells #[.int .i64 c.op,.int .u64 (c.n:Int),.slice AA c.args.length cA,.slice AB c.outs.length cB,.slice AT c.to.length cT] 52) sT;have an:=(AY wT.heap.size wT).alloc (Aj _) (.cells #[.int .i64 c.op,.int .u64 (c.n:Int),.slice AA c.args.length cA,.slice AB c.outs.length cB,.slice AT c.to.length cT] 52);have q:=(an.cell (p:=⟨F,4,none⟩) O).trans q;refine G.out _ _ ⟨sN,fun _=>q⟩ (fun l=>?_);clear G K
              try simp only[Bk,Ak,AJ,AQ]
              obtain⟨a9,b9,p9,aK,bo,bp,bq,⟨ck,aL,br,bs⟩,bt,cm⟩:=RuB.below V.out an;have aZ:=aL;rw[bg.out]at aZ;refine jK (i:=19) (by kernel_rfl) rfl (fun K G=>?_);refine step_append_lies _ (by rfl) (.tmp 58) (.tmp 75) 41 (by rfl) w1.heap.size 52 ic _ 5 88 underlying41 ca cf ch bb (by rfl) (by omega) (.slice Ad k cd) k ck.flatten (by go_simp) aZ ⟨wT.heap.size,0,none⟩ 1 1 [.int .i64 c.op,.int .u64 (c.n:Int),.slice AA c.args.length cA,.slice AB c.outs.length cB,.slice AT c.to.length cT] (by go_simp) (by rfl) (World.news_of_block (cs:=#[.int .i64 c.op,.int .u64 (c.n:Int),.slice AA c.args.length cA,.slice AB c.outs.length cB,.slice AT c.to.length cT]) (t:=52) (fr:=(0,0)) (Blk.newAt _ _ _ rfl)) (eJc _ _ _ _ _ rfl rfl rfl rfl rfl) (by omega) (by unfold maxLen;omega) (by omega) bt.size _ rfl ?_;intro gg cap w9 aA aM cn cG;have aN:=aK.grown aM (own_ne aL aK (by decide));obtain⟨_,_,_,_,d4⟩:=gQ aN;have f4:=frz aN 4;have y9:=aN.lt;have sD:=dKo sN aM (fun j hj=>b5.out j hj);have bu:=cVs b2.out A.out U.out oT.out (Blk.new wT 52 #[.int .i64 c.op,.int .u64 (c.n:Int),.slice AA c.args.length cA,.slice AB c.outs.length cB,.slice AT c.to.length cT]);have cq:=fQ (RuB.push (n:=k) aK bo bp bq aL br bs bt cm bu (by rw[bg.out];exact aA) aM);clear aA aM cn aN aK bo bp bq aL aZ br bs bu;refine G.out _ _ (SD.after sD (by kernel_rfl)) (fun l=>?_);clear G K
              try simp only[Bk,Ak,AJ,AQ]
              refine wtk 20 l (fun l=>?_);refine jK (i:=21) (by kernel_rfl) rfl (fun K G=>?_);go_simp;refine G.out _ _ (SD.after (eJd sD b8 hg) (by kernel_rfl)) (fun l=>?_);clear G K
              try simp only[Bk,Ak,AJ,AQ]
              refine kX (by kernel_rfl) ?_ _;go_wp2_with fail
              with_reducible exact⟨⟨k+1,by omega,by simp,fQ ⟨_,by rw[b3.out];exact cq.out⟩⟩,by simp[intOf];omega⟩
            · as_aux_lemma=>
              have t1:decide ((k:Int)<n)=false:=(by simp;omega);have a1:r.code.take k=r.code:=Av (by rw[HN.out];omega);rw[a1]at M;obtain⟨d,a,b,p,H,X,Y,op,Z,m,hg⟩:=M.out;have cr:=Z.row;obtain⟨A1,c1,rfl,_⟩:=fW X;obtain⟨A2,c2,rfl,_⟩:=fW Y;obtain⟨A3,c3,rfl,_⟩:=fW op;obtain⟨b4,ae⟩:=cr;obtain⟨A4,q,aI,_⟩:=fW ae;rw[AZ]at aI;subst aI;obtain⟨d0,d1,d2,d3,d4⟩:=gQ H;have yb:=H.lt;have Q:=u.out.below m u.out.lt;have bj:=m.size;have bw:=fQ (jX (bJa X Q (.slice A1 r.sig.inn.length c1) (.slice A2 r.sig.out.length c2) (.int .i64 (oY hs)) (.slice A3 r.params.length c3) (.slice A4 r.code.length q)) y.out.size);have bx:=fQ (jX (bJa Y Q (.slice A1 r.sig.inn.length c1) (.slice A2 r.sig.out.length c2) (.int .i64 (oY hs)) (.slice A3 r.params.length c3) (.slice A4 r.code.length q)) y.out.size);have bz:=fQ (jX (bJa op Q (.slice A1 r.sig.inn.length c1) (.slice A2 r.sig.out.length c2) (.int .i64 (oY hs)) (.slice A3 r.params.length c3) (.slice A4 r.code.length q)) y.out.size);have bD:=fQ ((Z.fXp Q (.slice A1 r.sig.inn.length c1) (.slice A2 r.sig.out.length c2) (.int .i64 (oY hs)) (.slice A3 r.params.length c3) (.slice A4 r.code.length q)).mono y.out.size);have bE:=fQ (sQ (y.out.trans (m.mono y.out.size)) (show w.heap.size<=w.heap.size+1+1 by omega) (.slice A1 r.sig.inn.length c1) (.slice A2 r.sig.out.length c2) (.int .i64 (oY hs)) (.slice A3 r.params.length c3) (.slice A4 r.code.length q));rw[show w.heap.size+1+1=s1+1 by rw[bU.out]]at Q bw bx bz bD bE;obtain⟨z0,z1,z2,z3,z4⟩:=gQ Q;have f0:=frz Q 0;have f1:=frz Q 1;have f2:=frz Q 2;have f3:=frz Q 3;have f4:=frz Q 4;have yz:=Q.lt;have ct:=fQ (dKp Q (.slice A1 r.sig.inn.length c1) (.slice A2 r.sig.out.length c2) (.int .i64 (oY hs)) (.slice A3 r.params.length c3) (.slice A4 r.code.length q));clear H X Y op Z m M ae Q bj;go_wp2_with fail;refine bodyPost_ret (cQv _ _ (s1+1) _ _ _ _ _ _ rfl rfl ct.out) rfl ?_;exact .inr (.inr ⟨HC.out,P,hs,_,_,_,_,HP.out,bL,aP.out,rfl,bw.out,bx.out,bz.out,bD.out,bE.out⟩)
end Go.Proofs.YtabibkpfgmolkaaGreat

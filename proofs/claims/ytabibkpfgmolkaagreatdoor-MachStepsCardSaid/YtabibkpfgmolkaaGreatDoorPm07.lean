/- Lemmas for the claim, part 7. Conditions: none. -/
import Derived.Test.YtabibkpfgmolkaaGreatDoorPm06
import Derived.Deep.AppendLies
import Derived.Deep.RegionLaw
set_option maxRecDepth 100000
set_option maxHeartbeats 16000000
set_option linter.unusedVariables false
set_option linter.unusedSimpArgs false
open Go.Lib renaming hid→fQ
open Go.Proofs.Tryz renaming prog→fZ
open Go.Proofs.Tryz
open Go.RowKit
open Nat renaming lt_of_lt_of_le→Aj,le_refl→Aq,le_trans→AV,add_comm→Aa,add_sub_cancel_left→Ah,zero_add→Ai,zero_le→Bx,add_right_comm→Bw,add_sub_cancel→By,min_eq_left→BV,add_assoc→BW,lt_or_ge→BY,sub_self→Ba
open List renaming getElem?_eq_getElem→Ax,mem_of_getElem?→Aw,replicate→AQ,map_cons→AW,length_set→AY,getD_eq_getElem?_getD→Ab,mem_cons_self→Ac,getElem?_append_right→Ad,drop_eq_getElem_cons→Ae,length_replicate→Bj,set_append_right→Bq,mem_cons_of_mem→Bz,sum_cons→Bk,append_assoc→BQ,all_eq_true→BX,length_take→BZ,take_length→BK
open Go.RowKit.Below renaming heap_setCell→Az,refl→Ay
open Go.Value renaming slice→Ak
open Array renaming replicate→Av,setIfInBounds_comm→Af
open Go.World renaming setCell→AJ,ownsRow→Bv,ownsRow_nil→BJ
open Int renaming toNat_natCast→AX,eq_ofNat_of_zero_le→AK
open Bool renaming false_eq_true→AZ,and_eq_true→Ag
open Go renaming World→Bb,Value→Bc
open Go.RowKit renaming Below→Bd
namespace Go.Proofs.YtabibkpfgmolkaaGreatDoor
variable {w w' w0:Bb}{v v':Bc}{k g c n i fuel base:Nat}{l:List Nat}{ks:List Int}{e:TypeId}
structure FrD where
 fi:Nat
 r:RowD
 k:Nat
 V:List Nat
structure MaD where
 st:List FrD
 s:StD
 out:List Nat
 e:Int
 steps:Nat
 over:Bool
 first:Option (Nat×List Nat)
def bWt:CodeD:=⟨0,0,[],[],[]⟩
def sV(x:MaD)(s:StD)(out:List Nat)(e:Int):MaD:={ x with st:=[],s:=s,out:=if e=0 then out else x.out,e:=e,over:=true }
def aVn(x:MaD)(out:List Nat):List FrD->MaD
 | []=>sV x x.s out 0
 | g :: rest=>{ x with st:={ g with V:=putV ((g.r.code[g.k - 1]?).getD bWt).outs out (zeroV 8 g.V) } :: rest }
def doM(p:RowsD)(x:MaD)(f:FrD)(rest:List FrD)(c:CodeD):ActD->MaD
 | .go k=>{ x with st:={ f with k:=k } :: rest }
 | .ret l=>aVn x l rest
 | .vals l s=>{ x with st:={ f with k:=f.k+1,V:=putV c.outs l f.V } :: rest,s:=s }
 | .trap e s=>sV x s [] e
 | .call n=>
  if 16<=rest.length+1 then sV x x.s [] 37
  else match p.fns[n - p.env.imports.toNat]?,p.env.sigs[n]? with
   | some q,some g=>{ x with st:=⟨n - p.env.imports.toNat,q,0,initV q (lowL g.inn (argV p.env f.r c f.V))⟩ :: { f with k:=f.k+1 } :: rest }
   | _,_=>x
def goM(p:RowsD)(x:MaD):MaD:=match x.first with
 | some (n,a)=>
  let h:=hostV n (p.env.sigs.getD n ⟨[],[]⟩).out (lowL (p.env.sigs.getD n ⟨[],[]⟩).inn a) x.s
  sV x h.2.2 h.1 h.2.1
 | none=>match x.st with
  | []=>x
  | f :: rest=>match f.r.code[f.k]? with
   | none=>x
   | some c=>doM p x f rest c (actV p.env c f.k (argV p.env f.r c f.V) x.s)
def jY(p:RowsD)(x:MaD):MaD:=if x.over then x else goM p { x with steps:=x.steps+1 }
def stN(p:RowsD):Nat->MaD->MaD
 | 0,x=>x
 | k+1,x=>stN p k (jY p x)
def wdM(x:MaD):Nat:=(x.st.map fun f=>f.V.length).sum
def mwM(p:RowsD):Nat->MaD->Nat
 | 0,_=>0
 | k+1,x=>max (wdM x) (mwM p k (jY p x))
theorem aXz(p:RowsD)(i j:Nat)(x:MaD):stN p (i+j) x=stN p j (stN p i x):=by
 induction i generalizing x with
 | zero=>rw[Ai];rfl
 | succ i a=>rw[Bw];exact a (jY p x)
theorem cXq(p:RowsD)(i j:Nat)(x:MaD):mwM p (i+j) x=max (mwM p i x) (mwM p j (stN p i x)):=by
 induction i generalizing x with
 | zero=>rw[Ai];show _=max 0 _;rw[Nat.zero_max];rfl
 | succ i a=>
  rw[Bw];show max (wdM x) (mwM p (i+j) (jY p x))=max (max (wdM x) (mwM p i (jY p x))) (mwM p j (stN p i (jY p x)));rw[a,Nat.max_assoc]
theorem aQz:∀ (os:List Int) (a V:List Nat),(putV os a V).length=V.length
 | [],a,V=>by cases a <;> rfl
 | o :: os,[],V=>rfl
 | o :: os,n :: a,V=>by rw[putV,aQz,AY]
theorem aZv(lost:Nat)(V:List Nat):(zeroV lost V).length=V.length:=by
 unfold zeroV;rw[List.length_append,Bj,List.length_drop];omega
theorem aQk(r:RowD)(a:List Nat):(initV r a).length=r.places.toNat:=by
 unfold initV;rw[aQz,Bj]
theorem yW{p:RowsD}{x:MaD}{f:FrD}{rest:List FrD}{c:CodeD}{A:ActD}(a:x.over=false)(hf:x.first=none)(hs:x.st=f :: rest)(hc:f.r.code[f.k]? = some c)(ha:actV p.env c f.k (argV p.env f.r c f.V) x.s=A):
  jY p x=doM p { x with steps:=x.steps+1 } f rest c A:=by
 unfold jY;rw[a];simp only[AZ,if_false];unfold goM;simp only[hf,hs,hc,ha]
def endM(x:MaD)(rest:List FrD)(R:ResD):MaD:=if R.e=0 then aVn { x with steps:=x.steps+R.cnt,s:=R.s } R.out rest else sV { x with steps:=x.steps+R.cnt,s:=R.s } R.s [] R.e
theorem aYq{p:RowsD}{x:MaD}(h:∀ j,j<i->(stN p j (jY p x)).over=false)(a:x.over=false):∀ j,j<i+1->(stN p j x).over=false
 | 0,_=>a
 | j+1,hj=>h j (by omega)
theorem dVb{p:RowsD}{d:Nat}{r:RowD}{V:List Nat}{s:StD}{R:ResD}(h:Ev p 8 d r k V s R):
  ∀ (x:MaD) (fi:Nat) (rest:List FrD),x.over=false->x.first=none->x.st=⟨fi,r,k,V⟩ :: rest->x.s=s->rest.length+1=d ->
   stN p R.cnt x=endM x rest R/\(∀ i,i<R.cnt->(stN p i x).over=false)/\mwM p R.cnt x=wdM x+R.wds:=by
 induction h with
 | @ret d r k V s c l hc ha=>
  intro x fi rest a hf b hs hd;have h1:=yW (p:=p) a hf b hc (hs ▸ ha);refine⟨?_,fun i hi=>?_,?_⟩
  ·show jY p x=_;rw[h1];simp only[doM,endM,if_true];rw[<-hs]
  ·have:i=0:=(by have:i<1:=hi;omega);subst this;exact a
  ·show max (wdM x) 0=_;simp
 | @trap d r k V s s' c e hc ha=>
  intro x fi rest a hf b hs hd;have h1:=yW (p:=p) a hf b hc (hs ▸ ha);refine⟨?_,fun i hi=>?_,?_⟩
  ·show jY p x=_;rw[h1];simp only[doM,endM,if_neg (aXa ha)];simp only[sV]
  ·have:i=0:=(by have:i<1:=hi;omega);subst this;exact a
  ·show max (wdM x) 0=_;simp
 | @go d r k k' V s c R hc ha hn w=>
  intro x fi rest a hf b hs hd;have h1:=yW (p:=p) a hf b hc (hs ▸ ha);have h2:=w (jY p x) fi rest (by rw[h1];exact a) (by rw[h1];exact hf) (by rw[h1];rfl) (by rw[h1];exact hs) hd;obtain⟨o,t,u⟩:=h2;have y:wdM (jY p x)=wdM x:=(by rw[h1];simp only[doM,wdM,b,AW]);have m:(1+R.cnt:Nat)=R.cnt+1:=Aa ..;refine⟨?_,fun i hi=>?_,?_⟩
  ·show stN p (1+R.cnt) x=_;rw[m];show stN p R.cnt (jY p x)=_;rw[o,h1];simp only[endM,doM,m,BW,Aa 1]
   split <;> first | rfl | (cases rest <;> rfl)
  ·exact aYq (i:=R.cnt) t a i (by have:i<1+R.cnt:=hi;omega)
  ·show mwM p (1+R.cnt) x=wdM x+R.wds;rw[m];show max (wdM x) (mwM p R.cnt (jY p x))=_;rw[u,y];omega
 | @vals d r k V s s' c l R hc ha hn w=>
  intro x fi rest a hf b hs hd;have h1:=yW (p:=p) a hf b hc (hs ▸ ha);have h2:=w (jY p x) fi rest (by rw[h1];exact a) (by rw[h1];exact hf) (by rw[h1];rfl) (by rw[h1];rfl) hd;obtain⟨o,t,u⟩:=h2;have y:wdM (jY p x)=wdM x:=(by rw[h1];simp only[doM,wdM,b,AW,aQz]);have m:(1+R.cnt:Nat)=R.cnt+1:=Aa ..;refine⟨?_,fun i hi=>?_,?_⟩
  ·show stN p (1+R.cnt) x=_;rw[m];show stN p R.cnt (jY p x)=_;rw[o,h1];simp only[endM,doM,m,BW,Aa 1]
   split <;> first | rfl | (cases rest <;> rfl)
  ·exact aYq (i:=R.cnt) t a i (by have:i<1+R.cnt:=hi;omega)
  ·show mwM p (1+R.cnt) x=wdM x+R.wds;rw[m];show max (wdM x) (mwM p R.cnt (jY p x))=_;rw[u,y];omega
 | @call d r q k n V s c g R1 R2 hc ha hd hq hg h1 he h2 ih1 ih2=>
  intro x fi rest a hf b hs z;have f:=yW (p:=p) a hf b hc (hs ▸ ha);have A:¬16<=rest.length+1:=(by omega);simp only[doM,if_neg A,hq,hg]at f;obtain⟨o,t,u⟩:=ih1 (jY p x) (n - p.env.imports.toNat) (⟨fi,r,k+1,V⟩ :: rest) (by rw[f];exact a) (by rw[f];exact hf) (by rw[f]) (by rw[f];exact hs) (by simp;omega)
  have v:stN p R1.cnt (jY p x)={ x with steps:=x.steps+1+R1.cnt,s:=R1.s,st:=⟨fi,r,k+1,putV c.outs R1.out (zeroV 8 V)⟩ :: rest }:=by
   rw[o,f];simp only[endM,he,if_true,aVn,By,hc,Option.getD_some]
  obtain⟨C,D,E⟩:=ih2 (stN p R1.cnt (jY p x)) fi rest (by rw[v];exact a) (by rw[v];exact hf) (by rw[v]) (by rw[v]) z;have B:wdM (jY p x)=wdM x+q.places.toNat:=(by rw[f];simp only[wdM,b,AW,Bk,aQk];omega);have F:wdM (stN p R1.cnt (jY p x))=wdM x:=(by rw[v];simp only[wdM,b,AW,Bk,aQz,aZv]);have m:(1+R1.cnt+R2.cnt:Nat)=(R1.cnt+R2.cnt)+1:=(by omega);refine⟨?_,fun i hi=>?_,?_⟩
  ·show stN p (1+R1.cnt+R2.cnt) x=_;rw[m];show stN p (R1.cnt+R2.cnt) (jY p x)=_;rw[aXz,C,v];simp only[endM];have e2:x.steps+1+R1.cnt+R2.cnt=x.steps+(R1.cnt+R2.cnt+1):=(by omega);rw[e2]
   split <;> first | rfl | (cases rest <;> rfl)
  ·refine aYq (i:=R1.cnt+R2.cnt) (fun j hj=>?_) a i (by have:i<1+R1.cnt+R2.cnt:=hi;omega);rcases BY j R1.cnt with h | h
   ·exact t j h
   ·have:=D (j - R1.cnt) (by omega);rw[<-aXz]at this
    rwa[show R1.cnt+(j - R1.cnt)=j by omega]at this
  ·show mwM p (1+R1.cnt+R2.cnt) x=wdM x+max (q.places.toNat+R1.wds) R2.wds;rw[m];show max (wdM x) (mwM p (R1.cnt+R2.cnt) (jY p x))=_;rw[cXq,u,E,B,F];omega
 | @callT d r q k n V s c g R1 hc ha hd hq hg h1 he ih1=>
  intro x fi rest a hf b hs z;have f:=yW (p:=p) a hf b hc (hs ▸ ha);have A:¬16<=rest.length+1:=(by omega);simp only[doM,if_neg A,hq,hg]at f;obtain⟨o,t,u⟩:=ih1 (jY p x) (n - p.env.imports.toNat) (⟨fi,r,k+1,V⟩ :: rest) (by rw[f];exact a) (by rw[f];exact hf) (by rw[f]) (by rw[f];exact hs) (by simp;omega);have B:wdM (jY p x)=wdM x+q.places.toNat:=(by rw[f];simp only[wdM,b,AW,Bk,aQk];omega);have m:(1+R1.cnt:Nat)=R1.cnt+1:=Aa ..;refine⟨?_,fun i hi=>?_,?_⟩
  ·show stN p (1+R1.cnt) x=_;rw[m];show stN p R1.cnt (jY p x)=_;rw[o,f];simp only[endM,he,if_false,sV]
   congr 1
   omega
  ·exact aYq (i:=R1.cnt) t a i (by have:i<1+R1.cnt:=hi;omega)
  ·show mwM p (1+R1.cnt) x=wdM x+(q.places.toNat+R1.wds);rw[m];show max (wdM x) (mwM p R1.cnt (jY p x))=_;rw[u,B];omega
 | @deep d r k n V s c hc ha hd=>
  intro x fi rest a hf b hs z;have h1:=yW (p:=p) a hf b hc (hs ▸ ha);have G:16<=rest.length+1:=(by omega);simp only[doM,if_pos G]at h1;refine⟨?_,fun i hi=>?_,?_⟩
  ·show jY p x=_;rw[h1];simp only[endM,sV];rw[<-hs];rfl
  ·have:i=0:=(by have:i<1:=hi;omega);subst this;exact a
  ·show max (wdM x) 0=_;simp
def jW(p:RowsD)(n:Nat)(a:List Nat)(s:StD):MaD:=
 if(n:Int)<p.env.imports then⟨[],s,[],0,0,false,some (n,a)⟩
 else match p.fns[n - p.env.imports.toNat]?,p.env.sigs[n]? with
  | some q,some g=>⟨[⟨n - p.env.imports.toNat,q,0,initV q (lowL g.inn a)⟩],s,[],0,0,false,none⟩
  | _,_=>⟨[],s,[],0,0,false,none⟩
def lX(p:RowsD)(n dc:Nat):Nat:=if(n:Int)<p.env.imports then 1 else dc
theorem aWm{p:RowsD}{dc wd:Nat}{g:SigD}{a:List Nat}{s s2:StD}{e2:Int}(hg:p.env.sigs[n]? = some g)(h:CDid p 8 0 n g a s s2 e2 dc wd l):
  stN p (lX p n dc) (jW p n a s)=⟨[],s2,if e2=0 then l else[],e2,lX p n dc,true,(jW p n a s).first⟩/\(∀ i,i<lX p n dc->(stN p i (jW p n a s)).over=false)/\mwM p (lX p n dc) (jW p n a s)=wd:=by
 have c:p.env.sigs.getD n ⟨[],[]⟩=g:=by rw[Ab,hg];rfl
 cases h with
 | host hi=>
  unfold lX jW;simp only[if_pos hi];refine⟨?_,fun i h=>?_,?_⟩
  ·simp only[stN,jY,goM,c,sV,AZ,if_false]
  ·have:i=0:=(by omega);subst this;rfl
  ·show max (wdM _) 0=0;simp[wdM]
 | deep hi hd=>omega
 | @call q R hi hd hq h1=>
  unfold lX jW;simp only[if_neg hi,hq,hg];obtain⟨d,e,f⟩:=dVb h1 ⟨[⟨n - p.env.imports.toNat,q,0,initV q (lowL g.inn a)⟩],s,[],0,0,false,none⟩ _ [] rfl rfl rfl rfl rfl;refine⟨?_,e,?_⟩
  ·rw[d];simp only[endM]
   split
   ·rename_i b;simp only[aVn,sV,b,if_true,Ai]
   ·rename_i b;simp only[sV,b,if_false,Ai]
  ·rw[f];simp[wdM,aQk]
theorem wQ{e:EnvD}(h:envOk e=true){g:SigD}(hg:e.sigs[n]? = some g):g.inn.length<=8/\g.out.length<=8:=by
 unfold envOk at h;simp only[Ag,BX]at h;have:=h.2.2 g (Aw hg);unfold sigOk lV at this;simp only[Ag,decide_eq_true_eq]at this;exact⟨this.1.1,this.2.1⟩
structure FrOk (p:RowsD) (f:FrD):Prop where
 row:p.fns[f.fi]? = some f.r
 k:f.k<f.r.code.length
 len:f.V.length=f.r.places.toNat
 a64:All64 f.V
def ChainOk:List FrD->Prop
 | f :: g :: rest=>(∃ c,g.r.code[g.k - 1]? = some c/\1<=g.k/\c.op=16/\c.outs.length=f.r.sig.out.length)/\ChainOk (g :: rest)
 | _=>True
theorem ChainOk.tail{f:FrD}{l:List FrD}(h:ChainOk (f :: l)):ChainOk l:=by
 cases l with
 | nil=>trivial
 | cons g rest=>exact h.2
theorem ChainOk.top{f a:FrD}{l:List FrD}(h:ChainOk (f :: l))(b:a.r=f.r):ChainOk (a :: l):=by
 cases l with
 | nil=>trivial
 | cons g rest=>
  obtain⟨⟨c,h1,h2,d,e⟩,i⟩:=h;exact⟨⟨c,h1,h2,d,by rw[b];exact e⟩,i⟩
structure MOk (p:RowsD) (x:MaD):Prop where
 frs:∀ f∈x.st,FrOk p f
 chain:ChainOk x.st
 depth:x.st.length<=16
 st:StOk p.env x.s
 o64:All64 x.out
 olen:x.out.length<=200000
 live:x.over=false->x.first=none->x.st ≠ []
 nf:x.first≠none->x.st = []
 fst:∀ n a,x.first=some (n,a)->(n:Int)<p.env.imports/\All64 a/\∃ g,p.env.sigs[n]? = some g/\a.length=g.inn.length
 fin:x.over=true->x.st = []
 go:x.over=false->x.out = []/\x.e=0
 log:x.s.log.length<=4096+9*x.steps
theorem aYp{p:RowsD}{x:MaD}(h:MOk p x){s:StD}{out:List Nat}{e:Int}(hs:StOk p.env s)(a:All64 out)(b:out.length<=200000)(c:s.log.length<=4096+9*x.steps):MOk p (sV x s out e) where
 frs:=fun f hf=>by simp[sV]at hf
 chain:=trivial
 depth:=Bx _
 st:=hs
 o64:=by show All64 (if e=0 then out else x.out);split <;> first | exact a | exact h.o64
 olen:=by show(if e=0 then out else x.out).length<=_;split <;> first | exact b | exact h.olen
 live:=fun h=>by simp[sV]at h
 nf:=fun _=>rfl
 fst:=h.fst
 fin:=fun _=>rfl
 go:=fun h=>by simp[sV]at h
 log:=c
theorem MOk.tick{p:RowsD}{x:MaD}(h:MOk p x):MOk p { x with steps:=x.steps+1 }:=
 { h with log:=by have:=h.log;show x.s.log.length<=4096+9*(x.steps+1);omega }
theorem MOk.stack{p:RowsD}{x:MaD}(h:MOk p x){st:List FrD}{s:StD}(a:x.over=false)(hf:x.first=none)(b:st ≠ [])(h1:∀ f∈st,FrOk p f)(h2:ChainOk st)(c:st.length<=16)(hs:StOk p.env s)(d:s.log.length<=4096+9*x.steps):MOk p { x with st:=st,s:=s }:=
 { h with frs:=h1,chain:=h2,depth:=c,st:=hs,live:=fun _ _=>b,nf:=fun e=>absurd hf e,fin:=fun e=>(by rw[show x.over=true from e]at a;cases a),log:=d }
theorem FrOk.at{p:RowsD}{f:FrD}(h:FrOk p f)(a:k<f.r.code.length):FrOk p { f with k:=k }:=⟨h.row,a,h.len,h.a64⟩
theorem FrOk.put{p:RowsD}{f:FrD}(h:FrOk p f)(a:k<f.r.code.length){V:List Nat}(b:V.length=f.V.length)(ha:All64 V):FrOk p { f with k:=k,V:=V }:=⟨h.row,a,b.trans h.len,ha⟩
theorem bKd{p:RowsD}{f:FrD}{c:CodeD}(hp:ProgP p)(h:FrOk p f)(hc:f.r.code[f.k]? = some c)(h1:c.op≠273)(h2:c.op≠274)(a:c.op≠275)(b:c.op≠276)(d:c.op≠277):f.k+1<f.r.code.length:=by
 have e:=aQb (c:=c) (k:=f.k) h1 h2 a b d;have g:((f.k+1:Nat):Int)∈nextOf c f.k:=(by rw[e];simp);exact xY (hp.row _ _ h.row).1 hc g
theorem eZy{p:RowsD}{x:MaD}{f:FrD}{rest:List FrD}{c:CodeD}(hp:ProgP p)(G:∀ (i:Nat) q,p.fns[i]? = Option.some q->∀ c∈q.code,c.n<18446744073709551616)(a:MOk p x)(u:x.over=false)(hf:x.first=none)(hs:x.st=f :: rest)(hc:f.r.code[f.k]? = some c)(steps:Nat)(H:steps=x.steps+1):
  MOk p (doM p { x with steps:=steps } f rest c (actV p.env c f.k (argV p.env f.r c f.V) x.s)):=by
 subst H;have h:=a.tick;have hF:=a.frs f (by rw[hs];exact Ac ..);have A:=(hp.row _ _ hF.row).1;have D:=Aw hc;have v:=A.code c D;have w:=uX p.env f.r c hF.a64;have I:=aYw A v f.V;have E:=aKx (k:=f.k) a.st w (G _ _ hF.row c D);have F:=aJs (e:=p.env) (c:=c) (k:=f.k) (s:=x.s) I;have aA:=a.log;have y:=a.depth;rw[hs]at y;have d:∀ g∈rest,FrOk p g:=fun g hg=>a.frs g (by rw[hs];exact Bz _ hg);have j:=a.chain;rw[hs]at j
 cases ha:actV p.env c f.k (argV p.env f.r c f.V) x.s with
 | go k=>
  obtain⟨hn,_⟩:=bJf ha v;have m:=xY A hc hn
  exact h.stack u hf (by simp) (fun g hg=>by
   rcases List.mem_cons.1 hg with rfl | hg
   ·exact hF.at m
   ·exact d g hg) (j.top rfl) y h.st h.log
 | ret l=>
  obtain⟨_,rfl⟩:=aJo ha;show MOk p (aVn { x with steps:=x.steps+1 } (argV p.env f.r c f.V) rest)
  cases rest with
  | nil=>exact aYp h h.st w (by omega) h.log
  | cons g rest=>
   have B:=d g (Ac ..)
   exact h.stack u hf (by simp) (fun q hq=>by
    rcases List.mem_cons.1 hq with rfl | hq
    ·exact B.put B.k ((aQz _ _ _).trans (aZv _ _)) (yY _ _ _ w (aKl _ B.a64))
    ·exact d q (Bz _ hq)) (j.tail.top rfl) (by simp at y ⊢;omega) h.st h.log
 | vals l s=>
  obtain⟨h1,h2,J,K,L,_⟩:=uZ ha;have m:=bKd hp hF hc h1 h2 J K L;have hv:=E.1 l s ha;have M:=F.1 l s ha
  exact h.stack u hf (by simp) (fun q hq=>by
   rcases List.mem_cons.1 hq with rfl | hq
   ·exact hF.put m (aQz _ _ _) (yY _ _ _ hv.2 hF.a64)
   ·exact d q hq) (j.top rfl) y hv.1 (by show s.log.length<=4096+9*(x.steps+1);omega)
 | trap e s=>
  have M:=F.2 e s ha;exact aYp h (E.2 e s ha) nW (Bx _) (by show s.log.length<=4096+9*(x.steps+1);omega)
 | call n=>
  obtain⟨C,rfl,N⟩:=rJ ha;have m:=bKd hp hF hc (by omega) (by omega) (by omega) (by omega) (by omega);obtain⟨q,g,hq,hg,O⟩:=aVa hp C v N;show MOk p (if 16<=rest.length+1 then _ else _);by_cases hd:16<=rest.length+1
  ·rw[if_pos hd];exact aYp h h.st nW (Bx _) h.log
  ·rw[if_neg hd];simp only[hq,hg];have P:=(hp.row _ _ hq).1;refine h.stack u hf (by simp) (fun z t=>?_) ⟨⟨c,?_,by simp,C,?_⟩,j.top rfl⟩ (by simp;omega) h.st h.log
   ·rcases List.mem_cons.1 t with rfl | t
    ·exact⟨hq,Aj Nat.one_pos P.n1,aQk _ _,xQ _ (oV _ _ w)⟩
    ·rcases List.mem_cons.1 t with rfl | t
     ·exact hF.at m
     ·exact d z t
   ·show f.r.code[f.k+1 - 1]? = some c;rw[By];exact hc
   ·obtain⟨i,o,b,_,Q,_⟩:=iQ v;rw[C]at b;have b:(p.env.sigs[c.n]?).map (fun g=>(g.inn,g.out))=some (i,o):=b;rw[hg]at b;injection b with b;injection b with e1 e2;rw[Q,<-e2,O]
theorem dKz{p:RowsD}{x:MaD}(hp:ProgP p)(b:∀ (i:Nat) q,p.fns[i]? = Option.some q->∀ c∈q.code,c.n<18446744073709551616)(h:MOk p x):MOk p (jY p x):=by
 cases ho:x.over with
 | true=>
  unfold jY;rw[ho];exact h
 | false=>
  rcases hf:x.first with _ | ⟨n,a⟩
  ·rcases hs:x.st with _ | ⟨f,rest⟩
   ·exact absurd hs (h.live ho hf)
   ·have hF:=h.frs f (by rw[hs];exact Ac ..);rw[yW ho hf hs (Ax hF.k) rfl];exact eZy hp b h ho hf hs (Ax hF.k) _ rfl
  ·unfold jY goM;obtain⟨hi,ha,g,hg,af⟩:=h.fst n a hf;have d:p.env.sigs.getD n ⟨[],[]⟩=g:=(by rw[Ab,hg];rfl);simp only[ho,hf,d,AZ,if_false];have hn:n<18446744073709551616:=(by have:=mV hp.env;omega);have h1:=aJr (n:=n) (outs:=g.out) h.st (oV g.inn _ ha) hn;have j:=wQ hp.env hg;have h2:=aWv (n:=n) (outs:=g.out) (s:=x.s) (a:=lowL g.inn a) (AV (aKy _ _) j.1);have h3:=h.log
   have l:=aYp h.tick (e:=(hostV n g.out (lowL g.inn a) x.s).2.1) h1.1 h1.2 (by
    unfold hostV
    split
    ·show(lowL g.out _).length<=_;have:=aKy g.out (x.s.input.take g.out.length);omega
    ·exact Bx _) (by show _<=4096+9*(x.steps+1);omega)
   rw[show(some (n,a):Option (Nat×List Nat))=x.first from hf.symm];exact l
theorem bWq{p:RowsD}(hp:ProgP p)(a:∀ (i:Nat) q,p.fns[i]? = Option.some q->∀ c∈q.code,c.n<18446744073709551616):∀ (i:Nat) {x:MaD},MOk p x->MOk p (stN p i x)
 | 0,_,h=>h
 | i+1,_,h=>bWq hp a i (dKz hp a h)
theorem dQc{p:RowsD}{x:MaD}:(goM p x).steps=x.steps:=by
 unfold goM
 split
 ·rfl
 ·split
  ·rfl
  ·split
   ·rfl
   ·rename_i f rest _ _ c _;generalize actV p.env c f.k (argV p.env f.r c f.V) x.s=A
    cases A with
    | ret l=>cases rest <;> rfl
    | call n=>
     show(if _ then _ else _:MaD).steps=_
     split
     ·rfl
     ·split <;> rfl
    | _=>rfl
theorem cQx{p:RowsD}{x:MaD}(h:x.over=false):(jY p x).steps=x.steps+1:=by
 unfold jY;rw[h];simp only[AZ,if_false];exact dQc
theorem bKe{p:RowsD}:∀ (i:Nat) {x:MaD},(∀ j,j<i->(stN p j x).over=false)->(stN p i x).steps=x.steps+i
 | 0,_,_=>rfl
 | i+1,x,h=>by
  have h1:=bKe i (x:=jY p x) (fun j hj=>h (j+1) (by omega));show(stN p i (jY p x)).steps=_;rw[h1,cQx (x:=x) (h 0 (by omega))];omega
structure KaC where
 w0:Bb
 a:Bc
 b:Bc
 d:Bc
 f:Bc
 p:RowsD
 mm:Nat
 cb:Nat
 gv:Bc
 fv:Bc
 nb:Nat
 ab:Nat
 av:Bc
 zf:Nat
 of_:Nat
structure KaS where
 x:MaD
 lab:Nat->Nat
 lv:Bc
 iv:Bc
 mv:Bc
 sv:Bc
 ov:Bc
 ps:List Bc
structure KK (X X':KaS) (w w':Bb):Prop where
 os:w'.os=w.os
 tape:w'.tape=w.tape
 output:w'.output=w.output
 size:w.heap.size<=w'.heap.size
 keep:∀ k,k<w.heap.size->X.lab k=0->w'.heap[k]? = w.heap[k]? /\ X'.lab k=0
theorem KK.refl(X:KaS)(w:Bb):KK X X w w:=⟨rfl,rfl,rfl,Aq _,fun _ _ h=>⟨rfl,h⟩⟩
theorem KK.trans{x y z:KaS}{a w2 b:Bb}(h:KK x y a w2)(k:KK y z w2 b):KK x z a b:=
 ⟨k.os.trans h.os,k.tape.trans h.tape,k.output.trans h.output,AV h.size k.size,fun i hi c=>by
  have h1:=h.keep i hi c;have h2:=k.keep i (Aj hi h.size) h1.2
  exact⟨h2.1.trans h1.1,h2.2⟩⟩
theorem KK.eYy{x:KaS}(h:Bd w.heap.size w w'):KK x x w w':=⟨h.os,h.tape,h.output,h.size,fun k a b=>⟨h.block k a,b⟩⟩
theorem KK.below{z x:KaS}(h:KK z x w0 w)(a:Bd w.heap.size w w'):KK z x w0 w':=h.trans (KK.eYy a)
theorem KK.drew{z x:KaS}{w0 w:Bb}(h:KK z x w0 w):KK z x w0 w.drew:=h.below (Ay _ _).drew
theorem KK.to{x x' y:KaS}(h:KK x x' w w')(h1:y.lab=x'.lab):KK x y w w':=
 ⟨h.os,h.tape,h.output,h.size,fun k a b=>⟨(h.keep k a b).1,by rw[h1];exact(h.keep k a b).2⟩⟩
theorem KK.from{x y x':KaS}(h:KK x x' w w')(h1:y.lab=x.lab):KK y x' w w':=
 ⟨h.os,h.tape,h.output,h.size,fun k a b=>h.keep k a (by rw[<-h1];exact b)⟩
theorem KK.set{x y z:KaS}(h:KK z x w0 w)(i:Nat)(u:Bc)(hg:x.lab g≠0\/w0.heap.size<=g)(a:y.lab=x.lab):KK z y w0 (w.setCell ⟨g,i,none⟩ u):=
 ⟨h.os,h.tape,h.output,AV h.size (by simp[AJ]),fun k b c=>by
  have h2:=h.keep k b c;refine⟨(Az _ _ _ _ (fun e=>?_)).trans h2.1,by rw[a];exact h2.2⟩;have e:k=g:=e;subst e;rcases hg with hg | hg
  ·exact hg h2.2
  ·omega⟩
theorem KK.grown{x z:KaS}{r:Option Nat}(h:KK z x w0 w)(hg:w.grownBy w' r)(c:∀ k,r=some k->x.lab k≠0\/w0.heap.size<=k):KK z x w0 w':=
 ⟨hg.os.trans h.os,hg.tape.trans h.tape,hg.output.trans h.output,AV h.size hg.size,fun k a d=>by
  have h2:=h.keep k a d;refine⟨(hg.block k (Aj a h.size) (fun e=>?_)).trans h2.1,h2.2⟩;rcases c k e.symm with b | b
  ·exact b h2.2
  ·omega⟩
theorem KK.blk{x x':KaS}(h:KK x x' w w'){cs:Array Bc}(k:Blk w g e cs)(a:x.lab g=0):Blk w' g e cs:=((h.keep g k.lt a).1).trans k
theorem KK.ur{x x':KaS}(h:KK x x' w w')(k:UR w v l)(a:∀ g,v.ownBlock=some g->x.lab g=0):UR w' v l:=
 k.heap h.size (fun g hg b=>(h.keep g b (a g hg)).1)
def mK(lab:Nat->Nat)(v:Bc)(c:Nat):Nat->Nat:=fun k=>if v.ownBlock=some k then c else lab k
theorem xV{lab:Nat->Nat}(h:v.ownBlock=some k):mK lab v c k=c:=by unfold mK;rw[if_pos h]
theorem tQ{lab:Nat->Nat}(h:v.ownBlock≠some k):mK lab v c k=lab k:=by unfold mK;rw[if_neg h]
theorem KK.fQc{x z:KaS}(h:KK z x w0 w){c:Nat}(hv:∀ k,v.ownBlock=some k->w0.heap.size<=k\/x.lab k≠0):KK z { x with lab:=mK x.lab v c } w0 w:=
 ⟨h.os,h.tape,h.output,h.size,fun k b d=>by
  have h2:=h.keep k b d;refine⟨h2.1,?_⟩;show mK x.lab v c k=0;rw[tQ]
  ·exact h2.2
  ·intro e;rcases hv k e with a | a
   ·omega
   ·exact a h2.2⟩
def kCells(C:KaC)(X:KaS):Array Bc:=#[C.a,.int .i64 C.p.env.imports,C.b,C.d,.bool C.p.env.mem,C.f,X.mv,.int .i64 X.x.s.most,C.gv,.int .i64 (X.x.s.fuel:Int),X.iv,X.lv,X.sv,X.ov,.int .i64 X.x.e,.int .i64 (X.x.steps:Int),.bool X.x.over,C.fv]
def vY(C:KaC)(f:FrD)(v:Bc):List Bc:=[.pointer (some ⟨C.zf,C.of_+f.fi*5,none⟩),.int .i64 (f.k:Int),v]
def stCells(C:KaC):List FrD->List Bc->List Bc
 | f :: l,v :: vs=>stCells C l vs++vY C f v
 | _,_=>[]
def PlsV(w:Bb)(base:Nat)(lab:Nat->Nat):List FrD->List Bc->Prop
 | f :: l,v :: vs=>(w.ownsRow base 52 1 v f.V.length (u64V f.V)/\∀ k,v.ownBlock=some k->lab k=10+l.length)/\PlsV w base lab l vs
 | [],[]=>True
 | _,_=>False
theorem PlsV.len{w:Bb}{base:Nat}{lab:Nat->Nat}:∀ {l:List FrD} {vs:List Bc},PlsV w base lab l vs->vs.length=l.length
 | [],[],_=>rfl
 | f :: l,v :: vs,h=>by simp[PlsV.len h.2]
 | [],_ :: _,h=>h.elim
 | _ :: _,[],h=>h.elim
theorem PlsV.heap{w w':Bb}{base:Nat}{lab c:Nat->Nat}:∀ {l:List FrD} {vs:List Bc},PlsV w base lab l vs->(∀ k,10<=lab k->lab k<10+l.length->k<w.heap.size->w'.heap[k]? = w.heap[k]? /\ c k=lab k)->PlsV w' base c l vs
 | [],[],_,_=>trivial
 | f :: l,v :: vs,h,b=>by
  refine⟨⟨xZ h.1.1 (fun k a d=>(b k (by rw[h.1.2 k a];omega) (by rw[h.1.2 k a];simp) d).1),fun k a=>?_⟩,h.2.heap (fun k h1 h2=>b k h1 (by simp;omega))⟩;rw[(b k (by rw[h.1.2 k a];omega) (by rw[h.1.2 k a];simp) (h.1.1.lt k a).2).2,h.1.2 k a]
 | [],_ :: _,h,_=>h.elim
 | _ :: _,[],h,_=>h.elim
theorem zZ(C:KaC):∀ {l:List FrD} {vs:List Bc},vs.length=l.length->(stCells C l vs).length=l.length*3
 | [],[],_=>rfl
 | f :: l,v :: vs,h=>by
  have:=zZ C (l:=l) (vs:=vs) (by simpa using h);simp[stCells,vY,this];omega
 | [],_ :: _,h=>by simp at h
 | _ :: _,[],h=>by simp at h
def FstV(C:KaC)(lab:Nat->Nat)(w:Bb):Option (Nat×List Nat)->Prop
 | none=>C.fv = .nilFunc
 | some (n,a)=>(∃ fn ca,C.fv = .func fn #[] ca)/\Blk w C.nb 3 #[.int .i64 (n:Int)]/\Blk w C.ab 30 #[C.av]/\UR w C.av a/\lab C.nb=9/\lab C.ab=9/\∀ k,C.av.ownBlock=some k->lab k=9
structure KRest (C:KaC) (X:KaS) (w:Bb):Prop where
 bel:Bd C.w0.heap.size C.w0 w
 lb:∀ k,X.lab k≠0->C.w0.heap.size<=k/\k<w.heap.size
 cl:X.lab C.cb=1
 mm:Blk w C.mm 70 #[.pointer (some ⟨C.cb,0,none⟩)]
 ml:X.lab C.mm=2
 glo:w.ownsRow C.w0.heap.size 52 1 C.gv X.x.s.globals.length (u64V X.x.s.globals)
 l3:∀ k,C.gv.ownBlock=some k->X.lab k=3
 log:w.ownsRow C.w0.heap.size 52 1 X.lv X.x.s.log.length (u64V X.x.s.log)
 l4:∀ k,X.lv.ownBlock=some k->X.lab k=4
 inp:UR w X.iv X.x.s.input
 l5:∀ k,X.iv.ownBlock=some k->X.lab k=5
 mem:BR w X.mv X.x.s.mem
 l6:∀ k,X.mv.ownBlock=some k->X.lab k=6
 stk:w.ownsRow C.w0.heap.size 83 3 X.sv X.x.st.length (stCells C X.x.st X.ps)
 l7:∀ k,X.sv.ownBlock=some k->X.lab k=7
 out:UR w X.ov X.x.out
 l8:∀ k,X.ov.ownBlock=some k->X.lab k=8
 fst:FstV C X.lab w X.x.first
 pls:PlsV w C.w0.heap.size X.lab X.x.st X.ps
structure KRef (C:KaC) (X:KaS) (w:Bb):Prop extends KRest C X w where
 cb:Blk w C.cb 68 (kCells C X)
structure KC (C:KaC):Prop where
 rows:RowsV C.w0 (.agg #[C.a,.int .i64 C.p.env.imports,C.b,C.d,.bool C.p.env.mem,C.f]) C.p
 ok:ProgP C.p
 adr:C.p.fns ≠ []->∃ n c,C.f = .slice (some ⟨C.zf,C.of_,none⟩) n c
theorem FstV.heap{C:KaC}{lab d:Nat->Nat}{w w':Bb}{o:Option (Nat×List Nat)}(h:FstV C lab w o)(hs:w.heap.size<=w'.heap.size)(b:∀ k,lab k=9->w'.heap[k]? = w.heap[k]? /\ d k=9):FstV C d w' o:=by
 cases o with
 | none=>exact h
 | some x=>
  obtain⟨n,a⟩:=x;obtain⟨h1,h2,i,j,e,f,g⟩:=h;exact⟨h1,(b _ e).1.trans h2,(b _ f).1.trans i,j.heap hs (fun k c _=>(b k (g k c)).1),(b _ e).2,(b _ f).2,fun k c=>(b k (g k c)).2⟩
theorem KRest.but{C:KaC}{X Y:KaS}(h:KRest C X w)(c:Nat)(hs:w.heap.size<=w'.heap.size)(u:Bd C.w0.heap.size C.w0 w')(d:∀ k,X.lab k≠0->X.lab k≠c->w'.heap[k]? = w.heap[k]?)
  (y:∀ k,Y.lab k≠0->C.w0.heap.size<=k/\k<w'.heap.size) (f:∀ k,X.lab k≠0->X.lab k≠c->Y.lab k=X.lab k)
  (c1:Y.lab C.cb=1) (i:c≠2)
  (l:c=3/\(w'.ownsRow C.w0.heap.size 52 1 C.gv Y.x.s.globals.length (u64V Y.x.s.globals)/\∀ k,C.gv.ownBlock=some k->Y.lab k=3)\/c≠3/\Y.x.s.globals=X.x.s.globals)
  (m:c=4/\(w'.ownsRow C.w0.heap.size 52 1 Y.lv Y.x.s.log.length (u64V Y.x.s.log)/\∀ k,Y.lv.ownBlock=some k->Y.lab k=4)\/c≠4/\Y.lv=X.lv/\Y.x.s.log=X.x.s.log)
  (n:c=5/\(UR w' Y.iv Y.x.s.input/\∀ k,Y.iv.ownBlock=some k->Y.lab k=5)\/c≠5/\Y.iv=X.iv/\Y.x.s.input=X.x.s.input)
  (o:c=6/\(BR w' Y.mv Y.x.s.mem/\∀ k,Y.mv.ownBlock=some k->Y.lab k=6)\/c≠6/\Y.mv=X.mv/\Y.x.s.mem=X.x.s.mem)
  (p:(w'.ownsRow C.w0.heap.size 83 3 Y.sv Y.x.st.length (stCells C Y.x.st Y.ps)/\∀ k,Y.sv.ownBlock=some k->Y.lab k=7)\/c≠7/\Y.sv=X.sv/\Y.x.st.length=X.x.st.length/\stCells C Y.x.st Y.ps=stCells C X.x.st X.ps)
  (r:c=8/\(UR w' Y.ov Y.x.out/\∀ k,Y.ov.ownBlock=some k->Y.lab k=8)\/c≠8/\Y.ov=X.ov/\Y.x.out=X.x.out)
  (g:c≠9/\Y.x.first=X.x.first)
  (e10:PlsV w' C.w0.heap.size Y.lab Y.x.st Y.ps\/c<10/\Y.x.st=X.x.st/\Y.ps=X.ps):KRest C Y w':=by
 have q:∀ {v:Bc} {j:Nat},(∀ k,v.ownBlock=some k->X.lab k=j)->j≠0->j≠c->(∀ k,v.ownBlock=some k->k<w.heap.size->w'.heap[k]? = w.heap[k]?)/\∀ k,v.ownBlock=some k->Y.lab k=j:=fun b h1 h2=>
  ⟨fun k a _=>d k (by rw[b k a];exact h1) (by rw[b k a];exact h2),fun k a=>by rw[f k (by rw[b k a];exact h1) (by rw[b k a];exact h2)];exact b k a⟩
 refine⟨u,y,c1,?_,?_,?_,?_,?_,?_,?_,?_,?_,?_,?_,?_,?_,?_,?_,?_⟩
 ·exact(d C.mm (by rw[h.ml];decide) (by rw[h.ml];exact fun e=>i e.symm)).trans h.mm
 ·rw[f C.mm (by rw[h.ml];decide) (by rw[h.ml];exact fun e=>i e.symm)];exact h.ml
 ·rcases l with⟨_,e⟩ | ⟨hc,e⟩
  ·exact e.1
  ·rw[e];exact xZ h.glo (q h.l3 (by decide) (fun e=>hc e.symm)).1
 ·rcases l with⟨_,e⟩ | ⟨hc,e⟩
  ·exact e.2
  ·exact(q h.l3 (by decide) (fun e=>hc e.symm)).2
 ·rcases m with⟨_,e⟩ | ⟨hc,e,e'⟩
  ·exact e.1
  ·rw[e,e'];exact xZ h.log (q h.l4 (by decide) (fun e=>hc e.symm)).1
 ·rcases m with⟨_,e⟩ | ⟨hc,e,e'⟩
  ·exact e.2
  ·rw[e];exact(q h.l4 (by decide) (fun e=>hc e.symm)).2
 ·rcases n with⟨_,e⟩ | ⟨hc,e,e'⟩
  ·exact e.1
  ·rw[e,e'];exact h.inp.heap hs (q h.l5 (by decide) (fun e=>hc e.symm)).1
 ·rcases n with⟨_,e⟩ | ⟨hc,e,e'⟩
  ·exact e.2
  ·rw[e];exact(q h.l5 (by decide) (fun e=>hc e.symm)).2
 ·rcases o with⟨_,e⟩ | ⟨hc,e,e'⟩
  ·exact e.1
  ·rw[e,e'];exact h.mem.heap hs (q h.l6 (by decide) (fun e=>hc e.symm)).1
 ·rcases o with⟨_,e⟩ | ⟨hc,e,e'⟩
  ·exact e.2
  ·rw[e];exact(q h.l6 (by decide) (fun e=>hc e.symm)).2
 ·rcases p with e | ⟨hc,e,e',t⟩
  ·exact e.1
  ·rw[e,e',t];exact xZ h.stk (q h.l7 (by decide) (fun e=>hc e.symm)).1
 ·rcases p with e | ⟨hc,e,e',t⟩
  ·exact e.2
  ·rw[e];exact(q h.l7 (by decide) (fun e=>hc e.symm)).2
 ·rcases r with⟨_,e⟩ | ⟨hc,e,e'⟩
  ·exact e.1
  ·rw[e,e'];exact h.out.heap hs (q h.l8 (by decide) (fun e=>hc e.symm)).1
 ·rcases r with⟨_,e⟩ | ⟨hc,e,e'⟩
  ·exact e.2
  ·rw[e];exact(q h.l8 (by decide) (fun e=>hc e.symm)).2
 ·rw[g.2];exact h.fst.heap hs (fun k a=>⟨d k (by rw[a];decide) (by rw[a];exact fun e=>g.1 e.symm),by rw[f k (by rw[a];decide) (by rw[a];exact fun e=>g.1 e.symm)];exact a⟩)
 ·rcases e10 with e | ⟨hc,e,e'⟩
  ·exact e
  ·rw[e,e'];exact h.pls.heap (fun k h1 _ _=>⟨d k (by omega) (by omega),f k (by omega) (by omega)⟩)
theorem KRef.heap{C:KaC}{X:KaS}{w w':Bb}(h:KRef C X w)(hs:w.heap.size<=w'.heap.size)(a:∀ k,X.lab k≠0->w'.heap[k]? = w.heap[k]?)(c:Bd C.w0.heap.size C.w0 w'):KRef C X w':=
 { h.toKRest.but (Y:=X) 0 hs c (fun k h1 _=>a k h1) (fun k b=>⟨(h.lb k b).1,Aj (h.lb k b).2 hs⟩) (fun _ _ _=>rfl) h.cl (by decide) (.inr ⟨by decide,rfl⟩) (.inr ⟨by decide,rfl,rfl⟩) (.inr ⟨by decide,rfl,rfl⟩) (.inr ⟨by decide,rfl,rfl⟩) (.inr ⟨by decide,rfl,rfl,rfl⟩) (.inr ⟨by decide,rfl,rfl⟩) ⟨by decide,rfl⟩ (.inr ⟨by decide,rfl,rfl⟩)with
  cb:=(a C.cb (by rw[h.cl];decide)).trans h.cb }
theorem KRef.below{C:KaC}{X:KaS}(h:KRef C X w)(a:Bd w.heap.size w w'):KRef C X w':=
 h.heap a.size (fun k b=>a.block k (h.lb k b).2) (h.bel.trans (a.mono h.bel.size))
theorem KRef.drewN{C:KaC}{X:KaS}{w:Bb}(h:KRef C X w)(n:Nat):KRef C X (w.drewN n):=h.below (fV (Ay _ _) n)
theorem KRef.drew{C:KaC}{X:KaS}{w:Bb}(h:KRef C X w):KRef C X w.drew:=h.below (Ay _ _).drew
theorem KRef.fQf{C:KaC}{X:KaS}(h:KRef C X w)(u:Bc)(hg:X.lab g=0)(a:C.w0.heap.size<=g):KRef C X (w.setCell ⟨g,i,none⟩ u):=
 h.heap (by simp[AJ]) (fun k b=>Az _ _ _ _ (fun e=>b (by have:k=g:=e;rw[this];exact hg))) (h.bel.setCell (p:=⟨g,i,none⟩) a _)
theorem KRef.fresh{C:KaC}{X:KaS}(h:KRest C X w)(hk:w.heap.size<=k):X.lab k=0:=by
 by_cases a:X.lab k=0
 ·exact a
 ·have:=(h.lb k a).2;omega
theorem KRest.fQc{C:KaC}{X:KaS}(h:KRest C X w)(v:Bc)(c:Nat)(hv:∀ k,v.ownBlock=some k->X.lab k=0/\C.w0.heap.size<=k/\k<w.heap.size):KRest C { X with lab:=mK X.lab v c } w:=by
 have b:∀ k,X.lab k≠0->mK X.lab v c k=X.lab k:=fun k a=>tQ (fun e=>a (hv k e).1);refine h.but (Y:={ X with lab:=mK X.lab v c }) 0 (Aq _) h.bel (fun _ _ _=>rfl) (fun k a=>?_) (fun k a _=>b k a) ((b _ (by rw[h.cl];decide)).trans h.cl) (by decide) (.inr ⟨by decide,rfl⟩) (.inr ⟨by decide,rfl,rfl⟩) (.inr ⟨by decide,rfl,rfl⟩) (.inr ⟨by decide,rfl,rfl⟩) (.inr ⟨by decide,rfl,rfl,rfl⟩) (.inr ⟨by decide,rfl,rfl⟩) ⟨by decide,rfl⟩ (.inr ⟨by decide,rfl,rfl⟩);have a:mK X.lab v c k≠0:=a;by_cases e:v.ownBlock=some k
 ·exact(hv k e).2
 ·rw[tQ e]at a;exact h.lb k a
theorem KRef.fQc{C:KaC}{X:KaS}{w:Bb}(h:KRef C X w)(v:Bc)(c:Nat)(hv:∀ k,v.ownBlock=some k->X.lab k=0/\C.w0.heap.size<=k/\k<w.heap.size):KRef C { X with lab:=mK X.lab v c } w:=
 { h.toKRest.fQc v c hv with cb:=h.cb }
theorem KRest.fQn{C:KaC}{Y:KaS}(a:KRest C Y w){cs:Array Bc}(f:Blk w C.cb 68 cs)(i:Nat)(u:Bc)(hc:cs.setIfInBounds i u=kCells C Y):KRef C Y (w.setCell ⟨C.cb,i,none⟩ u):=by
 have g:C.w0.heap.size<=C.cb:=(a.lb C.cb (by rw[a.cl];decide)).1;have b:w.heap.size<=(w.setCell ⟨C.cb,i,none⟩ u).heap.size:=(by simp[AJ]);have h:∀ k,Y.lab k≠0->Y.lab k≠1->(w.setCell ⟨C.cb,i,none⟩ u).heap[k]? = w.heap[k]?:=fun k _ h1=>Az _ _ _ _ (fun e=>h1 (by have:k=C.cb:=e;rw[this];exact a.cl));have c:=gZ f i u;rw[hc]at c;exact { a.but (Y:=Y) 1 b (a.bel.setCell (p:=⟨C.cb,i,none⟩) g _) h (fun k d=>⟨(a.lb k d).1,Aj (a.lb k d).2 b⟩) (fun _ _ _=>rfl) a.cl (by decide) (.inr ⟨by decide,rfl⟩) (.inr ⟨by decide,rfl,rfl⟩) (.inr ⟨by decide,rfl,rfl⟩) (.inr ⟨by decide,rfl,rfl⟩) (.inr ⟨by decide,rfl,rfl,rfl⟩) (.inr ⟨by decide,rfl,rfl⟩) ⟨by decide,rfl⟩ (.inr ⟨by decide,rfl,rfl⟩)with cb:=c }
theorem KRef.fQg{C:KaC}{X Y:KaS}(h:KRef C X w)(a:KRest C Y w)(i:Nat)(u:Bc)(hc:(kCells C X).setIfInBounds i u=kCells C Y):KRef C Y (w.setCell ⟨C.cb,i,none⟩ u):=a.fQn h.cb i u hc
theorem KRef.cell{C:KaC}{X:KaS}{w:Bb}(h:KRef C X w)(i:Nat):w.cell? ⟨C.cb,i,none⟩=(kCells C X)[i]?:=h.cb.cell i
theorem KRef.eYx{C:KaC}{X:KaS}(h:KRef C X w):w.cell? ⟨C.mm,0,none⟩=some (.pointer (some ⟨C.cb,0,none⟩)):=h.mm.cell 0
theorem dVi{size cap:Nat}{b:List Bc}(h:w.ownsRow base e size (.slice (some ⟨g,0,none⟩) n cap) n b){m:Nat}(c:m<=n):w.ownsRow base e size (.slice (some ⟨g,0,none⟩) m cap) m (b.take (m*size)):=by
 have d:m*size<=n*size:=Nat.mul_le_mul_right size c;rcases h.2 with⟨h1,_⟩ | ⟨g',ae,cur,h1,f,hg,ah,i,j,k⟩
 ·cases h1
 ·injection h1 with a e2 l;injection a with a;injection a with a;subst a;subst l;refine⟨?_,.inr ⟨g,cap,cur,rfl,f,hg,by omega,i,j,?_⟩⟩
  ·rw[BZ,h.1];omega
  ·rw[<-k,List.take_take,BV d]
theorem PlsV.cons{lab:Nat->Nat}{f:FrD}{l:List FrD}:∀ {ps:List Bc},PlsV w base lab (f :: l) ps->∃ v vs,ps=v :: vs
 | v :: vs,_=>⟨v,vs,rfl⟩
 | [],h=>h.elim
theorem KRest.same{C:KaC}{X:KaS}(h:KRest C X w)(Y:KaS)(a:Y.lab=X.lab:=by rfl)(c:Y.x.s.globals=X.x.s.globals:=by rfl)(d:Y.lv=X.lv:=by rfl)(e:Y.x.s.log=X.x.s.log:=by rfl)(f:Y.iv=X.iv:=by rfl)(g:Y.x.s.input=X.x.s.input:=by rfl)
  (i:Y.mv=X.mv:=by rfl) (j:Y.x.s.mem=X.x.s.mem:=by rfl) (l:Y.sv=X.sv:=by rfl) (b:Y.x.st=X.x.st:=by rfl) (m:Y.ov=X.ov:=by rfl) (n:Y.x.out=X.x.out:=by rfl) (o:Y.x.first=X.x.first:=by rfl) (e10:Y.ps=X.ps:=by rfl):KRest C Y w:=
 h.but 0 (Aq _) h.bel (fun _ _ _=>rfl) (fun k p=>h.lb k (by rw[<-a];exact p)) (fun k _ _=>by rw[a]) (by rw[a];exact h.cl) (by decide) (.inr ⟨by decide,c⟩) (.inr ⟨by decide,d,e⟩) (.inr ⟨by decide,f,g⟩) (.inr ⟨by decide,i,j⟩) (.inr ⟨by decide,l,by rw[b],by rw[b,e10]⟩) (.inr ⟨by decide,m,n⟩) ⟨by decide,o⟩ (.inr ⟨by decide,b,e10⟩)
theorem KRef.lcb{C:KaC}{X:KaS}(h:KRest C X w):X.lab C.cb≠0:=by rw[h.cl];decide
theorem KRef.fXa{C:KaC}{X:KaS}(h:KRef C X w)(n:Nat):KRef C { X with x:={ X.x with steps:=n } } (w.setCell ⟨C.cb,15,none⟩ (.int .i64 (n:Int))):=
 h.fQg (h.toKRest.same _) 15 _ (by simp[kCells])
theorem KRef.fXg{C:KaC}{X:KaS}(h:KRef C X w)(n:Nat):KRef C { X with x:={ X.x with s:={ X.x.s with fuel:=n } } } (w.setCell ⟨C.cb,9,none⟩ (.int .i64 (n:Int))):=
 h.fQg (h.toKRest.same _) 9 _ (by simp[kCells])
theorem KRef.fXh{C:KaC}{X:KaS}(h:KRef C X w)(n:Int):KRef C { X with x:={ X.x with e:=n } } (w.setCell ⟨C.cb,14,none⟩ (.int .i64 n)):=
 h.fQg (h.toKRest.same _) 14 _ (by simp[kCells])
theorem KRef.fXi{C:KaC}{X:KaS}(h:KRef C X w)(b:Bool):KRef C { X with x:={ X.x with over:=b } } (w.setCell ⟨C.cb,16,none⟩ (.bool b)):=
 h.fQg (h.toKRest.same _) 16 _ (by simp[kCells])
theorem KRef.fXj{C:KaC}{X:KaS}(h:KRef C X w):KRef C { X with sv:=.slice none 0 0,ps:=[],x:={ X.x with st:=[] } } (w.setCell ⟨C.cb,12,none⟩ (.slice none 0 0)):=
 h.fQg (Y:={ X with sv:=.slice none 0 0,ps:=[],x:={ X.x with st:=[] } }) { h.toKRest with stk:=BJ _ _ _ _,l7:=(fun _ e=>by cases e),pls:=trivial } 12 _ (by simp[kCells])
theorem KRef.fXk{C:KaC}{X:KaS}(h:KRef C X w)(v:Bc)(l:List Nat)(hv:UR w v l)(a:∀ k,v.ownBlock=some k->X.lab k=8):KRef C { X with ov:=v,x:={ X.x with out:=l } } (w.setCell ⟨C.cb,13,none⟩ v):=
 h.fQg (Y:={ X with ov:=v,x:={ X.x with out:=l } }) { h.toKRest with out:=hv,l8:=a } 13 _ (by simp[kCells])
theorem KRef.fQh{C:KaC}{X:KaS}(h:KRef C X w)(v:Bc)(l:List Nat)(hv:BR w v l)(a:∀ k,v.ownBlock=some k->X.lab k=6):KRef C { X with mv:=v,x:={ X.x with s:={ X.x.s with mem:=l } } } (w.setCell ⟨C.cb,6,none⟩ v):=
 h.fQg (Y:={ X with mv:=v,x:={ X.x with s:={ X.x.s with mem:=l } } }) { h.toKRest with mem:=hv,l6:=a } 6 _ (by simp[kCells])
theorem KRef.fQk{C:KaC}{X:KaS}(h:KRef C X w)(v:Bc)(l:List Nat)(hv:UR w v l)(a:∀ k,v.ownBlock=some k->X.lab k=5):KRef C { X with iv:=v,x:={ X.x with s:={ X.x.s with input:=l } } } (w.setCell ⟨C.cb,10,none⟩ v):=
 h.fQg (Y:={ X with iv:=v,x:={ X.x with s:={ X.x.s with input:=l } } }) { h.toKRest with inp:=hv,l5:=a } 10 _ (by simp[kCells])
theorem KRef.fQq{C:KaC}{X:KaS}(h:KRef C X w)(v:Bc)(st:List FrD)(ps:List Bc)(hv:w.ownsRow C.w0.heap.size 83 3 v st.length (stCells C st ps))(a:∀ k,v.ownBlock=some k->X.lab k=7)(hp:PlsV w C.w0.heap.size X.lab st ps):KRef C { X with sv:=v,ps:=ps,x:={ X.x with st:=st } } (w.setCell ⟨C.cb,12,none⟩ v):=
 h.fQg (Y:={ X with sv:=v,ps:=ps,x:={ X.x with st:=st } }) { h.toKRest with stk:=hv,l7:=a,pls:=hp } 12 _ (by simp[kCells])
theorem KC.row{C:KaC}(l:KC C){w:Bb}(m:Bd C.w0.heap.size C.w0 w){i:Nat}{r:RowD}(g:C.p.fns[i]? = some r):∃ p q s u,C.zf<w.heap.size/\w.cell? ⟨C.zf,C.of_+i*5,none⟩=some p/\w.cell? ⟨C.zf,C.of_+i*5+1,none⟩=some q/\w.cell? ⟨C.zf,C.of_+i*5+2,none⟩=some (.int .i64 r.places)/\w.cell? ⟨C.zf,C.of_+i*5+3,none⟩=some s/\w.cell? ⟨C.zf,C.of_+i*5+4,none⟩=some u /\
  Ints C.w0 p r.sig.inn/\Ints C.w0 q r.sig.out/\Ints C.w0 s r.params/\Structs 5 CodeC C.w0 u r.code:=by
 obtain⟨n,c,hf⟩:=l.adr (fun e=>by rw[e]at g;simp at g);obtain⟨a,b,d,f,e,_,_,_,t⟩:=l.rows;injection e with e;injection e with e;simp only[List.cons.injEq,and_true]at e;obtain⟨_,_,_,_,_,y⟩:=e;rw[<-y,hf]at t;obtain⟨b',o,p,q,s,u,e,x,z,A,k2,B,D,h⟩:=t.row g;injection e with e;injection e with E e2;subst E;subst e2;have k:=fun(j:Nat) (v:Bc) (F:C.w0.cell? ⟨C.zf,j,none⟩=some v)=>(m.cell (p:=⟨C.zf,j,none⟩) x).trans F;exact⟨p,q,s,u,Aj x m.size,k _ _ z,k _ _ A,k _ _ k2,k _ _ B,k _ _ D,h⟩
theorem KC.code{C:KaC}{w:Bb}(a:Bd C.w0.heap.size C.w0 w){A:Option Addr}{n f:Nat}{l:List CodeD}(h:Structs 5 CodeC C.w0 (.slice A n f) l){k:Nat}{c:CodeD}(hc:l[k]? = some c):n=l.length/\k<n/\∃ b o p q r,A=some ⟨b,o,none⟩/\b<w.heap.size/\w.cell? ⟨b,o+k*5,none⟩=some (.int .i64 c.op)/\w.cell? ⟨b,o+k*5+1,none⟩=some (.int .u64 (c.n:Int))/\w.cell? ⟨b,o+k*5+2,none⟩=some p/\w.cell? ⟨b,o+k*5+3,none⟩=some q/\w.cell? ⟨b,o+k*5+4,none⟩=some r /\
  CodeV C.w0 (.agg #[.int .i64 c.op,.int .u64 (c.n:Int),p,q,r]) c:=by
 have hn:=h.eYz.1;refine⟨hn,by rw[hn];exact(List.getElem?_eq_some_iff.1 hc).1,?_⟩;obtain⟨b,o,p,q,r,e,d,g,i,k2,m,s,t,h1,h2,u⟩:=h.code hc;have k:=fun(j:Nat) (v:Bc) (x:C.w0.cell? ⟨b,j,none⟩=some v)=>(a.cell (p:=⟨b,j,none⟩) d).trans x;exact⟨b,o,p,q,r,e,Aj d a.size,k _ _ g,k _ _ i,k _ _ k2,k _ _ m,k _ _ s,p,q,r,rfl,t,h1,h2,u⟩
theorem KC.sig{C:KaC}(m:KC C){w:Bb}(o:Bd C.w0.heap.size C.w0 w){n:Nat}{g:SigD}(hg:C.p.env.sigs[n]? = some g):∃ h i l cs p q,C.a = .slice (some ⟨h,i,none⟩) l cs/\n<l/\l<=64/\h<w.heap.size/\w.cell? ⟨h,i+n*2,none⟩=some p/\w.cell? ⟨h,i+n*2+1,none⟩=some q/\Ints C.w0 p g.inn/\Ints C.w0 q g.out:=by
 obtain⟨a,b,d,f,e,h1,_,_,_⟩:=m.rows;injection e with e;injection e with e;simp only[List.cons.injEq,and_true]at e;obtain⟨t,_⟩:=e;obtain⟨A,c,r,_⟩:=h1.len;have h2:=h1;rw[r]at h2;obtain⟨h,i,p,q,e2,s,u,x,k2,y⟩:=h2.sig hg;subst e2;have k:=fun(j:Nat) (v:Bc) (z:C.w0.cell? ⟨h,j,none⟩=some v)=>(o.cell (p:=⟨h,j,none⟩) s).trans z;exact⟨h,i,_,c,p,q,t.trans r,(List.getElem?_eq_some_iff.1 hg).1,(mV m.ok.env).1,Aj s o.size,k _ _ u,k _ _ x,k2,y⟩
theorem KRef.top{C:KaC}{X:KaS}(h:KRest C X w){f:FrD}{rest:List FrD}(d:X.x.st=f :: rest):∃ g c v vs,X.sv = .slice (some ⟨g,0,none⟩) (rest.length+1) c/\rest.length+1<=c/\X.ps=v :: vs/\w.cell? ⟨g,rest.length*3,none⟩=some (.pointer (some ⟨C.zf,C.of_+f.fi*5,none⟩))/\w.cell? ⟨g,rest.length*3+1,none⟩=some (.int .i64 (f.k:Int))/\w.cell? ⟨g,rest.length*3+2,none⟩=some v /\
  (∀ i,w.frozen? ⟨g,i,none⟩=false)/\g<w.heap.size/\X.lab g=7/\w.ownsRow C.w0.heap.size 52 1 v f.V.length (u64V f.V)/\∀ k,v.ownBlock=some k->X.lab k=10+rest.length:=by
 have h1:=h.pls;have h2:=h.stk;have b:=h.l7;rw[d]at h1 h2
 cases hps:X.ps with
 | nil=>rw[hps]at h1;exact h1.elim
 | cons v vs=>
  rw[hps]at h1 h2;have l:=zZ C h1.2.len;rcases h2.2 with⟨_,e⟩ | ⟨g,c,cur,e,_,hg,hc,r⟩
  ·simp at e
  ·rw[e]at h2 b
   have a:∀ j,j<3->w.cell? ⟨g,rest.length*3+j,none⟩=(vY C f v)[j]?:=fun j hj=>by
    rw[h2.cellAt (rest.length*3+j) (by simp;omega)];show(stCells C rest vs++vY C f v)[_]? = _;rw[<-l,Ad (by omega),Ah]
   exact⟨g,c,v,vs,e,hc,rfl,a 0 (by omega),a 1 (by omega),a 2 (by omega),fun i=>h2.frozenAt i,(Array.getElem?_eq_some_iff.1 hg).1,b g rfl,h1.1.1,h1.1.2⟩
theorem KRef.fXl{C:KaC}{X:KaS}(h:KRef C X w){f:FrD}{rest:List FrD}(d:X.x.st=f :: rest)(e:X.sv = .slice (some ⟨g,0,none⟩) (rest.length+1) c):KRef C { X with sv:=.slice (some ⟨g,0,none⟩) rest.length c,ps:=X.ps.tail,x:={ X.x with st:=rest } } (w.setCell ⟨C.cb,12,none⟩ (.slice (some ⟨g,0,none⟩) rest.length c)):=by
 have h1:=h.pls;have h2:=h.stk;have a:=h.l7;rw[d]at h1 h2
 cases hps:X.ps with
 | nil=>rw[hps]at h1;exact h1.elim
 | cons v vs=>
  rw[hps]at h1 h2;rw[e]at h2 a;have b:=dVi h2 (m:=rest.length) (by simp);refine h.fQq _ rest vs ?_ (fun k i=>a k i) h1.2;rw[show(stCells C (f :: rest) (v :: vs)).take (rest.length*3)=stCells C rest vs from ?_]at b
  ·exact b
  ·show(stCells C rest vs++vY C f v).take _=_;rw[<-zZ C h1.2.len,List.take_left]
theorem KRef.setAt{C:KaC}{X:KaS}(h:KRef C X w){f:FrD}{rest:List FrD}(q:X.x.st=f :: rest)(b:X.sv = .slice (some ⟨g,0,none⟩) n c)(k:Nat):KRef C { X with x:={ X.x with st:={ f with k:=k } :: rest } } (w.setCell ⟨g,rest.length*3+1,none⟩ (.int .i64 (k:Int))):=by
 have h1:=h.pls;have h2:=h.stk;have d:=h.l7;rw[q]at h1 h2;rw[b]at d;have hg:=d g rfl;obtain⟨v,vs,i⟩:=h1.cons
 ·rw[i]at h1 h2;rw[b]at h2
  have hn:n=rest.length+1:=by
   rcases h2.2 with⟨e,_⟩ | ⟨_,_,_,e,_⟩
   ·cases e
   ·injection e
  subst hn;have m:=(h2.stored (rest.length*3+1) (.int .i64 (k:Int))).1;have r:=zZ C h1.2.len
  have he:(stCells C (f :: rest) (v :: vs)).set (rest.length*3+1) (.int .i64 (k:Int))=stCells C ({ f with k:=k } :: rest) (v :: vs):=by
   show(stCells C rest vs++vY C f v).set _ _=stCells C rest vs++vY C { f with k:=k } v;rw[<-r,Bq _ _ (by omega),Ah];rfl
  rw[he]at m;have s:C.w0.heap.size<=g:=(h.lb g (by rw[hg];decide)).1;have o:w.heap.size<=(w.setCell ⟨g,rest.length*3+1,none⟩ (.int .i64 (k:Int))).heap.size:=(by simp[AJ]);have l:∀ j,X.lab j≠0->X.lab j≠7->(w.setCell ⟨g,rest.length*3+1,none⟩ (.int .i64 (k:Int))).heap[j]? = w.heap[j]?:=fun j _ a=>Az _ _ _ _ (fun e=>a (by have:j=g:=e;rw[this];exact hg));refine⟨h.toKRest.but (Y:={ X with x:={ X.x with st:={ f with k:=k } :: rest } }) 7 o (h.bel.setCell (p:=⟨g,_,none⟩) s _) l (fun j a=>⟨(h.lb j a).1,Aj (h.lb j a).2 o⟩) (fun _ _ _=>rfl) h.cl (by decide) (.inr ⟨by decide,rfl⟩) (.inr ⟨by decide,rfl,rfl⟩) (.inr ⟨by decide,rfl,rfl⟩) (.inr ⟨by decide,rfl,rfl⟩) (.inl ?_) (.inr ⟨by decide,rfl,rfl⟩) ⟨by decide,rfl⟩ (.inl ?_),(l C.cb (by rw[h.cl];decide) (by rw[h.cl];decide)).trans h.cb⟩
  ·refine⟨?_,fun j a=>?_⟩
   ·show Bv _ _ _ _ X.sv (rest.length+1) (stCells C ({ f with k:=k } :: rest) X.ps);rw[b,i];exact m
   ·have a:X.sv.ownBlock=some j:=a;rw[b]at a;exact d j a
  ·show PlsV _ _ X.lab ({ f with k:=k } :: rest) X.ps;rw[i];exact(show PlsV w C.w0.heap.size X.lab ({ f with k:=k } :: rest) (v :: vs)from⟨⟨h1.1.1,h1.1.2⟩,h1.2⟩).heap (fun j h5 _ _=>⟨l j (by omega) (by omega),rfl⟩)
theorem KRef.fXm{C:KaC}{X:KaS}(h:KRef C X w){f:FrD}{rest:List FrD}(b:X.x.st=f :: rest){vs:List Bc}(c:X.ps=v :: vs)(V:List Nat)(hV:V.length=f.V.length)(d:w'.ownsRow C.w0.heap.size 52 1 v V.length (u64V V))(hs:w.heap.size<=w'.heap.size)(g:Bd C.w0.heap.size C.w0 w')
  (i:∀ j,X.lab j≠0->v.ownBlock≠some j->w'.heap[j]? = w.heap[j]?):KRef C { X with x:={ X.x with st:={ f with V:=V } :: rest } } w':=by
 have h1:=h.pls;rw[b,c]at h1;have ob':∀ j,X.lab j≠0->X.lab j≠10+rest.length->w'.heap[j]? = w.heap[j]?:=fun j a hn=>i j a (fun e=>hn (h1.1.2 j e));refine⟨h.toKRest.but (Y:={ X with x:={ X.x with st:={ f with V:=V } :: rest } }) (10+rest.length) hs g ob' (fun j a=>⟨(h.lb j a).1,Aj (h.lb j a).2 hs⟩) (fun _ _ _=>rfl) h.cl (by omega) (.inr ⟨by omega,rfl⟩) (.inr ⟨by omega,rfl,rfl⟩) (.inr ⟨by omega,rfl,rfl⟩) (.inr ⟨by omega,rfl,rfl⟩) (.inr ⟨by omega,rfl,?_,?_⟩) (.inr ⟨by omega,rfl,rfl⟩) ⟨by omega,rfl⟩ (.inl ?_),(ob' C.cb (by rw[h.cl];decide) (by rw[h.cl];omega)).trans h.cb⟩
 ·show rest.length+1=X.x.st.length;rw[b];rfl
 ·show stCells C ({ f with V:=V } :: rest) X.ps=stCells C X.x.st X.ps;rw[b,c];rfl
 ·show PlsV w' C.w0.heap.size X.lab ({ f with V:=V } :: rest) X.ps;rw[c];exact⟨⟨d,h1.1.2⟩,h1.2.heap (fun j h5 h6 _=>⟨ob' j (by omega) (by omega),rfl⟩)⟩
theorem KRef.fXb{C:KaC}{X:KaS}(h:KRef C X w){f:FrD}{rest:List FrD}(a:X.x.st=f :: rest){vs:List Bc}(b:X.ps = .slice (some ⟨g,0,none⟩) f.V.length c :: vs)(j N:Nat):KRef C { X with x:={ X.x with st:={ f with V:=f.V.set j N } :: rest } } (w.setCell ⟨g,j,none⟩ (.int .u64 (N:Int))):=by
 have h1:=h.pls;rw[a,b]at h1;have hg:=h1.1.2 g rfl;refine h.fXm a b _ (AY ..) ?_ (by simp[AJ]) (h.bel.setCell (p:=⟨g,j,none⟩) (h.lb g (by rw[hg];omega)).1 _) (fun k _ d=>Az _ _ _ _ (fun e=>d (by have:k=g:=e;rw[this];rfl)));rw[AY,<-aZf];exact(h1.1.1.stored j _).1
theorem KRef.fQl{C:KaC}{X:KaS}(h:KRef C X w)(b:C.gv = .slice (some ⟨g,0,none⟩) n c)(k N:Nat):KRef C { X with x:={ X.x with s:={ X.x.s with globals:=X.x.s.globals.set k N } } } (w.setCell ⟨g,k,none⟩ (.int .u64 (N:Int))):=by
 have hg:=h.l3 g (by rw[b];rfl);have h2:=h.glo;rw[b]at h2
 have hn:n=X.x.s.globals.length:=by
  rcases h2.2 with⟨e,_⟩ | ⟨_,_,_,e,_⟩
  ·cases e
  ·injection e
 subst hn;have i:C.w0.heap.size<=g:=(h.lb g (by rw[hg];decide)).1;have d:w.heap.size<=(w.setCell ⟨g,k,none⟩ (.int .u64 (N:Int))).heap.size:=(by simp[AJ]);have f:∀ j,X.lab j≠0->X.lab j≠3->(w.setCell ⟨g,k,none⟩ (.int .u64 (N:Int))).heap[j]? = w.heap[j]?:=fun j _ a=>Az _ _ _ _ (fun e=>a (by have:j=g:=e;rw[this];exact hg));refine⟨h.toKRest.but (Y:={ X with x:={ X.x with s:={ X.x.s with globals:=X.x.s.globals.set k N } } }) 3 d (h.bel.setCell (p:=⟨g,k,none⟩) i _) f (fun j a=>⟨(h.lb j a).1,Aj (h.lb j a).2 d⟩) (fun _ _ _=>rfl) h.cl (by decide) (.inl ⟨rfl,?_,h.l3⟩) (.inr ⟨by decide,rfl,rfl⟩) (.inr ⟨by decide,rfl,rfl⟩) (.inr ⟨by decide,rfl,rfl⟩) (.inr ⟨by decide,rfl,rfl,rfl⟩) (.inr ⟨by decide,rfl,rfl⟩) ⟨by decide,rfl⟩ (.inr ⟨by decide,rfl,rfl⟩),(f C.cb (by rw[h.cl];decide) (by rw[h.cl];decide)).trans h.cb⟩;show Bv _ _ _ _ C.gv (X.x.s.globals.set k N).length (u64V (X.x.s.globals.set k N));rw[b,AY,<-aZf];exact(h2.stored k _).1
theorem bXx{C:KaC}{X:KaS}(h:KRest C X w)(hv:∀ k,v.ownBlock=some k->X.lab k=c)(hc:c≠0)(hg:w.grownBy w' v.ownBlock)(b:v'.ownBlock=v.ownBlock\/v'.ownBlock=some w.heap.size)(d:∀ k,v'.ownBlock=some k->k<w'.heap.size):
  (∀ k,X.lab k≠0->X.lab k≠c->w'.heap[k]? = w.heap[k]?)/\Bd C.w0.heap.size C.w0 w'/\(∀ k,mK X.lab v' c k≠0->C.w0.heap.size<=k/\k<w'.heap.size)/\(∀ k,X.lab k≠0->mK X.lab v' c k=X.lab k):=by
 refine⟨fun k h1 h2=>hg.block k (h.lb k h1).2 (fun e=>h2 (hv k e.symm)),h.bel.grown hg h.bel.size (fun k a=>(h.lb k (by rw[hv k a];exact hc)).1),fun k a=>?_,fun k a=>?_⟩
 ·by_cases e:v'.ownBlock=some k
  ·refine⟨?_,d k e⟩;rcases b with e2 | e2
   ·exact(h.lb k (by rw[hv k (by rw[<-e2];exact e)];exact hc)).1
   ·rw[e]at e2;injection e2 with e2;subst e2;exact h.bel.size
  ·rw[tQ e]at a;exact⟨(h.lb k a).1,Aj (h.lb k a).2 hg.size⟩
 ·by_cases e:v'.ownBlock=some k
  ·rw[xV e];rcases b with e2 | e2
   ·exact(hv k (by rw[<-e2];exact e)).symm
   ·rw[e]at e2;injection e2 with e2;have:=(h.lb k a).2;omega
  ·exact tQ e
theorem KRest.fXn{C:KaC}{X:KaS}(h:KRest C X w)(b:w'.ownsRow C.w0.heap.size 52 1 v' l.length (u64V l))(hg:w.grownBy w' X.lv.ownBlock)(d:v'.ownBlock=X.lv.ownBlock\/v'.ownBlock=some w.heap.size):
  KRest C { X with lab:=mK X.lab v' 4,lv:=v',x:={ X.x with s:={ X.x.s with log:=l } } } w':=by
 obtain⟨e,f,g,c⟩:=bXx h h.l4 (by decide) hg d (fun k a=>(b.lt k a).2);exact h.but (Y:={ X with lab:=mK X.lab v' 4,lv:=v',x:={ X.x with s:={ X.x.s with log:=l } } }) 4 hg.size f e g (fun k h1 _=>c k h1) ((c C.cb (by rw[h.cl];decide)).trans h.cl) (by decide) (.inr ⟨by decide,rfl⟩) (.inl ⟨rfl,b,fun k a=>xV a⟩) (.inr ⟨by decide,rfl,rfl⟩) (.inr ⟨by decide,rfl,rfl⟩) (.inr ⟨by decide,rfl,rfl,rfl⟩) (.inr ⟨by decide,rfl,rfl⟩) ⟨by decide,rfl⟩ (.inr ⟨by decide,rfl,rfl⟩)
theorem KRest.fXo{C:KaC}{X:KaS}(h:KRest C X w){pv:Bc}{f:FrD}(e:w'.ownsRow C.w0.heap.size 83 3 v' (X.x.st.length+1) (stCells C X.x.st X.ps++vY C f pv))(hg:w.grownBy w' X.sv.ownBlock)(g:v'.ownBlock=X.sv.ownBlock\/v'.ownBlock=some w.heap.size)
  (hp:w.ownsRow C.w0.heap.size 52 1 pv f.V.length (u64V f.V)) (b:∀ k,pv.ownBlock=some k->X.lab k=10+X.x.st.length) :
  KRest C { X with lab:=mK X.lab v' 7,sv:=v',ps:=pv :: X.ps,x:={ X.x with st:=f :: X.x.st } } w':=by
 obtain⟨d,i,l,c⟩:=bXx h h.l7 (by decide) hg g (fun k a=>(e.lt k a).2);refine h.but (Y:={ X with lab:=mK X.lab v' 7,sv:=v',ps:=pv :: X.ps,x:={ X.x with st:=f :: X.x.st } }) 7 hg.size i d l (fun k h1 _=>c k h1) ((c C.cb (by rw[h.cl];decide)).trans h.cl) (by decide) (.inr ⟨by decide,rfl⟩) (.inr ⟨by decide,rfl,rfl⟩) (.inr ⟨by decide,rfl,rfl⟩) (.inr ⟨by decide,rfl,rfl⟩) (.inl ⟨e,fun k a=>xV a⟩) (.inr ⟨by decide,rfl,rfl⟩) ⟨by decide,rfl⟩ (.inl ⟨⟨xZ hp (fun k a ad=>d k (by rw[b k a];omega) (by rw[b k a];omega)),fun k a=>?_⟩,?_⟩)
 ·show mK X.lab v' 7 k=_;rw[c k (by rw[b k a];omega),b k a]
 ·exact h.pls.heap (fun j h5 _ _=>⟨d j (by omega) (by omega),c j (by omega)⟩)
def aWj(C:KaC)(X:KaS)(x':MaD)(w:Bb)(en:Ending)(w':Bb):Prop:=en = .returned (.tuple #[])/\∃ X',KRef C X' w'/\KK X X' w w'/\X'.x=x'
theorem aVl(C:KaC)(X:KaS)(vo:Bc)(l:List Nat)(e:Int)(w:Bb)(h:KRef C X w)(j:UR w vo l)(hf:∀ k,vo.ownBlock=some k->X.lab k=8):Calls fZ 29 #[.pointer (some ⟨C.mm,0,none⟩),vo,.int .i64 e] w (aWj C X (sV X.x X.x.s l e) w):=by
 have m0:=h.eYx;have ad:w.cell? ⟨C.cb,12,none⟩=some X.sv:=h.cell 12;have ae:w.cell? ⟨C.cb,14,none⟩=some (.int .i64 X.x.e):=h.cell 14;have af:w.cell? ⟨C.cb,16,none⟩=some (.bool X.x.over):=h.cell 16;have f12:=frz h.cb 12;have f14:=frz h.cb 14;have f16:=frz h.cb 16;have a:=((h.fXi true).fXh e).fXj;have lcb:X.lab C.cb≠0:=KRef.lcb h.toKRest;have f:=(((KK.refl X w).set (y:={ X with x:={ X.x with over:=true } }) (g:=C.cb) 16 (.bool true) (.inl lcb) rfl).set (y:={ X with x:={ X.x with over:=true,e:=e } }) (g:=C.cb) 14 (.int .i64 e) (.inl lcb) rfl).set (y:={ X with sv:=.slice none 0 0,ps:=[],x:={ X.x with over:=true,e:=e,st:=[] } }) (g:=C.cb) 12 (.slice none 0 0) (.inl lcb) rfl;have m:((((w.setCell ⟨C.cb,16,none⟩ (.bool true)).setCell ⟨C.cb,14,none⟩ (.int .i64 e)).setCell ⟨C.cb,12,none⟩ (.slice none 0 0))).heap.size=w.heap.size:=(by simp[AJ]);obtain⟨A,c,rfl⟩:=j.shape
 have ne8:∀ k,(Ak A l.length c).ownBlock=some k->k≠C.cb:=fun k d e=>by
  have:=hf k d;rw[e,h.cl]at this;cases this
 have n:UR ((((w.setCell ⟨C.cb,16,none⟩ (.bool true)).setCell ⟨C.cb,14,none⟩ (.int .i64 e)).setCell ⟨C.cb,12,none⟩ (.slice none 0 0))) (.slice A l.length c) l:=j.heap f.size (fun k d ag=>((Az _ _ _ _ (ne8 k d)).trans (Az _ _ _ _ (ne8 k d))).trans (Az _ _ _ _ (ne8 k d)));obtain⟨wz,o⟩:=fX (((((w.setCell ⟨C.cb,16,none⟩ (.bool true)).setCell ⟨C.cb,14,none⟩ (.int .i64 e)).setCell ⟨C.cb,12,none⟩ (.slice none 0 0))));rw[o]at a f n m;have q:=fQ o;have p:=fQ a;have r:=fQ f;have t:=fQ n;have u:=fQ hf;have HS:=fQ m;have m1:=a.eYx;have ah:wz.cell? ⟨C.cb,13,none⟩=some X.ov:=a.cell 13;have f13:=frz a.cb 13;have yb:=h.cb.lt;have ym:=h.mm.lt;have ai:=a.cb.lt;have aj:=a.mm.lt;clear a f n hf h j o m ne8;by_cases b:e=0
 ·have v:(e == 0)=true:=(by simp[b]);have i:=fQ b;clear b;go_in;go_wp2_with fail;go_region;rw[q.out];go_wp2;go_end0;refine⟨rfl,{ X with sv:=.slice none 0 0,ps:=[],ov:=.slice A l.length c,x:={ X.x with over:=true,e:=e,st:=[],out:=l } },(p.out.fXk (.slice A l.length c) l t.out u.out).drew,(r.out.set (y:={ X with sv:=.slice none 0 0,ps:=[],x:={ X.x with over:=true,e:=e,st:=[] } }) (g:=C.cb) _ _ (.inl (KRef.lcb p.out.toKRest)) rfl).drew.to rfl,?_⟩;unfold sV;rw[if_pos i.out,i.out]
 ·have v:(e == 0)=false:=(by simp[b]);have i:=fQ b;clear b;go_in;go_wp2_with fail;go_region;rw[q.out];go_wp2;go_end0;refine⟨rfl,_,p.out.drew,r.out.drew,?_⟩;unfold sV;rw[if_neg i.out]
def aXn(ks:List Int)(l:List Nat)(k:Nat):List Nat:=lowL (ks.take k) (l.take k)++l.drop k
theorem cYx(ks:List Int)(l:List Nat):aXn ks l 0=l:=by simp[aXn,lowL]
theorem aWk(h:ks.length=l.length)(a:k<=l.length):(lowL (ks.take k) (l.take k)).length=k:=by
 rw[rW _ _ (by simp[h]),BZ,BV a]
theorem eQb(h:ks.length=l.length)(hk:k<l.length):(aXn ks l k)[k]? = l[k]?:=by
 unfold aXn;rw[Ad (by rw[aWk h (by omega)];exact Aq _),aWk h (by omega),Ba,List.getElem?_drop,Nat.add_zero]
theorem cYy(h:ks.length=l.length):aXn ks l l.length=lowL ks l:=by
 unfold aXn;rw[<-h,BK,h,BK,List.drop_length,List.append_nil]
theorem cYz(h:ks.length=l.length){x:Nat}{t:Int}(b:ks[k]? = some t)(a:l[k]? = some x):(aXn ks l k).set k (oJ t x)=aXn ks l (k+1):=by
 have c:=(List.getElem?_eq_some_iff.1 a).1;have ad:=(List.getElem?_eq_some_iff.1 a).2;have d:=aWk h (k:=k) (by omega);unfold aXn;rw[Bq _ _ (by omega),d,Ba,aKh b a,Ae c,BQ];rfl
theorem dQa(h:ks.length=l.length){x:Nat}{t:Int}(b:ks[k]? = some t)(a:l[k]? = some x)(he:oJ t x=x):aXn ks l k=aXn ks l (k+1):=by
 have c:=(List.getElem?_eq_some_iff.1 a).1;have d:=(List.getElem?_eq_some_iff.1 a).2;unfold aXn;rw[aKh b a,he,Ae c,d,BQ];rfl
theorem wY(v:Bc)(l:List Nat)(w:Bb)(h:UR w v l):Calls fZ 27 #[v] w fun e w'=>∃ v',e = .returned v'/\w'.ownsRow w.heap.size 52 1 v' l.length (u64V l)/\Bd w.heap.size w w':=by
 obtain⟨A,c,rfl,hs,hc,f,hn,_⟩:=h;have ae:∀ (w:Bb) (a:Option Addr) (n c g i:Nat),(binOp .eql 30 (.slice a n c) (.slice none g i)).run fZ w = .ok (.bool a.isNone) w:=fun w a n c g i=>Lib.run_eql_slice_nil w 30 52 a n c g i underlying30;obtain⟨n,d⟩:=fX l.length;rw[d]at hs hc hn ⊢;rcases A with _ | ⟨b,o,sp⟩
 ·have m:c=0:=f rfl;subst m;have p:n=0:=(by omega);subst p;have q:l = []:=List.eq_nil_of_length_eq_zero d;subst q;clear f hs hc hn d;go_in;go_wp2;go_ret;exact⟨_,rfl,BJ _ _ _ _,Ay _ _⟩
 ·have r:=fQ (hs.below (w':=w.alloc (.cells #[] 52)) ((Ay _ _).alloc (Aq _) _) (Aq _));have af:=hn.1;clear hs f hn d;go_in;go_wp2_with (at_builtin;refine aXh _ rfl _ (.tmp 6) 30 rfl w.heap.size 52 _ 8 underlying30 sQ rfl _ 0 [] rfl (World.ownsRow_lit w #[] 0 (Aq _) (by unfold maxLen;omega) rfl) _ n c _ rfl r.out (aZe _) (by unfold maxLen;omega) (by omega) (by simp) ?_);rintro v' w' j k;have s:=fQ (by simpa using j:w'.ownsRow w.heap.size 52 1 v' n (u64V l));have t:=fQ k;clear j k;go_wp2;go_ret;exact⟨_,rfl,s.out,((Ay _ _).alloc (Aq _) _).trans t.out⟩
theorem aQs(vk v:Bc)(ks:List Int)(l:List Nat)(w:Bb)(f:IR w vk ks)(j:UR w v l)(he:ks.length=l.length):Calls fZ 48 #[vk,v] w (bZg ks l w):=by
 obtain⟨A1,c1,rfl⟩:=f.shape;have z:=fQ f;have G:l.length<=17592186043904:=(by obtain⟨_,_,_,_,_,_,h,_⟩:=j;exact h.1);have A:All64 l:=(by obtain⟨_,_,_,_,_,_,_,h⟩:=j;exact h);have c:=fQ he;have H:=fQ j;obtain⟨n,hn⟩:=fX l.length;have d:=fQ hn;have I:=fQ A;rw[hn]at G;rw[he,hn]at z ⊢;unfold bZg;rw[hn];clear f j he hn A;go_in;go_wp2_with fail;refine(wY _ l _ H.out).mono ?_;rintro e J ⟨v1,rfl,h1,h2⟩;rw[d.out]at h1;have B:=fQ h2;have C:J.ownsRow w.heap.size 52 1 v1 n (u64V (aXn ks l 0)):=(by rw[cYx];exact h1);obtain⟨K,L,rfl,ao⟩:=fJ h1;have D:=fQ C;clear h1 C h2;go_wp2_with fail;go_loopw [12] (fun i wr=>∃ k:Nat,k<=n/\i = .int .i64 k/\Hid (wr.ownsRow w.heap.size 52 1 (.slice K n L) n (u64V (aXn ks l k)))/\Hid (Bd w.heap.size w wr)) (fun i _=>n - (intOf i).toNat)
 case atStart=>exact⟨0,by omega,rfl,D,B⟩
 case round=>
  clear D B;obtain⟨k,f,rfl,iO,m⟩:=hrel;by_cases r:k<n
  ·have M:decide ((k:Int)<n)=true:=(by simp;omega);have t2:(k:Int)<n:=(by omega);obtain⟨t,s⟩:∃ t,ks[k]? = some t:=⟨_,Ax (by rw[c.out,d.out];exact r)⟩;obtain⟨x,q⟩:∃ x,l[k]? = some x:=⟨_,Ax (by rw[d.out];exact r)⟩;obtain⟨b,o,rfl,hb,hc⟩:=(z.out.below m.out (Aq _)).cell s;obtain⟨g,c3,u,aq,N,_⟩:=lQ iO.out (by omega);injection u with u _ O;subst u;subst O;have P:=I.out x (Aw q)
   have ar:wr.cell? ⟨g,k,none⟩=some (.int .u64 (x:Int)):=by
    rw[iO.out.cellAt k (by omega)];have:=eQb c.out (k:=k) (by rw[d.out];exact r);simp[u64V,this,q]
   have au:wr.frozen? ⟨g,k,none⟩=false:=iO.out.frozenAt _;have E:=fQ s;have F:=fQ q;clear s q;by_cases a:t=127
   ·have Q:(t == 127)=true:=(by simp[a]);have hand:=bZf P;have y:=fQ (show oJ t x=x % 4294967296 by unfold oJ;rw[if_pos a]);clear a;go_wp2;refine⟨⟨k+1,by omega,by simp,fQ ?_,fQ (m.out.setCell (p:=⟨g,k,none⟩) N _)⟩,by simp[intOf];omega⟩;rw[<-cYz c.out E.out F.out,y.out,<-aZf];exact(iO.out.stored k _).1
   ·have Q:(t == 127)=false:=(by simp[a]);have y:=fQ (show oJ t x=x by unfold oJ;rw[if_neg a]);clear a;go_wp2;refine⟨⟨k+1,by omega,by simp,fQ ?_,m⟩,by simp[intOf];omega⟩;rw[<-dQa c.out E.out F.out y.out];exact iO.out
  ·have M:decide ((k:Int)<n)=false:=(by simp;omega);have R:k=n:=(by omega);subst R;go_wp2;go_ret;refine⟨_,rfl,?_,m.out⟩;have:=cYy c.out;rw[d.out]at this;rw[<-this];exact iO.out
theorem aYo(x:Int)(w:Bb):Calls fZ 91 #[.int .i64 x] w fun e w'=>e = .returned (.int .i64 (if x=35 then 38 else x))/\w=w':=by
 by_cases h:x=35
 ·have h1:(x == 35)=true:=(by simp[h]);rw[if_pos h];clear h;go_in;go_wp2;go_ret;exact⟨rfl,rfl⟩
 ·have h1:(x == 35)=false:=(by simp[h]);rw[if_neg h];clear h;go_in;go_wp2;go_ret;exact⟨rfl,rfl⟩
section
variable {P:Program} {ops:Array Oper} {Q:Exit->Act->Bb->Prop} {md:Region.Mode} {S1 S2:Bb->Prop} {ap:Nat}
def SD(S1 S2:Bb->Prop)(ap:Nat)(listed:Array Bool)(w:Bb):Prop:=S1 w/\(listed.getD ap false=false->S2 w)
theorem SD.of_same{l a:Array Bool}(h:SD S1 S2 ap l w)(he:a.getD ap false=l.getD ap false):SD S1 S2 ap a w:=⟨h.1,fun e=>h.2 (he ▸ e)⟩
theorem SD.after{l:Array Bool}(h:S1 w)(he:l.getD ap false=true):SD S1 S2 ap l w:=⟨h,fun e=>by rw[he]at e;cases e⟩
def sY(P:Program)(md:Region.Mode)(ops:Array Oper)(Q:Exit->Act->Bb->Prop)(S1 S2:Bb->Prop)(ap:Nat):Nat->Array Bool->Act->Bb->Prop
 | 0,listed,a,w=>Region.ready md ops listed = []/\Q .normal a w
 | fuel+1,listed,a,w=>
  (Region.ready md ops listed = []->Q .normal a w) /\
  ∀ i∈Region.ready md ops listed,wpOp P ops Q i (fun b w'=>SD S1 S2 ap (listed.setIfInBounds i true) w'/\sY P md ops Q S1 S2 ap fuel (listed.setIfInBounds i true) b w') a w
theorem bZn:∀ (fuel:Nat) (listed:Array Bool) (a:Act) (w:Bb),sY P md ops Q S1 S2 ap fuel listed a w->wpAny P md ops Q fuel listed a w
 | 0,_,_,_,h=>h
 | fuel+1,_,_,_,h=>⟨h.1,fun i hi=>wpOp_mono (fun b w' c=>bZn fuel _ b w' c.2) (h.2 i hi)⟩
def cKd(md:Region.Mode)(ops:Array Oper)(ap i:Nat):Bool:=match ops[ap]? with
 | some o=>o.after.any fun e=>Region.binds md e && e.on == i
 | none=>false
theorem aYd{f:Oper}{v:Bc}{z:Bb->Prop}{edge:Prop}(hi:ops[i]? = some f)(A:∀ (j:Nat) (o:Oper) cs b,ops[j]? = some o->o.op ≠ .select cs b)
  (J:∀ c a w,Q (.panic c) (a.put f.dst v) w->Q (.panic c) a w) (K:i≠ap) (hedge:edge->cKd md ops ap i=true)
  (B:∀ l w,(edge->l.getD ap false=false)->SD S1 S2 ap l w->z w) :
  ∀ (fuel:Nat) (listed:Array Bool) (a:Act) (w:Bb),
   (∀ j g,ops[j]? = some g->j≠i->listed.getD j true=false->(∀ e∈g.after,Region.binds md e=true->e.on≠i)->f.apart ops g=true) ->
   i∈Region.ready md ops listed->(edge->listed.getD ap false=false)->YieldsIf P ops z f v a->SD S1 S2 ap listed w ->
   sY P md ops Q S1 S2 ap fuel (listed.setIfInBounds i true) (a.put f.dst v) w->sY P md ops Q S1 S2 ap (fuel+1) listed a w:=by
 have same:∀ (l:Array Bool),(l.setIfInBounds i true).getD ap false=l.getD ap false:=fun l=>getD_set_ne false K;intro fuel
 induction fuel with
 | zero=>
  intro listed a w _ m q r n H;refine⟨fun h=>(by rw[h]at m;cases m),fun j s=>?_⟩;by_cases d:j=i
  ·subst d;exact r.wpOp hi (B _ _ q n) ⟨n.of_same (same _),H⟩
  ·have:=ready_mono s d;rw[H.1]at this;cases this
 | succ fuel L=>
  intro listed a w hfree m q r n H;refine⟨fun h=>(by rw[h]at m;cases m),fun j s=>?_⟩;by_cases d:j=i
  ·subst d;exact r.wpOp hi (B _ _ q n) ⟨n.of_same (same _),H⟩
  ·have h1:=H.2 j (ready_mono s d);obtain⟨C,g,t,M⟩:=mem_ready.1 s
   have D:∀ e∈g.after,Region.binds md e=true->e.on≠i:=fun e he p heq=>by
    have h1:=M e he p;have E:=(mem_ready.1 m).1;rw[heq]at h1;rcases BY i listed.size with u | u
    ·simp[u]at E h1;rw[E]at h1;cases h1
    ·simp[Array.getElem?_eq_none u]at h1
   have h2:=wpOp_putIf t (hfree j g t d C D) (fun cs b=>A i f cs b hi) (fun cs b=>A j g cs b t) J r h1
   have N:∀ k ok,ops[k]? = some ok->k≠i->(listed.setIfInBounds j true).getD k true=false ->
     (∀ e∈ok.after,Region.binds md e=true->e.on≠i)->f.apart ops ok=true:=fun k ok O R F S=>by
    refine hfree k ok O R ?_ S;by_cases G:j=k
    ·subst G;exact C
    ·rw[getD_set_ne true G]at F;exact F
   have T:edge->(listed.setIfInBounds j true).getD ap false=false:=fun he=>by
    have U:j≠ap:=fun e=>by
     subst e;have y:=hedge he;unfold cKd at y;rw[t]at y;obtain⟨x,V,p⟩:=Array.any_eq_true'.1 y;simp only[Ag,beq_iff_eq]at p;exact D x V p.1 p.2
    rw[getD_set_ne false U];exact q he
   refine wpOp_mono (fun W w' X=>?_) h2;obtain⟨Y,Z,h6⟩:=X;have I:SD S1 S2 ap (listed.setIfInBounds j true) w':=Z.of_same (by rw[Af _ _ (Ne.symm d)];exact(same _).symm);refine⟨I,L (listed.setIfInBounds j true) W w' N (ready_mono m (Ne.symm d)) T Y I ?_⟩;rw[Af _ _ d];exact h6
theorem gQ{l:List Oper}{b:Oper}{v:Bc}{fuel:Nat}{listed:Array Bool}{a:Act}{w:Bb}(hi:l[i]? = some b)
  (hs:Region.noSelect l.toArray=true) (hf:Region.free md l.toArray listed i=true) (g:(Region.ready md l.toArray listed).contains i=true)
  (j:∀ c a w,Q (.panic c) (a.put b.dst v) w->Q (.panic c) a w) (k:(i != ap)=true) (m:YieldsIf P l.toArray S1 b v a) (d:SD S1 S2 ap listed w)
  (h:SD S1 S2 ap (listed.setIfInBounds i true) w->sY P md l.toArray Q S1 S2 ap fuel (listed.setIfInBounds i true) (a.put b.dst v) w):sY P md l.toArray Q S1 S2 ap (fuel+1) listed a w:=
 have e:i≠ap:=(by simpa using k);have f:l.toArray[i]? = some b:=(by simpa using hi)
 aYd (edge:=False) f (Region.noSelect_spec hs) j e (fun h=>h.elim) (fun _ _ _ h=>h.1) fuel listed a w (Region.free_spec f hf) (by simpa using g) (fun h=>h.elim) m d (h (d.of_same (getD_set_ne false e)))
theorem wtk(i:Nat){l:List Oper}{b:Oper}{v:Bc}{listed:Array Bool}{a d:Act}(e:SD S1 S2 ap listed w)(h:SD S1 S2 ap (listed.setIfInBounds i true) w->sY P md l.toArray Q S1 S2 ap fuel (listed.setIfInBounds i true) d w)
  (hi:l[i]? = some b:=by rfl) (hs:Region.noSelect l.toArray=true:=by kernel_rfl) (hf:Region.free md l.toArray listed i=true:=by kernel_rfl) (f:(Region.ready md l.toArray listed).contains i=true:=by kernel_rfl)
  (g:∀ c a w,Q (.panic c) (a.put b.dst v) w->Q (.panic c) a w:=by exact fun _ _ _ h=>h) (j:(i != ap)=true:=by rfl) (k:Region.wanted b (yielded l.toArray a.tmps)=true:=by rfl)
  (m:∀ w,S1 w->(execOp a.eval b).run P w = .ok (.value v) w:=by(intro w n;(try dsimp only at n);go_simp;(try with_reducible rfl)))
  (ha:a.put b.dst v=d:=by((try simp only[Act.put,List.setIfInBounds_toArray,List.set_cons_zero,List.set_cons_succ]);(try rfl))):sY P md l.toArray Q S1 S2 ap (fuel+1) listed a w:=
 gQ hi hs hf f g j (Or.inl ⟨k,m⟩) e (fun o=>ha ▸ h o)
theorem vX{l:List Oper}{b:Oper}{v:Bc}{fuel:Nat}{listed:Array Bool}{a:Act}{w:Bb}(hi:l[i]? = some b)
  (hs:Region.noSelect l.toArray=true) (hf:Region.free md l.toArray listed i=true) (g:(Region.ready md l.toArray listed).contains i=true)
  (j:∀ c a w,Q (.panic c) (a.put b.dst v) w->Q (.panic c) a w) (k:(i != ap)=true) (m:cKd md l.toArray ap i=true) (n:listed.getD ap false=false)
  (o:YieldsIf P l.toArray (fun w=>S1 w/\S2 w) b v a) (d:SD S1 S2 ap listed w)
  (h:SD S1 S2 ap (listed.setIfInBounds i true) w->sY P md l.toArray Q S1 S2 ap fuel (listed.setIfInBounds i true) (a.put b.dst v) w):sY P md l.toArray Q S1 S2 ap (fuel+1) listed a w:=
 have e:i≠ap:=(by simpa using k);have f:l.toArray[i]? = some b:=(by simpa using hi)
 aYd (edge:=True) f (Region.noSelect_spec hs) j e (fun _=>m) (fun _ _ h1 h=>⟨h.1,h.2 (h1 trivial)⟩) fuel listed a w (Region.free_spec f hf) (by simpa using g) (fun _=>n) o d (h (d.of_same (getD_set_ne false e)))
theorem gY{l:List Oper}{o:Oper}{fuel:Nat}{listed:Array Bool}{a:Act}{w:Bb}(c:Region.ready md l.toArray listed = [i])(f:l[i]? = some o)
  (h:∀ b:Act->Bb->Prop,Shut (∀ a w,SD S1 S2 ap (listed.setIfInBounds i true) w->(SD S1 S2 ap (listed.setIfInBounds i true) w->sY P md l.toArray Q S1 S2 ap fuel (listed.setIfInBounds i true) a w)->b a w)->if Region.wanted o (yielded l.toArray a.tmps)=true then Oper.wp P o a w b Q else b (a.put o.dst undef) w) :
  sY P md l.toArray Q S1 S2 ap (fuel+1) listed a w:=
 ⟨fun d=>(by rw[c]at d;cases d),fun j e=>by
  rw[c]at e;have:=List.mem_singleton.1 e;subst this
  exact wpOp_step (by simpa using f) (fun b g=>h b (fun a w h1 h2=>g a w ⟨h1,h2 h1⟩))⟩
theorem kW{l:List Oper}{listed:Array Bool}{a:Act}(b:Region.ready md l.toArray listed = [])(h:Q .normal a w):∀ fuel,sY P md l.toArray Q S1 S2 ap fuel listed a w
 | 0=>⟨b,h⟩
 | _+1=>⟨fun _=>h,by rw[b];simp⟩
theorem mQ{l:List Oper}{id:Nat}{a:Act}(S1 S2:Bb->Prop)(ap:Nat)(b:P.follows .mixedOrders=true)(h1:S1 w.drew)(h2:S2 w.drew)
  (h:SD S1 S2 ap (Av l.length false) w.drew->sY P .any l.toArray Q S1 S2 ap l.length (Av l.length false) a w.drew):(Code.region id l.toArray true).wp P Q a w:=
 wp_region_any b (bZn _ _ _ _ (by
  have c:=h ⟨h1,fun _=>h2⟩;rw[List.size_toArray]
  exact c))
end
theorem aWi:∀ (os:List Int) (a V:List Nat),putV (os.take a.length) (a.take a.length) V=putV os a V
 | [],a,V=>by cases a <;> rfl
 | o :: os,[],V=>rfl
 | o :: os,n :: a,V=>by
  simp only[List.length_cons,List.take_succ_cons,putV];exact aWi os a _
def vW(X:KaS)(f:FrD)(rest:List FrD)(V:List Nat):KaS:={ X with x:={ X.x with st:={ f with V:=V } :: rest } }
def eZu(C:KaC)(X:KaS)(f:FrD)(rest:List FrD)(V:List Nat)(w:Bb)(en:Ending)(w':Bb):Prop:=en = .returned (.tuple #[])/\KRef C (vW X f rest V) w'/\KK X (vW X f rest V) w w'
theorem rQ(C:KaC)(X:KaS)(f:FrD)(rest:List FrD)(g cS:Nat)(vc:Bc)(c:CodeD)(vo:Bc)(l:List Nat)(w:Bb)(h:KRef C X w)(O:X.x.st=f :: rest)(P:X.sv = .slice (some ⟨g,0,none⟩) (rest.length+1) cS)
  (hc:CodeV C.w0 vc c) (s:UR w vo l) (B:∀ k,vo.ownBlock=some k->X.lab k≠10+rest.length) (Q:∀ o∈c.outs,0<=o/\o<(f.V.length:Int)) (hle:l.length<=c.outs.length) :
  Calls fZ 60 #[.pointer (some ⟨g,rest.length*3,none⟩),vc,vo] w (eZu C X f rest (putV c.outs l f.V) w):=by
 obtain⟨D,cb,E,rfl,az,_,t,_⟩:=hc;obtain⟨A1,c1,rfl⟩:=s.shape;obtain⟨F,G,rfl⟩:=t.shape;obtain⟨m,r⟩:=fX l.length;obtain⟨R,u⟩:=fX c.outs.length;have z:=(Ay w.heap.size w).alloc (Aq _) (.cells #[.int .i64 c.op,.int .u64 (c.n:Int),D,.slice F c.outs.length G,E] 86);have H:=fQ (h.below z);have I:=fQ (Blk.new w 86 #[.int .i64 c.op,.int .u64 (c.n:Int),D,.slice F c.outs.length G,E]);have T:=fQ (KRef.fresh h.toKRest (Aq w.heap.size));have U:=fQ s;rw[r]at B;have aA:=fQ B;have W:=fQ t.ir;have aB:=fQ Q;have aC:=fQ O;have aD:=fQ P;have Y:=fQ r;have aE:=fQ u;rw[r,u]at hle;have ah:=s.len.2.2.2.2.1.1;rw[u]at z I H W ⊢;rw[r]at U ah ⊢;have aw:=h.bel.size;clear h O P t s B Q r u az;go_in;go_wp2_with fail;go_loopw [10] (fun i wr=>∃ k:Nat,k<=m/\i = .int .i64 k/\Hid (KRef C (vW X f rest (putV (c.outs.take k) (l.take k) f.V)) wr/\KK X (vW X f rest (putV (c.outs.take k) (l.take k) f.V)) (w.alloc (.cells #[.int .i64 c.op,.int .u64 (c.n:Int),D,.slice F R G,E] 86)) wr/\∀ j,X.lab j≠10+rest.length->j<w.heap.size->wr.heap[j]? = w.heap[j]?)) (fun i _=>m - (intOf i).toNat)
 case atStart=>
  refine⟨0,by omega,rfl,fQ ?_⟩
  have e:vW X f rest (putV (c.outs.take 0) (l.take 0) f.V)=X:=by
   have:putV (c.outs.take 0) (l.take 0) f.V=f.V:=rfl;rw[this];unfold vW;have h2:=aC.out;cases X;rename_i x _ _ _ _ _ _ _;cases x;simp at h2 ⊢;rw[h2]
  rw[e];exact⟨H.out,KK.refl _ _,fun j _ q=>z.block j q⟩
 case round=>
  obtain⟨k,hk,rfl,J⟩:=hrel;by_cases aF:k<m
  ·have t1:decide ((k:Int)<m)=true:=(by simp;omega);have t2:(k:Int)<m:=(by omega);have t3:(k:Int)<R:=(by omega);obtain⟨y,K⟩:∃ y,l[k]? = some y:=⟨_,Ax (by rw[Y.out];exact aF)⟩;obtain⟨o,A⟩:∃ o,c.outs[k]? = some o:=⟨_,Ax (by rw[aE.out];omega)⟩;have aG:=aB.out o (Aw A);obtain⟨on,rfl⟩:=AK aG.1;have aH:on<f.V.length:=(by omega);obtain⟨p,d,L⟩:=J.out;obtain⟨g',c',v,vs,a,e2,Z,e4,e5,e6,e7,e8,e9,e10,ax⟩:=KRef.top p.toKRest (f:={ f with V:=putV (c.outs.take k) (l.take k) f.V }) (rest:=rest) rfl;have a:X.sv=_:=a;rw[aD.out]at a;injection a with a _ _;injection a with a;injection a with a;subst a;have M:(putV (c.outs.take k) (l.take k) f.V).length=f.V.length:=aXc _ _ _;have e10:wr.ownsRow C.w0.heap.size 52 1 v (putV (c.outs.take k) (l.take k) f.V).length (u64V (putV (c.outs.take k) (l.take k) f.V)):=e10;rw[M]at e10;obtain⟨pg,pc,rfl,aN,aO,aP⟩:=lQ e10 (by omega);obtain⟨pv,aQ⟩:=aVe e10 aH;have aR:wr.frozen? ⟨pg,on,none⟩=false:=e10.frozenAt _;have K3:=(d.blk I.out T.out).cell 3;simp at K3;have yB:=(d.blk I.out T.out).lt;obtain⟨b,ob,rfl,hb,t⟩:=(U.out.heap (AV z.size d.size) (fun j q N=>L j (aA.out j q) N)).cell K;obtain⟨b2,aS,rfl,aT,aI⟩:=(W.out.below p.bel (Aq _)).cell A;have ay:(vW X f rest (putV (c.outs.take k) (l.take k) f.V)).lab pg=10+rest.length:=ax pg rfl;have aJ:=fQ p;have aK:=fQ d;have aL:=fQ L;have HY:=fQ K;have HO:=fQ A;have HP:=fQ Z;have aM:=fQ M;clear J p d L K A Z e10 e4 e5 ax H M;go_wp2_with fail;go_region;go_wp2;refine⟨⟨k+1,by omega,by simp,fQ ?_⟩,by simp[intOf];omega⟩;rw[aZo _ _ _ _ _ _ HO.out HY.out,AX];have hP:=HP.out;rw[<-aM.out]at hP;have S:=aJ.out.fXb (f:={ f with V:=putV (c.outs.take k) (l.take k) f.V }) (rest:=rest) rfl hP on y;refine⟨S.drew,(aK.out.set (y:=vW X f rest (putV (c.outs.take k) (l.take k) f.V)) (g:=pg) _ _ (.inl (by rw[ay];omega)) rfl).drew.to rfl,fun j q N=>(Az _ _ _ _ (fun e=>q (by have:j=pg:=e;rw[this];exact ay))).trans (aL.out j q N)⟩
  ·have t1:decide ((k:Int)<m)=false:=(by simp;omega);have ak:m=k:=(by omega);subst ak;go_wp2;go_end0;obtain⟨p,d,_⟩:=J.out;rw[<-Y.out,aWi]at p d;exact⟨rfl,p,KK.trans (KK.eYy ((Ay w.heap.size w).alloc (Aq _) _)) d⟩
theorem cJg:(fZ.info? 83).map (fun i=>(i.zero,i.size,i.bytes))=some (some (.agg #[.pointer none,.int .i64 0,.slice none 0 0]),3,40):=by kernel_rfl
structure EnI (w w2:Bb) (P k:Nat) (q:RowD) (L:List Nat) (wr:Bb):Prop where
 own:wr.ownsRow w.heap.size 52 1 (.slice (some ⟨w.heap.size,0,none⟩) P P) P (u64V (putV (q.params.take k) (L.take k) (AQ P 0)))
 bel:Bd w.heap.size w wr
 oth:∀ j,j≠w.heap.size->wr.heap[j]? = w2.heap[j]?
 size:wr.heap.size=w2.heap.size
theorem eVt{a b c:Bc}(k:Blk w g e #[a,b,c]):w.cell? ⟨g,0,none⟩=some a/\w.cell? ⟨g,1,none⟩=some b/\w.cell? ⟨g,2,none⟩=some c:=
 ⟨by simpa using k.cell 0,by simpa using k.cell 1,by simpa using k.cell 2⟩
theorem eVu{a N:Nat}(h:v.ownBlock=some a\/a=N):(Ak (some ⟨a,0,none⟩) n c).ownBlock=v.ownBlock\/(Ak (some ⟨a,0,none⟩) n c).ownBlock=some N:=by
 rcases h with h | h
 ·exact .inl h.symm
 ·exact .inr (by rw[h];rfl)
theorem aJb{r:Option Nat}(h:w.drew.grownBy w' r):w.grownBy w' r:=⟨h.os,h.tape,h.output,h.size,h.block⟩
theorem eVv{size:Nat}{a:List Bc}(h:w.ownsRow base e size v n a):w.drew.ownsRow base e size v n a:=h
theorem eYf(C:KaC)(f:FrD)(A:Option Addr)(n c:Nat):∀ u∈vY C f (.slice A n c),u.oneCell'=true:=by
 intro u a;simp only[vY,List.mem_cons,List.mem_nil_iff,or_false]at a;rcases a with rfl | rfl | rfl <;> rfl
theorem dYv{C:KaC}{X:KaS}{f:FrD}{w wr h:Bb}{pv:Bc}{d:Option Addr}{L cS a cap:Nat}{O:Obj}(o:KRef C { X with lab:=mK X.lab pv (10+X.x.st.length) } wr)(m:KK X { X with lab:=mK X.lab pv (10+X.x.st.length) } w wr)(i:X.sv = .slice d L cS)(p:X.x.st.length=L)
  (q:wr.ownsRow C.w0.heap.size 52 1 pv f.V.length (u64V f.V)) (r:h.ownsRow C.w0.heap.size 83 3 (.slice (some ⟨a,0,none⟩) (L+1) cap) (L+1) (stCells C X.x.st X.ps++vY C f pv)) (hgrow:(wr.alloc O).drew.grownBy h (Ak d L cS).ownBlock) (s:(Ak d L cS).ownBlock=some a\/a=wr.heap.size+1) :
  aWj C X { X.x with st:=f :: X.x.st } w (.returned (.tuple #[])) (h.setCell ⟨C.cb,12,none⟩ (.slice (some ⟨a,0,none⟩) (L+1) cap)):=by
 have j:=(Ay wr.heap.size wr).alloc (Aq _) O;have h1:=o.below j;have hg:=aJb hgrow;have n:(Ak (some ⟨a,0,none⟩) (L+1) cap).ownBlock=(Ak d L cS).ownBlock\/(Ak (some ⟨a,0,none⟩) (L+1) cap).ownBlock=some (wr.alloc O).heap.size:=eVu (by simpa using s);have l:∀ k,(Ak d L cS).ownBlock=some k->mK X.lab pv (10+X.x.st.length) k=7:=fun k b=>h1.l7 k (by show X.sv.ownBlock=_;rw[i];exact b)
 have t:(Ak d L cS).ownBlock≠some C.cb:=fun e=>by
  have h8:=l _ e;have h9:mK X.lab pv (10+X.x.st.length) C.cb=1:=h1.cl;omega
 have h2:=h1.toKRest.fXo (v':=.slice (some ⟨a,0,none⟩) (L+1) cap) (pv:=pv) (f:=f) (by show Bv _ _ _ _ _ (X.x.st.length+1) _;rw[p];exact r) (by show World.grownBy _ _ X.sv.ownBlock;rw[i];exact hg) (by show _=X.sv.ownBlock\/_;rw[i];exact n) (pJ q O) (fun k b=>xV b);have u:=h2.fQn (h1.cb.grown hg t) 12 (.slice (some ⟨a,0,none⟩) (L+1) cap) (by simp[kCells]);refine⟨rfl,_,u,?_,rfl⟩;have z:=(m.below j).grown hg (fun k b=>.inl (by rw[show({ X with lab:=mK X.lab pv (10+X.x.st.length) }:KaS).lab k=7 from l k b];decide))
 have k2:=z.fQc (v:=.slice (some ⟨a,0,none⟩) (L+1) cap) (c:=7) (fun k b=>by
  rcases n with e | e
  ·exact .inr (by rw[show({ X with lab:=mK X.lab pv (10+X.x.st.length) }:KaS).lab k=7 from l k (by rw[<-e];exact b)];decide)
  ·rw[b]at e;injection e with e
   exact .inl (by rw[e];exact AV m.size j.size))
 have A:=KRef.lcb h2;exact(k2.set (y:={ X with lab:=mK (mK X.lab pv (10+X.x.st.length)) (.slice (some ⟨a,0,none⟩) (L+1) cap) 7 }) (g:=C.cb) 12 _ (.inl A) rfl).to rfl
theorem dKw(P:Nat):u64V (AQ P 0)=AQ P (.int .u64 0):=by simp[u64V]
theorem bJy(C:KaC)(X:KaS)(n m i:Nat)(g:SigD)(q:RowD)(va:Bc)(a:List Nat)(w:Bb)(h:KRef C X w)(s:KC C)(hg:C.p.env.sigs[n]? = some g)(S:C.p.env.imports=(m:Int))(hi:n=m+i)(hq:C.p.fns[i]? = some q)(ha:UR w va a)(G:a.length=g.inn.length)(hd:X.x.st.length<=15):
  Calls fZ 31 #[.pointer (some ⟨C.mm,0,none⟩),.int .i64 n,va] w (aWj C X { X.x with st:=⟨i,q,0,initV q (lowL g.inn a)⟩ :: X.x.st } w):=by
 have D:=(s.ok.row _ _ hq).1;obtain⟨nf,cf,hf⟩:=s.adr (fun e=>by rw[e]at hq;simp at hq)
 have aK:q.sig=g:=by
  have h1:=(s.ok.row _ _ hq).2;rw[S,AX,<-hi,hg]at h1;injection h1 with h1;exact h1.symm
 obtain⟨P,T⟩:=AK D.p1;have bC:P<=4096:=(by have:=D.p2;omega);obtain⟨sb,so,ns,cs,sp,sq,aL,ba,bb,s1,s2,s3,s4,_⟩:=s.sig h.bel hg;obtain⟨rp,rq,rs,ru,y0,y1,y2,y3,y4,y5,_,_,I,_⟩:=s.row h.bel hq;rw[T]at y3;have m0:=h.eYx;have c0:w.cell? ⟨C.cb,0,none⟩=some (.slice (some ⟨sb,so,none⟩) ns cs):=(by rw[h.cell 0];simp[kCells,aL]);have c1:w.cell? ⟨C.cb,1,none⟩=some (.int .i64 m):=(by rw[h.cell 1];simp[kCells,S]);have c5:w.cell? ⟨C.cb,5,none⟩=some (.slice (some ⟨C.zf,C.of_,none⟩) nf cf):=(by rw[h.cell 5];simp[kCells,hf]);have yb:=h.cb.lt;have ym:=h.mm.lt
 have bD:i<nf:=by
  obtain⟨a',b',d',f',e,_,_,_,h4⟩:=s.rows;injection e with e;injection e with e;simp only[List.cons.injEq,and_true]at e;obtain⟨_,_,_,_,_,e6⟩:=e;rw[<-e6,hf]at h4;rw[h4.eYz.1];exact(List.getElem?_eq_some_iff.1 hq).1
 have bc:(i:Int)<(nf:Int):=(by omega);have bd:IntKind.i64.wrap ((n:Int) - (m:Int))=(i:Int):=(by rw[show(n:Int) - (m:Int)=(i:Int) by omega];exact IntWalk.i64_in _ (by omega));have be:(n:Int)<(ns:Int):=(by omega);obtain⟨K,U⟩:=fX a.length;have aM:(lowL g.inn a).length=K:=(by rw[rW _ _ G.symm,U]);have V:q.params.length=K:=(by rw[D.par,aK,<-G,U]);have bE:K<=8:=(by have:=(wQ s.ok.env hg).1;omega);obtain⟨A2,c2,bf⟩:=I.shape;subst bf;rw[V]at y4 I;obtain⟨A1,bF,rfl⟩:=s4.shape;have mk:=bXf (P:=fZ) 30 52 (.int .u64 0) 8 underlying30 sQ rfl P (by omega) (by omega);have H:=fQ h;have HC:=fQ s;have HA:=fQ ha;have aN:=fQ G;have W:=fQ aM;have bg:=fQ V;have bh:=fQ D;have Y:=fQ T;have bj:=fQ s4;have bk:=fQ I.ir;clear h ha G aM V D T s4 I hg hq aK aL hf U S hi ba s;go_in;go_wp2_with fail;go_quiet (fail);obtain⟨b,z⟩:=fX (w.drewN nq)
 have q0:∀ a,b.cell? a=w.cell? a:=fun a=>by rw[<-z];rfl
 have qs:b.heap.size=w.heap.size:=(by rw[<-z];rfl);rw[<-q0]at m0 c0 c1 c5 s2 s3 y1 y2 y3 y4 y5;rw[<-qs]at yb ym s1 y0;have u:=fQ (show KRef C X b by rw[<-z];exact H.out.drewN nq);have Z:=fQ (show KK X X w b by rw[<-z];exact KK.eYy (fV (Ay _ _) nq));have aO:=fQ (show UR b va a by rw[<-z];exact HA.out);rw[z];clear z q0 qs H HA;have aP:=(Ay b.heap.size b).alloc (Aq _) (.cells (Av P (.int .u64 0)) 52);have J:=aP.alloc (by simp) (.cells #[.pointer (some ⟨C.zf,C.of_+i*5,none⟩),.int .i64 0,.slice (some ⟨b.heap.size,0,none⟩) P P] 83);have aQ:=fQ ((Blk.new b 52 (Av P (.int .u64 0))).alloc (.cells #[.pointer (some ⟨C.zf,C.of_+i*5,none⟩),.int .i64 0,.slice (some ⟨b.heap.size,0,none⟩) P P] 83));have aR:=fQ (Blk.newAt (b.alloc (.cells (Av P (.int .u64 0)) 52)) (N:=b.heap.size+1) 83 #[.pointer (some ⟨C.zf,C.of_+i*5,none⟩),.int .i64 0,.slice (some ⟨b.heap.size,0,none⟩) P P] (by simp));have aS:=fQ J;have aT:=fQ (bj.out.ir.below (u.out.bel.trans (J.mono u.out.bel.size)) (Aq _));have aU:=fQ (aO.out.below J (Aq _));have aV:((b.alloc (.cells (Av P (.int .u64 0)) 52)).alloc (.cells #[.pointer (some ⟨C.zf,C.of_+i*5,none⟩),.int .i64 0,.slice (some ⟨b.heap.size,0,none⟩) P P] 83)).heap.size=b.heap.size+2:=(by simp);have aA:=fQ aV;clear aP J aV;go_wp2_with fail;refine(aQs _ _ g.inn a _ aT.out aU.out aN.out.symm).mono ?_;rintro e M ⟨v3,rfl,E,B⟩;rw[<-rW g.inn a aN.out.symm,W.out]at E;rw[aA.out]at E B;obtain⟨A3,c3,rfl,bG⟩:=fJ E;have aW:=fQ (aS.out.trans (B.mono (by omega)));have an:=fQ (aQ.out.below B (by omega));have ao:=fQ (aR.out.below B (by omega));have aB:=fQ E;have bH:b.heap.size+2<=M.heap.size:=(by have:=B.size;rw[aA.out]at this;exact this);clear E B aQ aR aS aT aU aA aO;go_wp2_with fail;go_loopw [53] (fun v wr=>∃ k:Nat,k<=K/\v = .int .i64 k/\Hid (EnI b M P k q (lowL g.inn a) wr)) (fun v _=>K - (intOf v).toNat)
 case atStart=>
  refine⟨0,by omega,rfl,fQ ⟨?_,aW.out,fun _ _=>rfl,rfl⟩⟩
  have e:u64V (putV (q.params.take 0) ((lowL g.inn a).take 0) (AQ P 0))=(Av P (Value.int .u64 0)).toList:=by
   show u64V (AQ P 0)=_;rw[dKw];simp
  rw[e];exact Blk.own an.out (Aq _) (by simp) (by unfold maxLen;omega)
 case round=>
  obtain⟨k,hk,rfl,d⟩:=hrel;have bm:M.heap.size=wr.heap.size:=d.out.size.symm;have K3:Blk wr (b.heap.size+1) 83 _:=(d.out.oth _ (by omega)).trans ao.out;obtain⟨p0,p1,p2⟩:=eVt K3;by_cases aX:k<K
  ·have t1:decide ((k:Int)<K)=true:=(by simp;omega);have t2:(k:Int)<K:=(by omega);obtain⟨y,hy⟩:∃ y,(lowL g.inn a)[k]? = some y:=⟨_,Ax (by rw[W.out];exact aX)⟩;obtain⟨o,O⟩:∃ o,q.params[k]? = some o:=⟨_,Ax (by rw[bg.out];exact aX)⟩
   have aC:0<=o/\o<(P:Int):=by
    have h1:=bh.out.pin;unfold within at h1;rw[BX]at h1;have:=h1 o (Aw O);rw[Y.out]at this
    simpa using this
   obtain⟨on,rfl⟩:=AK aC.1;have bn:on<P:=(by omega);have bI:wr.cell? ⟨C.zf,C.of_+i*5+3,none⟩=some (.slice A2 K c2):=(d.out.bel.cell (p:=⟨C.zf,_,none⟩) y0).trans y4;have bJ:C.zf<wr.heap.size:=Aj y0 d.out.bel.size;obtain⟨pv,bL⟩:=aVe d.out.own bn;have bM:wr.frozen? ⟨b.heap.size,on,none⟩=false:=d.out.own.frozenAt _;have bN:b.heap.size<wr.heap.size:=(by omega);obtain⟨b2,bO,rfl,bP,bo⟩:=(bk.out.below (u.out.bel.trans (d.out.bel.mono u.out.bel.size)) (Aq _)).cell O;obtain⟨F,bQ,aD,bT,bU,_⟩:=lQ aB.out (by omega);injection aD with aD _ aE;subst aD;subst aE
   have bV:wr.cell? ⟨F,k,none⟩=some (.int .u64 (y:Int)):=by
    have h5:M.cell? ⟨F,k,none⟩=some (.int .u64 (y:Int)):=by
     rw[aB.out.cellAt k (by omega)];simp[u64V,hy]
    exact(World.cell?_of_block (a:=⟨F,k,none⟩) (d.out.oth F (by omega))).trans h5
   have bW:F<wr.heap.size:=(by omega);have HY:=fQ hy;have HO:=fQ O;have bX:(on:Int)<(P:Int):=aC.2;clear hy O aC bm;go_wp2_with fail;go_region;go_wp2;refine⟨⟨k+1,by omega,by simp,fQ ⟨?_,(d.out.bel.setCell (p:=⟨b.heap.size,on,none⟩) (Aq _) _).drew,fun j r=>(Az _ _ _ _ r).trans (d.out.oth j r),?_⟩⟩,by simp[intOf];omega⟩
   ·rw[aZo _ _ _ _ _ _ HO.out HY.out,AX,<-aZf];exact(d.out.own.stored on _).1
   ·exact(show(wr.setCell ⟨b.heap.size,on,none⟩ (.int .u64 (y:Int))).heap.size=wr.heap.size by simp[AJ]).trans d.out.size
  ·have t1:decide ((k:Int)<K)=false:=(by simp;omega);have aF:k=K:=(by omega);subst aF;have ad:=aWi q.params (lowL g.inn a) (AQ P 0);rw[W.out]at ad;have aq:putV q.params (lowL g.inn a) (AQ P 0)=initV q (lowL g.inn a):=(by unfold initV;rw[Y.out,AX]);have Q:=d.out.own;rw[ad,aq]at Q;have l:=u.out.below d.out.bel
   have ae:∀ j,(Ak (some ⟨b.heap.size,0,none⟩) P P).ownBlock=some j->X.lab j=0/\C.w0.heap.size<=j/\j<wr.heap.size:=fun j r=>by
    injection r with r;subst r;exact⟨KRef.fresh u.out.toKRest (Aq _),u.out.bel.size,(Q.lt _ rfl).2⟩
   have HX:=l.fQc (.slice (some ⟨b.heap.size,0,none⟩) P P) (10+X.x.st.length) ae;have aY:=((Z.out.below d.out.bel).fQc (v:=.slice (some ⟨b.heap.size,0,none⟩) P P) (c:=10+X.x.st.length) (fun j r=>.inl (by injection r with r;rw[<-r];exact Z.out.size)));obtain⟨AS,cS,A,bp⟩:=fJ l.stk;have R:=l.stk;obtain⟨L,hL⟩:=fX X.x.st.length;rw[hL]at A bp R hd;rw[A]at R;have bY:=l.eYx;have bZ:wr.cell? ⟨C.cb,12,none⟩=some (.slice AS L cS):=(by rw[l.cell 12];simp[kCells,A]);have b0:=l.cb.lt;have b1:=l.mm.lt;obtain⟨i0,bq,br,bs,aG⟩:=info_parts cJg;have KB:=l.cb.alloc (.cells #[.pointer (some ⟨C.zf,C.of_+i*5,none⟩),.int .i64 0,.slice (some ⟨b.heap.size,0,none⟩) P P] 83);have aH:=fQ KB
   have aZ:(Ak AS L cS).ownBlock≠some C.cb:=by
    intro e;have:=l.l7 C.cb (by rw[A];exact e);rw[l.cl]at this;cases this
   have aI:=fQ aZ
   have a1:(Ak AS L cS).ownBlock≠some C.mm:=by
    intro e;have:=l.l7 C.mm (by rw[A];exact e);rw[l.ml]at this;cases this
   have a6:=fQ a1;have a7:=fQ (l.mm.alloc (.cells #[.pointer (some ⟨C.zf,C.of_+i*5,none⟩),.int .i64 0,.slice (some ⟨b.heap.size,0,none⟩) P P] 83));have bt:=fQ (pJ R (.cells #[.pointer (some ⟨C.zf,C.of_+i*5,none⟩),.int .i64 0,.slice (some ⟨b.heap.size,0,none⟩) P P] 83));have bu:=fQ HX;have aJ:=fQ aY;have a8:(initV q (lowL g.inn a)).length=P:=(by rw[aQk,Y.out,AX]);have bw:=fQ (show wr.ownsRow C.w0.heap.size 52 1 (.slice (some ⟨b.heap.size,0,none⟩) P P) (initV q (lowL g.inn a)).length (u64V (initV q (lowL g.inn a))) by rw[a8];exact jQ Q u.out.bel.size);have bx:=fQ A;have bz:=fQ hL;have y9:=K3.lt;have b3:=l.bel.size;clear HX aY l a8 Q R A hL KB aZ a1 aq ad ae d u Z aW an ao aB K3 y1 y2 y3 y4 y5 s2 s3 c0 c1 c5 m0;go_wp2_with fail
   go_region_law
    ((refine step_append_lies _ (by rfl) _ _ _ (by rfl) C.w0.heap.size 83 i0 _ 3 40 underlying65 bq br bs aG rfl (by omega) _ L (stCells C X.x.st X.ps) (by rfl) (eVv bt.out) ⟨wr.heap.size,0,none⟩ 1 1 [.pointer (some ⟨C.zf,C.of_+i*5,none⟩),.int .i64 0,.slice (some ⟨b.heap.size,0,none⟩) P P] (by rfl) (by rfl) (World.news_of_block (cs:=#[.pointer (some ⟨C.zf,C.of_+i*5,none⟩),.int .i64 0,.slice (some ⟨b.heap.size,0,none⟩) P P]) (t:=83) (fr:=(0,0)) (Blk.newAt _ _ _ (by simp))) (eYf C ⟨i,q,0,[]⟩ (some ⟨b.heap.size,0,none⟩) P P) (by omega) (by unfold maxLen;omega) (by omega) (by simp;omega) (wr.heap.size+1) (by simp) ?_;intro gg cap w5 ar hgrow bA bB;have b4:w5.cell? ⟨C.cb,12,none⟩=some X.sv:=(aH.out.grown (aJb hgrow) aI.out).cell 12;have f12:=frz (aH.out.grown (aJb hgrow) aI.out) 12;have b5:=(aH.out.grown (aJb hgrow) aI.out).lt;have km:w5.cell? ⟨C.mm,0,none⟩=some (.pointer (some ⟨C.cb,0,none⟩)):=(a7.out.grown (aJb hgrow) a6.out).cell 0;have b6:=(a7.out.grown (aJb hgrow) a6.out).lt))
   all_goals
    go_end0;exact dYv (f:=⟨i,q,0,initV q (lowL g.inn a)⟩) bu.out aJ.out bx.out bz.out bw.out ar hgrow bA
end Go.Proofs.YtabibkpfgmolkaaGreatDoor

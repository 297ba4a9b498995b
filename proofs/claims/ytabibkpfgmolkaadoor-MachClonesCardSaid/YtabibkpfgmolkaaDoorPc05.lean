/- Lemmas for the claim, part 5. Conditions: none. -/
import Derived.Test.YtabibkpfgmolkaaDoorPc04
import Derived.Lib.AppendZerosOnto
import Derived.Lib.TrailingZeros
set_option maxRecDepth 100000
set_option maxHeartbeats 16000000
set_option linter.unusedVariables false
set_option linter.unusedSimpArgs false
open Go.Lib renaming hid→cQ
open Go.Proofs.Tryd renaming prog→cZ
open Go.RowKit
open List renaming getElem?_eq_getElem→Aj,replicate→Aq,mem_of_getElem?→Az,take_of_length_le→Ak,take_succ_eq_append_getElem→Aw,mem_cons_of_mem→Ay,take_append_of_le_length→AJ,eq_of_mem_replicate→AQ,mem_cons_self→AK,length_cons→AY,length_take→Ab,not_mem_nil→Ac,countP_cons→Ad,mem_cons→Ae,range→Ai
open Go.IntKind renaming wrap_u64→Ax,wrap_i64→Aa
open Nat renaming le_refl→Av,strongRecOn→AX,mul_one→AZ,lt_of_lt_of_le→AV,lt_or_eq_of_le→AW,zero_add→Af,le_trans→Ag,add_zero→Ah
open Go renaming World→Bj,Value→Bq
namespace Go.Proofs.YtabibkpfgmolkaaDoor
variable {k n j x b:Nat}{l a m:List Nat}{w:Bj}
def oK(n addr en:Nat):Bool:=decide (addr<=1099511627776) && (decide (en<=1099511627776) && decide (addr+en<=n))
def fJ(n:Nat)(wd:Int)(addr off:Nat):Int×Int:=
 if 4294967295<addr\/4294967295<off then(0,1)else if oK n (addr+off) wd.toNat then((addr+off:Nat),0)else(0,35)
def sxV(a:Nat)(q:Int):Int:=IntKind.u64.wrap (wrap64 (IntKind.u64.wrap (q*2 ^ (64 - 8*a))) / 2 ^ (64 - 8*a))
def aKx(k q:Int):Int:=if k=127 then q % 4294967296 else q
def tW(k:Int)(a:Nat)(b:Bool)(q:Int):Int:=aKx k (if b then sxV a q else q)
def leN:List Nat->Nat
 | []=>0
 | b :: l=>b+256*leN l
theorem aYn:∀ l:List Nat,AllB l->leN l<256 ^ l.length
 | [],_=>by simp[leN]
 | b :: l,h=>by
  have h1:=aYn l (fun x a=>h x (Ay _ a));have h2:=h b (AK ..);simp only[leN,AY,Nat.pow_succ];omega
def mX(m:List Nat)(op:Int)(addr off:Nat):Int×Int:=match acc op with
 | none=>(0,1)
 | some (k,wd,st,a)=>if st then(0,1)else if(fJ m.length wd addr off).2=0 then(tW k wd.toNat a (leN ((m.drop (addr+off)).take wd.toNat)),0)else(0,(fJ m.length wd addr off).2)
theorem aVo{addr off:Nat}{wd:Int}(h:(fJ n wd addr off).2=0):fJ n wd addr off=(((addr+off:Nat):Int),0)/\addr+off+wd.toNat<=n/\addr<=4294967295/\off<=4294967295:=by
 revert h
 unfold fJ
 split
 ·intro h;simp at h
 ·split
  ·rename_i h1 h2;intro _;simp[oK]at h2;exact⟨rfl,by omega,by omega,by omega⟩
  ·intro h;simp at h
theorem cZh(h:AllB l):(l.map UInt8.ofNat).map UInt8.toNat=l:=by
 rw[List.map_map]
 conv=>rhs;rw[<-List.map_id l]
 exact List.map_congr_left fun x a=>by have:=h x a;simp;omega
def uZ(n:Nat)(most:Int)(a:Nat):Bool:=decide (n % 256=0/\(n:Int)+256*a<=min most 4096)
def gZ(m:List Nat)(most:Int)(a:Nat):List Nat:=if uZ m.length most a then m++Aq (256*a) 0 else m
def oZ(n:Nat)(most:Int)(a:Nat):Nat:=if uZ n most a then n / 256 else 4294967295
theorem aVp(h:AllB m)(most:Int)(a:Nat):AllB (gZ m most a):=by
 unfold gZ
 split
 ·intro x b;rcases List.mem_append.1 b with h1 | h1
  ·exact h x h1
  ·rw[AQ h1];omega
 ·exact h
def xX(m:List Nat)(a N:Nat):Nat->List Nat
 | 0=>m
 | i+1=>(xX m a N i).set (a+i) (N / 256 ^ i % 256)
theorem aQk(m:List Nat)(a N:Nat):∀ i,(xX m a N i).length=m.length
 | 0=>rfl
 | i+1=>by rw[xX,List.length_set,aQk m a N i]
theorem aJf{m:List Nat}(h:AllB m)(a N:Nat):∀ i,AllB (xX m a N i)
 | 0=>h
 | i+1=>fun x b=>by
  rw[xX]at b;rcases List.mem_or_eq_of_mem_set b with h1 | h1
  ·exact aJf h a N i x h1
  ·omega
def jJ(n:Nat)(op:Int)(addr off N:Nat):Int:=match acc op with
 | none=>1
 | some (k,wd,st,_)=>if st=false then 1 else if k=127/\4294967295<N then 1 else(fJ n wd addr off).2
def cJv(op:Int):Nat:=match acc op with
 | none=>0
 | some (_,wd,_,_)=>wd.toNat
def gQ(m:List Nat)(op:Int)(addr off N:Nat):List Nat:=if jJ m.length op addr off N=0 then xX m (addr+off) N (cJv op)else[]
end Go.Proofs.YtabibkpfgmolkaaDoor
namespace Go.Proofs.YtabibkpfgmolkaaDoor
variable {k n j x b:Nat}{l a m:List Nat}{w:Bj}
theorem aQt(z:Bq)(k:Nat):Builtin.zeroCells #[z] k=(Aq k z).toArray:=by
 apply Array.ext';simp only[Builtin.zeroCells,List.size_toArray,AY,List.length_nil,Af,AZ,Nat.mod_one];apply List.ext_getElem?;intro i;by_cases h:i<k
 ·simp[h]
 ·simp[h]
theorem aXy{P:Program}{ops:Array Oper}{rest:List Oper}{o:Oper}{a:Act}{Q:Exit->Act->Bj->Prop}(w:Bj)(S:o.guard=none)(s x:Operand)(t l:TypeId)
  (H:o.op = .call { callee:=.builtin .append,args:=#[s,x],argTypes:=#[t,l] })
  (base:Nat) (e:TypeId) (z:Bq) (bytes:Nat) (y:IntKind) (m:P.underlying t=some (.slice e)) (p:P.underlying l=some (.int y)) (hinfo:(P.info? e).map (fun i=>(i.zero,i.size,i.bytes))=some (some z,1,bytes)) (A:z.cells=#[z]) (T:z.oneCell'=true)
  (v:Bq) (n:Nat) (b:List Bq) (hs:a.eval s=v) (c:w.ownsRow base e 1 v n b)
  (q:IntKind) (k:Nat) (K:Int) (B:K=(k:Int)) (C:a.eval x = .int q K) (I:n+k<=maxLen) (hbytes:(n+k)*bytes<=140737488355328) (hbase:base<=w.heap.size)
  (h:∀ v' w',w'.ownsRow base e 1 v' (n+k) (b++Aq k z)->Below base w w'->wpList P ops Q rest (a.put o.dst v') w'):wpList P ops Q (o :: rest) a w:=by
 subst B;obtain⟨i,hi,D,J,r⟩:=info_parts hinfo;have aj:n+k<=9223372036854775807:=(by simp only[maxLen]at I;omega);have U:IntKind.i64.wrap (k:Int)=k:=(by rw[Aa];omega);have aD:k*bytes<=140737488355328:=Ag (Nat.mul_le_mul_right _ (by omega)) hbytes;have V:¬(281474976710656<(k:Int)*(bytes:Int)):=(by rw[<-Int.natCast_mul];omega);have W:¬((k:Int)<0):=(by omega);have hlen:b.length=n:=(by simpa using c.1)
 have key:∃ v' w',(Builtin.append_ #[t,l] o.type #[v,.int q k]).run P w = .ok v' w'/\w'.ownsRow base e 1 v' (n+k) (b++Aq k z)/\w.grownBy w' v.ownBlock:=by
  have grown:∀ (old:Nat),old<n+k->∀ (row:Option Nat),
    (w.drew.alloc (.cells (b.toArray++Builtin.zeroCells z.cells k++Builtin.zeroCells z.cells (grownCap w (n+k) old e - (n+k))) e)).ownsRow base e 1
     (.slice (some ⟨w.heap.size,0,none⟩) (n+k) (grownCap w (n+k) old e)) (n+k) (b++Aq k z) /\
    w.grownBy (w.drew.alloc (.cells (b.toArray++Builtin.zeroCells z.cells k++Builtin.zeroCells z.cells (grownCap w (n+k) old e - (n+k))) e)) row:=by
   intro old H row;have X:=grownCap_ge w (n+k) old e;have E:grownCap w (n+k) old e<=maxLen:=grownCap_le_maxLen w (n+k) old e I;refine⟨⟨by simp[hlen],.inr ⟨w.heap.size,_,_,rfl,hbase,heap_alloc_new w.drew _,X,E,?_,?_⟩⟩,⟨rfl,rfl,rfl,by simp,fun k d _=>Below.heap_alloc w.drew _ k d⟩⟩
   ·rw[A];simp[size_zeroCells,hlen];omega
   ·rw[A,aQt];simp only[Array.toList_append,AZ];rw[AJ (by simp[hlen])];rw[Ak (by simp[hlen])]
  rcases Nat.eq_zero_or_pos k with rfl | d
  ·have L:IntKind.i64.wrap 0=0:=(by rw[Aa];omega);refine⟨v,w,?_,by simpa using c,World.grownBy.refl w _⟩;rcases c.2 with⟨rfl,rfl⟩ | ⟨g,cap,cur,rfl,_,_,M,_⟩
   ·simp[Builtin.append_,run_underlying m,run_underlying p,sizeOf,typeInfo,hi,asInt,asIntOf,L]
   ·simp[Builtin.append_,run_underlying m,run_underlying p,sizeOf,typeInfo,hi,asInt,asIntOf,L,M,storeCells]
  ·rcases c.2 with⟨rfl,rfl⟩ | ⟨g,cap,cur,rfl,Y,hg,M,E,aE,N⟩
   ·have C:b = []:=List.eq_nil_of_length_eq_zero hlen;subst C;have F:=Lib.run_append_nil_zeros (P:=P) w t l o.type e i z q y m p hi D k d (by omega) (by omega) (by rw[r];omega);have f:=grown 0 (by omega) (Value.ownBlock (.slice none 0 0));simp only[Af,List.nil_append,Array.empty_append]at f ⊢;exact⟨_,_,F,f.1,f.2⟩
   ·by_cases O:n+k<=cap
    ·have R:=run_storeCells_at P g n e (Aq k z) 0 cur w hg (by simp;omega) (fun u G=>by rw[AQ G];exact T);simp only[Ah]at R;have Z:k≠0:=(by omega);refine⟨.slice (some ⟨g,0,none⟩) (n+k) cap,_,?_,⟨by simp[hlen],.inr ⟨g,cap,_,rfl,Y,setRow_heap w g cur (cur.toList.take n++Aq k z++cur.toList.drop (n+(Aq k z).length)).toArray e _ hg,O,E,?_,?_⟩⟩,⟨rfl,rfl,rfl,by simp,fun k _ d=>setRow_other w g k _ (fun e=>d (by simp[Value.ownBlock,e]))⟩⟩
     ·simp[Builtin.append_,run_underlying m,run_underlying p,sizeOf,typeInfo,zeroValue,hi,D,J,r,asInt,asIntOf,U,W,Z,V,O,Addr.add_lit,A,aQt,R]
     ·simp;omega
     ·rw[AZ]at N;rw[N];simp only[AZ];rw[AJ (by simp[hlen])];rw[Ak (by simp[hlen])]
    ·have holds:∀ j u,b[j]? = some u->w.drew.cell? ((⟨g,0,none⟩:Addr).add j)=some u:=fun j u G=>by simpa using c.cells (g:=g) rfl j u G
     have hf:=run_firstCells_some (P:=P) w.drew i.size n ⟨g,0,none⟩ n cap b (by rw[J];exact c.1) holds;have F:=Lib.run_append_grow_zeros (P:=P) w t l o.type e i z q y m p hi D (some ⟨g,0,none⟩) n cap b hf k d (by omega) (by omega) (by omega) (by rw[r];omega) (by rw[r];exact growslice_fits (by omega) hbytes);have f:=grown cap (by omega) (Value.ownBlock (.slice (some ⟨g,0,none⟩) n cap));exact⟨_,_,F,f.1,f.2⟩
 obtain⟨v',w',ao,h2,h3⟩:=key;refine wpList_plain S fun K B=>?_;unfold Oper.wp execOp;simp only[H,resolve,invoke,builtin,Sem.run_bind,Sem.run_pure,Result.andThen_ok,List.map_toArray,List.map_cons,List.map_nil,hs,C,ao];exact B _ _ (h v' w' h2 (aQv (Below.refl _ _) h3 c (Av _) hbase))
end Go.Proofs.YtabibkpfgmolkaaDoor
namespace Go.Proofs.YtabibkpfgmolkaaDoor
variable {k n j x b:Nat}{l a m:List Nat}{w:Bj}
def fitsB(k:Int)(N:Nat):Bool:=decide (k=126\/(k=127/\N<4294967296))
def sV(a b:Nat)(x y:Int):List Bool:=[(a:Int) == b,(a:Int) != b,decide (x<y),decide (a<b),decide (y<x),decide (b<a),decide (x<=y),decide (a<=b),decide (y<=x),decide (b<=a)]
def oJ(k:IntKind)(W a b by_:Nat)(x:Int):List Int:=[k.wrap (a+b),k.wrap (a - b),k.wrap (a*b),0,0,0,0,bits .and k a b,bits .or k a b,bits .xor k a b,k.wrap (a*2 ^ by_),k.wrap (x / 2 ^ by_),(a:Int) / 2 ^ by_,
 bits .or k (k.wrap (a*2 ^ by_)) ((a:Int) / 2 ^ (W - by_)),bits .or k ((a:Int) / 2 ^ by_) (k.wrap (a*2 ^ (W - by_)))]
def fQ(M least k:Int)(a b:Nat)(x y:Int):Int×Int:=
 if b=0 then(0,33)else if k=0 then(if y = -1/\x=least then(0,34)else((x.tdiv y) % M,0))else if k=1 then((a:Int) / b,0)else if k=2 then((x.tmod y) % M,0)else((a:Int) % b,0)
def jY(c d k:Int)(a b:Nat):Int×Int:=
 if d=126 then
  if c=1 then(b01 ((sV a b (wrap64 a) (wrap64 b)).getD k.toNat false),0)
  else if 3<=k/\k<=6 then fQ 18446744073709551616 (-9223372036854775808) (k - 3) a b (wrap64 a) (wrap64 b)
  else((oJ .u64 64 a b (b % 64) (wrap64 a)).getD k.toNat 0,0)
 else
  if c=1 then(b01 ((sV a b (wrap32 a) (wrap32 b)).getD k.toNat false),0)
  else if 3<=k/\k<=6 then fQ 4294967296 (-2147483648) (k - 3) a b (wrap32 a) (wrap32 b)
  else((oJ .u32 32 a b (b % 32) (wrap32 a)).getD k.toNat 0,0)
def xK(W x:Nat):List Int:=[(W:Int) - Lib.bitLen x,Lib.ctz W x,Lib.popAux W x]
def aXs(k:Int)(x:Nat):Int:=if k=0 then IntKind.u64.wrap (wrap64 (wrap32 x))else x
def aXt(k:Int)(x:Nat):Int:=if k=0 then wrap64 (IntKind.i8.wrap x)else if k=1 then wrap64 (IntKind.i16.wrap x)else wrap64 (wrap32 x)
def pQ(k out:Int)(x:Nat):Int:=if out=127 then aXt k x % 4294967296 else IntKind.u64.wrap (aXt k x)
def u64V(l:List Nat):List Bq:=l.map fun c:Nat=>.int .u64 (c:Int)
def All64(l:List Nat):Prop:=∀ x∈l,x<18446744073709551616
def nQ(c d k:Int)(out:Int)(l:List Nat):Int×Int:=
 if c=0 then(b01 ((l.getD 0 0:Int) == 0),0)
 else if c=2 then((xK (if d=126 then 64 else 32) (l.getD 0 0)).getD k.toNat 0,0)
 else if c=4 then((l.getD 0 0:Int) % 4294967296,0)
 else if c=5 then(aXs k (l.getD 0 0),0)
 else if c=6 then(pQ k out (l.getD 0 0),0)
 else jY c d k (l.getD 0 0) (l.getD 1 0)
def mZ(op:Int)(l:List Nat):Int×Int:=match fK op with
 | none=>(0,1)
 | some (a,_,c,d)=>if(fW op).length=l.length/\l.all (kJ d)=true then nQ c d (op - a) (oW op) l else(0,1)
structure StD where
 mem:List Nat
 most:Int
 globals:List Nat
 fuel:Nat
 input:List Nat
 log:List Nat
def jW(t:Int)(n:Nat):Nat:=if t=127 then n % 4294967296 else n
def lowL:List Int->List Nat->List Nat
 | t :: a,n :: l=>jW t n :: lowL a l
 | _,_=>[]
theorem kV:∀ (a:List Int) (l:List Nat),a.length=l.length->(lowL a l).length=l.length
 | [],[],_=>rfl
 | t :: a,n :: l,h=>by simp[lowL,kV a l (by simpa using h)]
 | [],n :: l,h=>by simp at h
 | t :: a,[],h=>by simp at h
def hostV(n:Nat)(outs:List Int)(a:List Nat)(s:StD):List Nat×Int×StD:=
 if outs.length<=s.input.length then(lowL outs (s.input.take outs.length),0,{ s with log:=s.log++n :: a,input:=s.input.drop outs.length })
 else([],39,{ s with log:=s.log++n :: a,input:=[] })
def eW(c:CodeD)(a:List Nat)(s:StD):Nat×Int×StD:=
 if c.op=256 then(c.n,0,s)
 else if c.op=272 then(a.getD 0 0,0,s)
 else if c.op=258 then if s.fuel=0 then(0,36,s)else(0,0,{ s with fuel:=s.fuel - 1 })
 else if c.op=27 then(if a.getD 2 0=0 then a.getD 1 0 else a.getD 0 0,0,s)
 else if c.op=35 then(s.globals.getD c.n 0,0,s)
 else if c.op=36 then(0,0,{ s with globals:=s.globals.set c.n (a.getD 0 0) })
 else if c.op=257 then(0,if oK s.mem.length (a.getD 0 0) c.n then 0 else 35,s)
 else match acc c.op with
  | some (_,_,true,_)=>if jJ s.mem.length c.op (a.getD 0 0) c.n (a.getD 1 0)=0 then(0,0,{ s with mem:=gQ s.mem c.op (a.getD 0 0) c.n (a.getD 1 0) })else(0,38,s)
  | some (_,_,false,_)=>if(mX s.mem c.op (a.getD 0 0) c.n).2=0 then((mX s.mem c.op (a.getD 0 0) c.n).1.toNat,0,s)else(0,38,s)
  | none=>
   if c.op=63 then(s.mem.length / 256,0,s)
   else if c.op=64 then(oZ s.mem.length s.most (a.getD 0 0),0,{ s with mem:=gZ s.mem s.most (a.getD 0 0) })
   else((mZ c.op a).1.toNat,(mZ c.op a).2,s)
inductive ActD
 | go (k:Nat)
 | ret (l:List Nat)
 | vals (l:List Nat) (s:StD)
 | trap (x:Int) (s:StD)
 | call (n:Nat)
def actV(e:EnvD)(c:CodeD)(k:Nat)(a:List Nat)(s:StD):ActD:=
 if c.op=276 then .ret a
 else if c.op=277 then .trap 32 s
 else if c.op=273 then .go (c.to.getD 0 0).toNat
 else if c.op=274 then .go (if a.getD 0 0=0 then k+1 else(c.to.getD 0 0).toNat)
 else if c.op=275 then .go (c.to.getD (min (a.getD 0 0) (c.to.length - 1)) 0).toNat
 else if c.op=16 then
  if(c.n:Int)<e.imports then
   let h:=hostV c.n ((e.sigs.getD c.n ⟨[],[]⟩).out) a s
   if h.2.1=0 then .vals h.1 h.2.2 else .trap h.2.1 h.2.2
  else .call c.n
 else
  let h:=eW c a s
  if h.2.1=0 then .vals [h.1] h.2.2 else .trap h.2.1 h.2.2
def inK(e:EnvD)(s:SigD)(c:CodeD):List Int:=((dJ e s c.op c.n).getD ([],[])).1
def getV(V:List Nat)(l:List Int):List Nat:=l.map fun p=>V.getD p.toNat 0
def putV:List Int->List Nat->List Nat->List Nat
 | o :: os,n :: a,V=>putV os a (V.set o.toNat n)
 | _,_,V=>V
def zeroV(lost:Nat)(V:List Nat):List Nat:=Aq (min lost V.length) 0++V.drop lost
def initV(r:RowD)(a:List Nat):List Nat:=putV r.params a (Aq r.places.toNat 0)
def argV(e:EnvD)(r:RowD)(c:CodeD)(V:List Nat):List Nat:=lowL (inK e r.sig c) (getV V c.args)
structure ResD where
 out:List Nat
 s:StD
 e:Int
 cnt:Nat
 wds:Nat
inductive Ev (p:RowsD) (lost:Nat):Nat->RowD->Nat->List Nat->StD->ResD->Prop
 | ret {d:Nat} {r:RowD} {k:Nat} {V:List Nat} {s:StD} {c:CodeD} {l:List Nat} (hc:r.code[k]? = some c) (ha:actV p.env c k (argV p.env r c V) s = .ret l):Ev p lost d r k V s ⟨l,s,0,1,0⟩
 | trap {d:Nat} {r:RowD} {k:Nat} {V:List Nat} {s s':StD} {c:CodeD} {x:Int} (hc:r.code[k]? = some c) (ha:actV p.env c k (argV p.env r c V) s = .trap x s'):Ev p lost d r k V s ⟨[],s',x,1,0⟩
 | go {d:Nat} {r:RowD} {k k':Nat} {V:List Nat} {s:StD} {c:CodeD} {R:ResD} (hc:r.code[k]? = some c) (ha:actV p.env c k (argV p.env r c V) s = .go k') (hn:Ev p lost d r k' V s R):Ev p lost d r k V s { R with cnt:=1+R.cnt }
 | vals {d:Nat} {r:RowD} {k:Nat} {V:List Nat} {s s':StD} {c:CodeD} {l:List Nat} {R:ResD} (hc:r.code[k]? = some c) (ha:actV p.env c k (argV p.env r c V) s = .vals l s') (hn:Ev p lost d r (k+1) (putV c.outs l V) s' R):Ev p lost d r k V s { R with cnt:=1+R.cnt }
 | call {d:Nat} {r q:RowD} {k n:Nat} {V:List Nat} {s:StD} {c:CodeD} {g:SigD} {R1 R2:ResD} (hc:r.code[k]? = some c) (ha:actV p.env c k (argV p.env r c V) s = .call n) (hd:d<16) (hq:p.fns[n - p.env.imports.toNat]? = some q) (hg:p.env.sigs[n]? = some g)
   (h1:Ev p lost (d+1) q 0 (initV q (lowL g.inn (argV p.env r c V))) s R1) (he:R1.e=0) (h2:Ev p lost d r (k+1) (putV c.outs R1.out (zeroV lost V)) R1.s R2) :
   Ev p lost d r k V s ⟨R2.out,R2.s,R2.e,1+R1.cnt+R2.cnt,max (q.places.toNat+R1.wds) R2.wds⟩
 | callT {d:Nat} {r q:RowD} {k n:Nat} {V:List Nat} {s:StD} {c:CodeD} {g:SigD} {R1:ResD} (hc:r.code[k]? = some c) (ha:actV p.env c k (argV p.env r c V) s = .call n) (hd:d<16) (hq:p.fns[n - p.env.imports.toNat]? = some q) (hg:p.env.sigs[n]? = some g)
   (h1:Ev p lost (d+1) q 0 (initV q (lowL g.inn (argV p.env r c V))) s R1) (he:R1.e≠0):Ev p lost d r k V s ⟨[],R1.s,R1.e,1+R1.cnt,q.places.toNat+R1.wds⟩
 | deep {d:Nat} {r:RowD} {k n:Nat} {V:List Nat} {s:StD} {c:CodeD} (hc:r.code[k]? = some c) (ha:actV p.env c k (argV p.env r c V) s = .call n) (hd:16<=d):Ev p lost d r k V s ⟨[],s,37,1,0⟩
def UR(w:Bj)(v:Bq)(l:List Nat):Prop:=∃ A c,v = .slice A l.length c/\Src w A l.length (u64V l)/\l.length<=c/\(A=none->c=0)/\(l.length<=17592186043904/\c<=9223372036854775807)/\All64 l
def BR(w:Bj)(v:Bq)(m:List Nat):Prop:=∃ A c,v = .slice A m.length c/\Src w A m.length (bys m)/\m.length<=c/\(A=none->c=0)/\(m.length<=140737488355328/\c<=9223372036854775807)/\AllB m
theorem aQo(l m:List Nat):u64V (l++m)=u64V l++u64V m:=by simp[u64V]
theorem aYq(l:List Nat):∀ u∈u64V l,u.oneCell'=true:=by
 intro u a;simp only[u64V,List.mem_map]at a;obtain⟨x,_,rfl⟩:=a;rfl
theorem UR.shape{v:Bq}(h:UR w v l):∃ A c,v = .slice A l.length c:=by
 obtain⟨A,c,e,_⟩:=h;exact⟨A,c,e⟩
theorem UR.below{w w':Bj}{B:Nat}{v:Bq}{l:List Nat}(h:UR w v l)(a:Below B w w')(b:w.heap.size<=B):UR w' v l:=by
 obtain⟨A,c,e,hs,r⟩:=h;exact⟨A,c,e,hs.below a b,r⟩
theorem BR.below{w w':Bj}{B:Nat}{v:Bq}{l:List Nat}(h:BR w v l)(a:Below B w w')(b:w.heap.size<=B):BR w' v l:=by
 obtain⟨A,c,e,hs,r⟩:=h;exact⟨A,c,e,hs.below a b,r⟩
theorem UR.len{A:Option Addr}{c:Nat}(h:UR w (.slice A n c) l):n=l.length/\Src w A n (u64V l)/\n<=c/\(A=none->c=0)/\(n<=17592186043904/\c<=9223372036854775807)/\All64 l:=by
 obtain⟨A',c',e,r⟩:=h;injection e with a e2 b;subst a;subst e2;subst b;exact⟨rfl,r⟩
theorem UR.cell{w:Bj}{A:Option Addr}{n c:Nat}{l:List Nat}(h:UR w (.slice A n c) l){k x:Nat}(a:l[k]? = some x):∃ b o,A=some ⟨b,o,none⟩/\b<w.heap.size/\w.cell? ⟨b,o+k,none⟩=some (.int .u64 (x:Int))/\x<18446744073709551616:=by
 obtain⟨hn,hs,_,_,_,d⟩:=h.len;have hk:=(List.getElem?_eq_some_iff.1 a).1;obtain⟨b,o,e,f,hc⟩:=hs.2 (by omega);exact⟨b,o,e,f,hc k _ (by simp[u64V,a]),d x (Az a)⟩
theorem aYr{w':Bj}{A:Option Addr}{c:Nat}{d:List Bq}(h:Src w A n d)(hs:w.heap.size<=w'.heap.size)(g:∀ k,(Value.slice A n c).ownBlock=some k->k<w.heap.size->w'.heap[k]? = w.heap[k]?):Src w' A n d:=
 ⟨h.1,fun hn=>by
  obtain⟨b,o,e,f,hc⟩:=h.2 hn;refine⟨b,o,e,AV f hs,fun j u i=>?_⟩;have:=g b (by rw[e];rfl) f
  exact(World.cell?_of_block (w:=w) (a:=⟨b,o+j,none⟩) this).trans (hc j u i)⟩
theorem UR.heap{w w':Bj}{v:Bq}{l:List Nat}(h:UR w v l)(hs:w.heap.size<=w'.heap.size)(a:∀ k,v.ownBlock=some k->k<w.heap.size->w'.heap[k]? = w.heap[k]?):UR w' v l:=by
 obtain⟨A,c,rfl,h1,r⟩:=h;exact⟨A,c,rfl,aYr h1 hs a,r⟩
theorem BR.heap{w w':Bj}{v:Bq}{l:List Nat}(h:BR w v l)(hs:w.heap.size<=w'.heap.size)(a:∀ k,v.ownBlock=some k->k<w.heap.size->w'.heap[k]? = w.heap[k]?):BR w' v l:=by
 obtain⟨A,c,rfl,h1,r⟩:=h;exact⟨A,c,rfl,aYr h1 hs a,r⟩
theorem mQ{w':Bj}{base a:Nat}{e:TypeId}{v:Bq}{b:List Bq}(k:w.ownsRow base e a v n b)(c:∀ g,v.ownBlock=some g->g<w.heap.size->w'.heap[g]? = w.heap[g]?):w'.ownsRow base e a v n b:=by
 refine⟨k.1,?_⟩;rcases k.2 with h2 | ⟨g,cap,cur,h1,h2,hg,r⟩
 ·exact .inl h2
 ·refine .inr ⟨g,cap,cur,h1,h2,?_,r⟩;rw[c g (by rw[h1];rfl) (Array.getElem?_eq_some_iff.1 hg).1];exact hg
theorem aQp(l:List Nat)(k n:Nat):(u64V l).set k (.int .u64 (n:Int))=u64V (l.set k n):=by
 unfold u64V;rw[List.map_set]
theorem uJ{i g:Nat}{u:Bq}(h:b≠g):(w.setCell ⟨g,j,none⟩ u).cell? ⟨b,i,none⟩=w.cell? ⟨b,i,none⟩:=World.cell?_of_block (a:=⟨b,i,none⟩) (Below.heap_setCell _ _ _ _ h)
theorem xZ:(cZ.info? 62).map (fun i=>(i.zero,i.size,i.bytes))=some (some (.int .u64 0),1,8):=by kernel_rfl
theorem cXi{a:Nat}(h:a<18446744073709551616):bits .and .u64 (a:Int) 4294967295=((a % 4294967296:Nat):Int):=by
 rw[show(4294967295:Int)=((2 ^ 32 - 1:Nat):Int)from rfl,bits_and_u64_nat a (2 ^ 32 - 1) h (by decide)];exact congrArg Int.ofNat (Nat.and_two_pow_sub_one_eq_mod a 32)
theorem aVx{ks:List Int}{t:Int}(c:ks[k]? = some t)(d:l[k]? = some x):lowL (ks.take (k+1)) (l.take (k+1))=lowL (ks.take k) (l.take k) ++ [jW t x]:=by
 induction k generalizing ks l with
 | zero=>
  match ks,l,c,d with
  | a :: ks,b :: l,c,d=>
   simp at c d;subst c;subst d;rfl
 | succ k e=>
  match ks,l,c,d with
  | a :: ks,b :: l,c,d=>
   simp only[List.getElem?_cons_succ]at c d;simp only[List.take_succ_cons,lowL,List.cons_append];rw[e c d]
theorem cZk{t:Int}(h:x<18446744073709551616):jW t x<18446744073709551616:=by
 unfold jW
 split <;> omega
def bVv(ks:List Int)(l:List Nat)(w:Bj)(en:Ending)(w':Bj):Prop:=∃ v,en = .returned v/\w'.ownsRow w.heap.size 62 1 v l.length (u64V (lowL ks l))/\Below w.heap.size w w'
def cJy(b:Bool)(w:Bj)(en:Ending)(w':Bj):Prop:=en = .returned (.bool b)/\∃ n,w'=w.drewN n
theorem bJf{y:Nat}(h:l.take k=m.take k)(a:l[k]? = some x)(b:m[k]? = some y):x=y->l.take (k+1)=m.take (k+1):=by
 intro e;subst e;obtain⟨h1,h2⟩:=List.getElem?_eq_some_iff.1 a;obtain⟨c,d⟩:=List.getElem?_eq_some_iff.1 b;rw[Aw h1,Aw c,h,h2,d]
theorem cQo{y:Nat}(b:l[k]? = some x)(a:m[k]? = some y)(h:x≠y):l≠m:=by
 intro e;subst e;rw[b]at a;injection a with a;exact h a
theorem rX(v u:Bq)(l m:List Nat)(w:Bj)(h1:UR w v l)(h2:UR w u m):Calls cZ 15 #[v,u] w (cJy (decide (l=m)) w):=by
 obtain⟨A1,c1,rfl⟩:=h1.shape;obtain⟨A2,c2,rfl⟩:=h2.shape;have H1:=cQ h1;have j:=cQ h2;have B:=h1.len.2.2.2.2.1.1;have C:=h2.len.2.2.2.2.1.1;clear h1 h2;by_cases hlen:l.length=m.length
 ·obtain⟨n,hn⟩:=cX l.length;have d:m.length=n:=(by omega);have p:=cQ hn;have q:=cQ d;rw[hn]at H1 B ⊢;rw[d]at j C ⊢;have D:((n:Int) != (n:Int))=false:=(by simp);clear hn d hlen;go_in;go_wp2;go_loopw [5] (fun i wr=>∃ k:Nat,k<=n/\i = .int .i64 k/\Hid (l.take k=m.take k/\∃ z,wr=w.drewN z)) (fun i _=>n - (intOf i).toNat)
  case atStart=>exact⟨0,by omega,rfl,cQ ⟨by simp,0,rfl⟩⟩
  case round=>
   obtain⟨k,hk,rfl,IM⟩:=hrel;obtain⟨c,z,rfl⟩:=IM.out;clear IM;by_cases r:k<n
   ·have E:decide ((k:Int)<n)=true:=(by simp;omega);have t2:(k:Int)<n:=(by omega);obtain⟨x,f⟩:∃ x,l[k]? = some x:=⟨_,Aj (by rw[p.out];exact r)⟩;obtain⟨y,g⟩:∃ y,m[k]? = some y:=⟨_,Aj (by rw[q.out];exact r)⟩;obtain⟨b,o,rfl,hb,hc,_⟩:=H1.out.cell f;obtain⟨b2,o2,rfl,al,an,_⟩:=j.out.cell g;have s:=cQ f;have t:=cQ g;have F:=cQ c;clear f g c;by_cases a:x=y
    ·have q1:((x:Int) != (y:Int))=false:=(by simp[a]);have h:=cQ a;clear a;go_wp2_with fail;go_quiet (fail);go_wp2;exact⟨⟨k+1,by omega,by simp,cQ ⟨bJf F.out s.out t.out h.out,_,rfl⟩⟩,by simp[intOf];omega⟩
    ·have q1:((x:Int) != (y:Int))=true:=(by simp;omega);have h:=cQ a;clear a;go_wp2_with fail;go_quiet (fail);go_wp2;go_ret;exact⟨by rw[decide_eq_false (cQo s.out t.out h.out)];rfl,z+nq,by simp[World.drewN];omega⟩
   ·have E:decide ((k:Int)<n)=false:=by simp;omega
    have A:l=m:=by
     rw[<-Ak (l:=l) (i:=k) (by have:=p.out;omega),<-Ak (l:=m) (i:=k) (by have:=q.out;omega),c]
    have G:=cQ A;clear A c;go_wp2;go_ret;exact⟨by rw[decide_eq_true G.out];rfl,_,rfl⟩
 ·have H:l≠m:=fun e=>hlen (by rw[e]);have D:((l.length:Int) != (m.length:Int))=true:=(by simp;omega);go_in;go_wp2;go_ret;exact⟨by rw[decide_eq_false H];rfl,0,rfl⟩
theorem cY{e:EnvD}{r:RowD}{c:CodeD}(h:codeOk e r c=true):∃ i o,dJ e r.sig c.op c.n=some (i,o)/\c.args.length=i.length/\c.outs.length=o.length/\mJ c.op<=c.to.length/\(c.to.length:Int)<=lY c.op/\(∀ x∈c.to,0<=x/\x<r.code.length)/\(∀ x∈c.args,0<=x/\x<r.places)/\(∀ x∈c.outs,0<=x/\x<r.places)/\c.outs.Nodup:=by
 unfold codeOk at h
 cases hf:dJ e r.sig c.op c.n with
 | none=>rw[hf]at h;cases h
 | some b=>
  obtain⟨i,o⟩:=b;rw[hf]at h;simp only[Bool.and_eq_true,decide_eq_true_eq]at h;obtain⟨⟨h1,h2,d,f⟩,g,j,k,m⟩:=h
  have w:∀ {n:Int} {l:List Int},within n l=true->∀ x∈l,0<=x/\x<n:=fun a x p=>by
   unfold within at a;have:=List.all_eq_true.1 a x p
   simpa using this
  exact⟨i,o,rfl,h1,h2,d,f,w m,w g,w j,k⟩
theorem aJe{e:EnvD}{c:CodeD}{s:StD}(h:actV e c k a s = .ret l):c.op=276/\l=a:=by
 unfold actV at h;simp only at h
 repeat' split at h
 all_goals first | cases h | skip
 ·rename_i h1;exact⟨h1,rfl⟩
theorem aKv{e:EnvD}{c:CodeD}{s:StD}(h:actV e c k a s = .go j):(c.op=273/\j=(c.to.getD 0 0).toNat)\/(c.op=274/\(j=k+1\/j=(c.to.getD 0 0).toNat))\/(c.op=275/\j=(c.to.getD (min (a.getD 0 0) (c.to.length - 1)) 0).toNat):=by
 unfold actV at h;simp only at h
 repeat' split at h
 all_goals first
  | cases h
  | skip
 all_goals simp_all
theorem aXl{e:EnvD}{c:CodeD}{s s':StD}{x:Int}(h:actV e c k a s = .trap x s'):x≠0:=by
 unfold actV at h;simp only at h
 repeat' split at h
 all_goals first
  | (injection h with h1 h2;subst h1;first | assumption | decide)
  | cases h
theorem qV{e:EnvD}{c:CodeD}{s:StD}(h:actV e c k a s = .call n):c.op=16/\n=c.n/\¬(c.n:Int)<e.imports:=by
 unfold actV at h;simp only at h
 repeat' split at h
 all_goals first
  | (injection h with h1;subst h1;exact⟨by assumption,rfl,by assumption⟩)
  | cases h
theorem qW{e:EnvD}{c:CodeD}{s s':StD}(h:actV e c k a s = .vals l s'):c.op≠273/\c.op≠274/\c.op≠275/\c.op≠276/\c.op≠277 /\
  ((c.op=16/\(c.n:Int)<e.imports/\hostV c.n ((e.sigs.getD c.n ⟨[],[]⟩).out) a s=(l,0,s'))\/(c.op≠16/\l = [(eW c a s).1]/\(eW c a s).2.1=0/\s'=(eW c a s).2.2)):=by
 unfold actV at h;simp only at h
 repeat' split at h
 all_goals first
  | (injection h with h1 h2;subst h1;subst h2;refine⟨by assumption,by assumption,by assumption,by assumption,by assumption,?_⟩)
  | cases h
 ·rename_i b himp d;refine .inl ⟨b,himp,?_⟩;rw[<-d]
 ·rename_i b d;exact .inr ⟨b,rfl,d,rfl⟩
theorem aVn{outs:List Int}{s s':StD}(h:hostV n outs a s=(l,0,s')):l.length=outs.length/\s'.fuel=s.fuel:=by
 unfold hostV at h
 split at h
 ·rename_i hle;injection h with h1 h2;injection h2 with h2 b;subst h1;subst b;refine⟨?_,rfl⟩;rw[kV _ _ (by rw[Ab];omega),Ab];omega
 ·injection h with h1 h2;injection h2 with h2 b;omega
theorem qY(c:CodeD)(a:List Nat)(s:StD):(eW c a s).2.2.fuel<=s.fuel/\(c.op=258->(eW c a s).2.1=0->(eW c a s).2.2.fuel<s.fuel):=by
 unfold eW
 repeat' split
 all_goals simp_all
 all_goals omega
theorem rQ{c:CodeD}(h1:c.op≠273)(h2:c.op≠274)(h3:c.op≠275)(h4:c.op≠276)(h5:c.op≠277):nextOf c k = [(k:Int)+1]:=by
 unfold nextOf;rw[if_neg (by omega),if_neg (by omega),if_neg (by omega)]
theorem aKw{e:EnvD}{r:RowD}{c:CodeD}{s:StD}(h:actV e c k a s = .go j)(p:codeOk e r c=true):(j:Int)∈nextOf c k/\c.outs = []:=by
 obtain⟨i,o,hf,_,t,d,_,u,_⟩:=cY p
 have g:∀ x∈c.to,((x.toNat:Nat):Int)=x:=fun x v=>by have:=u x v;omega
 have m:o = []->c.outs = []:=fun e=>by subst e;exact List.length_eq_zero_iff.1 t
 have hn:∀ op,(op=273\/op=274\/op=275)->c.op=op->o = []:=fun op h1 h2=>by
  rw[h2]at hf;rcases h1 with rfl | rfl | rfl
  ·have hf:(if c.n=0 then some (([]:List Int),([]:List Int))else none)=some (i,o):=hf
   split at hf
   ·injection hf with hf;injection hf with _ h;exact h.symm
   ·cases hf
  ·have hf:(if c.n=0 then some (([127]:List Int),([]:List Int))else none)=some (i,o):=hf
   split at hf
   ·injection hf with hf;injection hf with _ h;exact h.symm
   ·cases hf
  ·have hf:(if c.n=0 then some (([127]:List Int),([]:List Int))else none)=some (i,o):=hf
   split at hf
   ·injection hf with hf;injection hf with _ h;exact h.symm
   ·cases hf
 have hg:∀ q,q<c.to.length->c.to.getD q 0∈c.to:=fun q hq=>by
  rw[List.getD_eq_getElem?_getD,Aj hq];exact List.getElem_mem hq
 rcases aKv h with⟨b,rfl⟩ | ⟨b,w⟩ | ⟨b,rfl⟩
 ·have f:0<c.to.length:=(by rw[b]at d;have:(1:Int)<=c.to.length:=d;omega);refine⟨?_,m (hn 273 (.inl rfl) b)⟩;unfold nextOf;rw[if_neg (by omega),if_pos (by omega),g _ (hg 0 f)];exact hg 0 f
 ·have f:0<c.to.length:=(by rw[b]at d;have:(1:Int)<=c.to.length:=d;omega);refine⟨?_,m (hn 274 (.inr (.inl rfl)) b)⟩;unfold nextOf;rw[if_neg (by omega),if_neg (by omega),if_pos b];rcases w with rfl | rfl
  ·simp
  ·rw[g _ (hg 0 f)]
   match hc:c.to,f with
   | x :: l,_=>simp
 ·have f:0<c.to.length:=(by rw[b]at d;have:(1:Int)<=c.to.length:=d;omega);refine⟨?_,m (hn 275 (.inr (.inr rfl)) b)⟩;unfold nextOf;rw[if_neg (by omega),if_pos (by omega),g _ (hg _ (by omega))];exact hg _ (by omega)
theorem pV{e:EnvD}{r:RowD}{c:CodeD}(hc:CheckP e r)(b:r.code[k]? = some c)(a:(j:Int)∈nextOf c k):j<r.code.length:=by
 have g:=Az b;obtain⟨_,_,_,_,_,d,_,i,_⟩:=cY (hc.code c g);have ai:=(List.getElem?_eq_some_iff.1 b).1
 have last:(c.op≠273/\c.op≠275/\c.op≠276/\c.op≠277)->k+1<r.code.length:=fun hn=>by
  refine Classical.byContradiction fun aj=>?_;have:k=r.code.length - 1:=(by omega);rw[this]at b;have:=hc.last c b;omega
 have f:(j:Int)∈c.to->j<r.code.length:=fun h=>by have:=i _ h;omega
 unfold nextOf at a
 split at a
 ·simp at a
 ·split at a
  ·exact f a
  ·split at a
   ·simp only[Ae,Ac,or_false]at a;rcases a with a | a
    ·have:=last (by omega);omega
    ·refine f ?_;rename_i m;have n:0<c.to.length:=(by rw[m]at d;have:(1:Int)<=c.to.length:=d;omega)
     match o:c.to,n with
     | x :: l,_=>rw[o]at a;simp at a;rw[a];simp
   ·simp only[Ae,Ac,or_false]at a;have:=last (by omega);omega
theorem aZm{p:RowsD}{r:RowD}{c:CodeD}(hp:ProgP p)(a:c.op=16)(b:codeOk p.env r c=true)(hi:¬(c.n:Int)<p.env.imports):∃ q g,p.fns[c.n - p.env.imports.toNat]? = some q/\p.env.sigs[c.n]? = some g/\g=q.sig:=by
 obtain⟨i,o,hf,_⟩:=cY b;rw[a]at hf;have hf:(p.env.sigs[c.n]?).map (fun g=>(g.inn,g.out))=some (i,o):=hf
 cases hg:p.env.sigs[c.n]? with
 | none=>rw[hg]at hf;cases hf
 | some g=>
  have hl:=(List.getElem?_eq_some_iff.1 hg).1;have he:=kX hp.env;have hn:=hp.len;obtain⟨q,hq⟩:∃ q,p.fns[c.n - p.env.imports.toNat]? = some q:=⟨_,Aj (by omega)⟩;refine⟨q,g,hq,rfl,?_⟩;have:=(hp.row _ q hq).2;rw[show p.env.imports.toNat+(c.n - p.env.imports.toNat)=c.n by omega,hg]at this;injection this
theorem Ev.total{p:RowsD}(hp:ProgP p)(lost:Nat):∀ (f D:Nat) (m:Nat) (r:RowD) (rk:Nat->Nat),CheckP p.env r->(∀ i c (k:Nat),r.code[i]? = some c->c.op≠258->(k:Int)∈nextOf c i->rk k<rk i) ->
  ∀ (d k:Nat) (V:List Nat) (s:StD),s.fuel=f->16 - d=D->rk k=m->k<r.code.length->∃ R,Ev p lost d r k V s R/\R.s.fuel<=s.fuel:=by
 intro f
 induction f using AX with
 | _ f I=>
 intro D
 induction D using AX with
 | _ D J=>
 intro m
 induction m using AX with
 | _ m K=>
 intro r rk hc b d k V s hf B hm L
 have again:∀ (j:Nat) (t:List Nat) (s':StD),j<r.code.length->(s'.fuel<s.fuel\/(s'.fuel=s.fuel/\rk j<rk k))->∃ R,Ev p lost d r j t s' R/\R.s.fuel<=s'.fuel:=fun j t s' C E=>by
  rcases E with E | ⟨h1,h2⟩
  ·exact I s'.fuel (by omega) D (rk j) r rk hc b d j t s' rfl B rfl C
  ·exact K (rk j) (by omega) r rk hc b d j t s' (by omega) B rfl C
 obtain⟨c,a⟩:∃ c,r.code[k]? = some c:=⟨_,Aj L⟩;have F:=hc.code c (Az a)
 cases ha:actV p.env c k (argV p.env r c V) s with
 | ret l=>exact⟨_,.ret a ha,Av _⟩
 | trap x s'=>
  refine⟨_,.trap a ha,?_⟩;show s'.fuel<=s.fuel;unfold actV at ha;simp only at ha
  repeat' split at ha
  all_goals first
   | (injection ha with h1 h2;subst h2;first | exact Av _ | exact(qY c _ s).1 | (unfold hostV;split <;> exact Av _))
   | cases ha
 | go j=>
  obtain⟨hn,_⟩:=aKw ha F;have u:c.op≠258:=(by rcases aKv ha with⟨h,_⟩ | ⟨h,_⟩ | ⟨h,_⟩ <;> omega);obtain⟨R,v,G⟩:=again j V s (pV hc a hn) (.inr ⟨rfl,b k c j a u hn⟩);exact⟨_,.go a ha v,G⟩
 | vals l s'=>
  obtain⟨h1,h2,M,N,O,hv⟩:=qW ha;have w:=rQ (k:=k) h1 h2 M N O;have o:((k+1:Nat):Int)∈nextOf c k:=(by rw[w];simp)
  have P:s'.fuel<s.fuel\/(s'.fuel=s.fuel/\c.op≠258)\/(s'.fuel<=s.fuel/\c.op≠258):=by
   rcases hv with⟨aA,_,Q⟩ | ⟨_,_,S,rfl⟩
   ·exact .inr (.inl ⟨(aVn Q).2,by omega⟩)
   ·by_cases u:c.op=258
    ·exact .inl ((qY c _ s).2 u S)
    ·exact .inr (.inr ⟨(qY c _ s).1,u⟩)
  obtain⟨R,v,G⟩:=again (k+1) (putV c.outs l V) s' (pV hc a o) (by
   rcases P with h | ⟨h,y⟩ | ⟨h,y⟩
   ·exact .inl h
   ·exact .inr ⟨h,b k c (k+1) a y o⟩
   ·rcases AW h with h | h
    ·exact .inl h
    ·exact .inr ⟨h,b k c (k+1) a y o⟩)
  refine⟨_,.vals a ha v,?_⟩;show R.s.fuel<=s.fuel;omega
 | call n=>
  obtain⟨T,rfl,hi⟩:=qV ha;by_cases hd:d<16
  ·obtain⟨q,g,hq,hg,rfl⟩:=aZm hp T F hi;have z:=(hp.row _ q hq).1;obtain⟨rk',U⟩:=z.rank;obtain⟨R1,H,A⟩:=J (16 - (d+1)) (by omega) (rk' 0) q rk' z U (d+1) 0 (initV q (lowL q.sig.inn (argV p.env r c V))) s hf rfl rfl (by have:=z.n1;omega);by_cases he:R1.e=0
   ·have w:=rQ (c:=c) (k:=k) (by omega) (by omega) (by omega) (by omega) (by omega);have o:((k+1:Nat):Int)∈nextOf c k:=(by rw[w];simp)
    obtain⟨R2,W,X⟩:=again (k+1) (putV c.outs R1.out (zeroV lost V)) R1.s (pV hc a o) (by
     rcases AW A with h | h
     ·exact .inl h
     ·exact .inr ⟨h,b k c (k+1) a (by omega) o⟩)
    exact⟨_,.call a ha hd hq hg H he W,Ag X A⟩
   ·exact⟨_,.callT a ha hd hq hg H he,A⟩
  ·exact⟨_,.deep a ha (by omega),Av _⟩
theorem Ev.some{p:RowsD}(hp:ProgP p)(lost:Nat){r:RowD}(hc:CheckP p.env r)(d k:Nat)(V:List Nat)(s:StD)(a:k<r.code.length):∃ R,Ev p lost d r k V s R:=by
 obtain⟨rk,b⟩:=hc.rank;obtain⟨R,c,_⟩:=Ev.total hp lost _ _ _ r rk hc b d k V s rfl rfl rfl a;exact⟨R,c⟩
theorem aKd{α:Type}{p q:α->Bool}:∀ (l:List α),(∀ x∈l,p x=true->q x=true)->(∃ x∈l,q x=true/\p x=false)->l.countP p<l.countP q
 | [],_,h=>by obtain⟨x,b,_⟩:=h;simp at b
 | a :: l,hi,h=>by
  have hle:l.countP p<=l.countP q:=List.countP_mono_left (fun x b=>hi x (Ay _ b));have ha:=hi a (AK ..);rw[Ad,Ad];obtain⟨x,b,hq,hp⟩:=h;rcases List.mem_cons.1 b with rfl | b
  ·rw[hq,hp];simp;omega
  ·have:=aKd l (fun x b=>hi x (Ay _ b)) ⟨x,b,hq,hp⟩;cases hpa:p a
   ·simp only[Bool.false_eq_true,if_false,Ah];exact AV this (Nat.le_add_right _ _)
   ·rw[ha hpa];simp only[if_true];omega
structure RkOk (r:RowD) (rk:Nat->Nat):Prop where
 lt:∀ i,rk i<=4096
 fall:∀ i c (k:Nat),r.code[i]? = some c->c.op≠258->(k:Int)∈nextOf c i->k<r.code.length->rk k<rk i
theorem CheckP.cYj{e:EnvD}{r:RowD}(h:CheckP e r):∃ rk,RkOk r rk:=by
 obtain⟨rk,a⟩:=h.rank;refine⟨fun i=>(Ai r.code.length).countP fun j=>decide (rk j<rk i),fun i=>?_,fun i c k hc b hn d=>?_⟩
 ·have:=List.countP_le_length (p:=fun j=>decide (rk j<rk i)) (l:=Ai r.code.length);rw[List.length_range]at this;have:=h.n2;omega
 ·have f:=a i c k hc b hn;refine aKd _ (fun j _ g=>?_) ⟨k,List.mem_range.2 d,by simpa using f,by simp⟩;simp only[decide_eq_true_eq]at g ⊢;omega
theorem bVm{e:EnvD}{c:CodeD}{s s':StD}{x:Int}(ha:actV e c k a s = .trap x s'):s'.fuel<=s.fuel:=by
 unfold actV at ha;simp only at ha
 repeat' split at ha
 all_goals first
  | (injection ha with h1 h2;subst h2;first | exact Av _ | exact(qY c _ s).1 | (unfold hostV;split <;> exact Av _))
  | cases ha
theorem bVn{e:EnvD}{c:CodeD}{s s':StD}(ha:actV e c k a s = .vals l s'):s'.fuel<=s.fuel/\(c.op=258->s'.fuel<s.fuel):=by
 obtain⟨h1,h2,h3,h4,h5,hv⟩:=qW ha;rcases hv with⟨aa,_,b⟩ | ⟨_,_,d,rfl⟩
 ·exact⟨Nat.le_of_eq (aVn b).2,fun h=>by omega⟩
 ·exact⟨(qY c _ s).1,fun h=>(qY c _ s).2 h d⟩
def cWf(s:StD)(R:ResD)(op:Int)(n:Nat):Prop:=
 R.cnt+4098*R.s.fuel<=4098*s.fuel+n+1/\(op=258->R.cnt+4098*R.s.fuel<=4098*s.fuel+1/\(R.e=0->R.cnt+4098*R.s.fuel<=4098*s.fuel))
theorem Ev.dQi{p:RowsD}{lost d:Nat}{r:RowD}{V:List Nat}{s:StD}{R:ResD}(hp:ProgP p)(h:Ev p lost d r k V s R):CheckP p.env r->∀ rk,RkOk r rk->∀ c,r.code[k]? = Option.some c->cWf s R c.op (rk k):=by
 induction h with
 | ret hc ha=>
  intro b rk e c a;rw[hc]at a;injection a with a;subst a;have:=(aJe ha).1;exact⟨by dsimp only;omega,fun h=>by omega⟩
 | trap hc ha=>
  intro b rk e c a;have:=bVm ha;have m:=aXl ha;refine⟨?_,fun h=>⟨?_,fun h=>absurd h m⟩⟩ <;> (dsimp only;omega)
 | @go d r k k' V s c R hc ha hn u=>
  intro b rk e c a;rw[hc]at a;injection a with a;subst a;have y:=b.code _ (Az hc);obtain⟨j,_⟩:=aKw ha y;have f:=pV b hc j;have t:c.op≠258:=(by rcases aKv ha with⟨h,_⟩ | ⟨h,_⟩ | ⟨h,_⟩ <;> omega);have v:=e.fall k c k' hc t j f;have:=(u b rk e _ (Aj f)).1;exact⟨by dsimp only;omega,fun h=>absurd h t⟩
 | @vals d r k V s s' c l R hc ha hn u=>
  intro b rk e c a;rw[hc]at a;injection a with a;subst a;have y:=b.code _ (Az hc);obtain⟨h1,h2,A,B,C,_⟩:=qW ha;have j:=rQ (k:=k) h1 h2 A B C;have f:((k+1:Nat):Int)∈nextOf c k:=(by rw[j];simp);have o:=pV b hc f;obtain⟨hf,D⟩:=bVn ha;have:=(u b rk e _ (Aj o)).1;have ar:=e.lt (k+1);by_cases t:c.op=258
  ·have:=D t;exact⟨by dsimp only;omega,fun _=>⟨by dsimp only;omega,fun _=>by dsimp only;omega⟩⟩
  ·have v:=e.fall k c (k+1) hc t f o;exact⟨by dsimp only;omega,fun h=>absurd h t⟩
 | @call d r q k n V s c g R1 R2 hc ha hd hq hg h1 he h2 ih1 ih2=>
  intro b rk e c a;rw[hc]at a;injection a with a;subst a;obtain⟨z,rfl,_⟩:=qV ha;have j:=rQ (c:=c) (k:=k) (by omega) (by omega) (by omega) (by omega) (by omega);have f:((k+1:Nat):Int)∈nextOf c k:=(by rw[j];simp);have o:=pV b hc f;have v:=e.fall k c (k+1) hc (by omega) f o;have i:=(hp.row _ q hq).1;obtain⟨rk',w⟩:=i.cYj;have x:0<q.code.length:=(by have:=i.n1;omega);have m:=Aj x;have E:=((ih1 i rk' w _ m).2 (i.first _ m)).2 he;have a2:=(ih2 b rk e _ (Aj o)).1;exact⟨by dsimp only;omega,fun h=>by omega⟩
 | @callT d r q k n V s c g R1 hc ha hd hq hg h1 he ih1=>
  intro b rk e c a;rw[hc]at a;injection a with a;subst a;obtain⟨z,rfl,_⟩:=qV ha;have j:=rQ (c:=c) (k:=k) (by omega) (by omega) (by omega) (by omega) (by omega);have f:((k+1:Nat):Int)∈nextOf c k:=(by rw[j];simp);have o:=pV b hc f;have v:=e.fall k c (k+1) hc (by omega) f o;have i:=(hp.row _ q hq).1;obtain⟨rk',w⟩:=i.cYj;have x:0<q.code.length:=(by have:=i.n1;omega);have m:=Aj x;have E:=((ih1 i rk' w _ m).2 (i.first _ m)).1;exact⟨by dsimp only;omega,fun h=>by omega⟩
 | @deep d r k n V s c hc ha hd=>
  intro b rk e c a;rw[hc]at a;injection a with a;subst a;obtain⟨z,rfl,_⟩:=qV ha;exact⟨by dsimp only;omega,fun h=>by omega⟩
theorem Ev.dQj{p:RowsD}{lost d:Nat}{r:RowD}{V:List Nat}{s:StD}{R:ResD}(hp:ProgP p)(h:Ev p lost d r 0 V s R)(a:CheckP p.env r):R.cnt<=4098*s.fuel+1:=by
 obtain⟨rk,c⟩:=a.cYj;have e:0<r.code.length:=(by have:=a.n1;omega);have b:=Aj e;have:=((h.dQi hp a rk c _ b).2 (a.first _ b)).1;omega
theorem kY{k:IntKind}{p q:Int}{r:Bq}(h:p=q):Ending.returned (.tuple #[.int k p,r]) = .returned (.tuple #[.int k q,r]):=by rw[h]
theorem pY(z:Int):IntKind.u64.wrap (wrap64 z)=z % 18446744073709551616:=by rw[Ax];unfold wrap64;omega
theorem qQ(z:Int):wrap32 z % 4294967296=z % 4294967296:=by unfold wrap32;omega
theorem yZ{M:Int}{a:Nat}(h:(a:Int)<M):((a:Int) / b) % M=(a:Int) / b:=by
 have h1:((a:Int) / b)=((a / b:Nat):Int):=(by simp);have h2:=Nat.div_le_self a b;rw[h1];exact Int.emod_eq_of_lt (Int.natCast_nonneg _) (by omega)
theorem yJ{M:Int}{a:Nat}(h:(a:Int)<M):((a:Int) % b) % M=(a:Int) % b:=by
 have h1:((a:Int) % b)=((a % b:Nat):Int):=(by simp);have h2:=Nat.mod_le a b;rw[h1];exact Int.emod_eq_of_lt (by omega) (by omega)
theorem bWj(a b:Nat)(x y:Int)(w:Bj):Calls cZ 92 #[.int .u64 a,.int .u64 b,.int .i64 x,.int .i64 y] w fun e w'=>e = .returned (.slice (some ⟨w.heap.size,0,none⟩) 10 10)/\w.alloc (.cells ((sV a b x y).map Value.bool).toArray 4)=w':=by
 go_in;go_wp2;go_ret;exact⟨rfl,rfl⟩
theorem bWk(a b:Nat)(x y:Int)(w:Bj):Calls cZ 93 #[.int .u32 a,.int .u32 b,.int .i32 x,.int .i32 y] w fun e w'=>e = .returned (.slice (some ⟨w.heap.size,0,none⟩) 10 10)/\w.alloc (.cells ((sV a b x y).map Value.bool).toArray 4)=w':=by
 go_in;go_wp2;go_ret;exact⟨rfl,rfl⟩
theorem bWl(a b:Nat)(x:Int)(w:Bj)(ha:a<18446744073709551616)(hb:b<18446744073709551616)(hx : -9223372036854775808<=x)(aa:x<=9223372036854775807)(by_:Nat)(ad:bits .and .i64 (wrap64 (b:Int)) 63=(by_:Int))(ae:by_<64):
  Calls cZ 97 #[.int .u64 a,.int .u64 b,.int .i64 x,.int .i64 64] w fun e w'=>e = .returned (.slice (some ⟨w.heap.size,0,none⟩) 15 15)/\(w.alloc (.cells ((oJ .u64 64 a b by_ x).map (Value.int .u64)).toArray 62)).drew=w':=by
 go_in;go_wp2_with fail;have hw:wrap64 (64 - (by_:Int))=((64 - by_:Nat):Int):=(by unfold wrap64;omega);go_region;go_wp2;go_ret;exact⟨rfl,rfl⟩
theorem bWm(a b:Nat)(x:Int)(w:Bj)(ha:a<4294967296)(hb:b<4294967296)(hx : -2147483648<=x)(aa:x<=2147483647)(by_:Nat)(ad:bits .and .i64 (b:Int) 31=(by_:Int))(ae:by_<32):
  Calls cZ 98 #[.int .u32 a,.int .u32 b,.int .i32 x,.int .i64 32] w fun e w'=>e = .returned (.slice (some ⟨w.heap.size,0,none⟩) 15 15)/\(w.alloc (.cells ((oJ .u32 32 a b by_ x).map (Value.int .u32)).toArray 93)).drew=w':=by
 go_in;go_wp2_with fail;have hw:wrap64 (32 - (by_:Int))=((32 - by_:Nat):Int):=(by unfold wrap64;omega);go_region;go_wp2;go_ret;exact⟨rfl,rfl⟩
theorem bWn(k:Int)(a b:Nat)(x y:Int)(w:Bj)(ha:a<18446744073709551616)(hb:b<18446744073709551616)(hx : -9223372036854775808<=x)(aj:x<=9223372036854775807)(hy : -9223372036854775808<=y)(ak:y<=9223372036854775807)(f:y=0->b=0):
  Calls cZ 95 #[.int .i64 k,.int .u64 a,.int .u64 b,.int .i64 x,.int .i64 y] w fun e w'=>e = .returned (.tuple #[.int .u64 (fQ 18446744073709551616 (-9223372036854775808) k a b x y).1,.int .i64 (fQ 18446744073709551616 (-9223372036854775808) k a b x y).2])/\w=w':=by
 by_cases c:b=0
 ·have m:((b:Int) == 0)=true:=(by simp[c]);have d:=cQ (show fQ 18446744073709551616 (-9223372036854775808) k a b x y=(0,33) by simp[fQ,c]);clear c f;go_in;go_wp2;go_ret2;rw[d.out];exact⟨rfl,rfl⟩
 ·have m:((b:Int) == 0)=false:=(by simp;omega);have al:(y == 0)=false:=(by simp;intro e;exact c (f e));have ai:¬y=0:=fun e=>c (f e);have an:0<b:=(by omega);by_cases g:k=0
  ·subst g;by_cases hy1:y = -1
   ·have n:(y == -1)=true:=(by simp[hy1]);by_cases h:x = -9223372036854775808
    ·have d:=cQ (show fQ 18446744073709551616 (-9223372036854775808) 0 a b x y=(0,34) by simp[fQ,c,hy1,h]);have x0:(x != 0)=true:=(by simp;omega);have x1:(x == wrap64 (-x))=true:=(by simp[wrap64,wrap32];omega);clear f c hy1 h;go_in;go_wp2;go_ret2;rw[d.out];exact⟨rfl,rfl⟩
    ·have d:=cQ (show fQ 18446744073709551616 (-9223372036854775808) 0 a b x y=((x.tdiv y) % 18446744073709551616,0) by simp[fQ,c,h]);by_cases j:x=0
     ·have x0:(x != 0)=false:=(by simp[j]);have x1:(x == wrap64 (-x))=true:=(by simp[j,wrap64,wrap32]);clear f c hy1 h j;go_in;go_wp2;go_ret2;rw[d.out];exact⟨kY (by first | exact qQ _ | exact pY _),rfl⟩
     ·have x1:(x == wrap64 (-x))=false:=(by simp[wrap64,wrap32];omega);clear f c hy1 h j;go_in;go_wp2;go_ret2;rw[d.out];exact⟨kY (by first | exact qQ _ | exact pY _),rfl⟩
   ·have n:(y == -1)=false:=(by simp[hy1]);have d:=cQ (show fQ 18446744073709551616 (-9223372036854775808) 0 a b x y=((x.tdiv y) % 18446744073709551616,0) by simp[fQ,c,hy1]);clear f c hy1;go_in;go_wp2;go_ret2;rw[d.out];exact⟨kY (by first | exact qQ _ | exact pY _),rfl⟩
  ·have k0:(k == 0)=false:=(by simp[g]);by_cases i:k=1
   ·subst i;have d:=cQ (show fQ 18446744073709551616 (-9223372036854775808) 1 a b x y=((a:Int) / b,0) by simp[fQ,c]);clear f c g;go_in;go_wp2;go_ret2;rw[d.out];exact⟨kY (by first | exact yZ (by omega) | (rw[Ax];exact yZ (by omega))),rfl⟩
   ·have k1:(k == 1)=false:=(by simp[i]);by_cases l:k=2
    ·subst l;have d:=cQ (show fQ 18446744073709551616 (-9223372036854775808) 2 a b x y=((x.tmod y) % 18446744073709551616,0) by simp[fQ,c]);clear f c g i;go_in;go_wp2;go_ret2;rw[d.out];exact⟨kY (by first | rfl | rw[Ax]),rfl⟩
    ·have k2:(k == 2)=false:=(by simp[l]);have d:=cQ (show fQ 18446744073709551616 (-9223372036854775808) k a b x y=((a:Int) % b,0) by simp[fQ,c,g,i,l]);clear f c g i l;go_in;go_wp2;go_ret2;rw[d.out];exact⟨kY (by first | rfl | exact yJ (by omega) | (rw[Ax];exact yJ (by omega))),rfl⟩
theorem bWo(k:Int)(a b:Nat)(x y:Int)(w:Bj)(ha:a<4294967296)(hb:b<4294967296)(hx : -2147483648<=x)(aj:x<=2147483647)(hy : -2147483648<=y)(ak:y<=2147483647)(f:y=0->b=0):
  Calls cZ 96 #[.int .i64 k,.int .u32 a,.int .u32 b,.int .i32 x,.int .i32 y] w fun e w'=>e = .returned (.tuple #[.int .u32 (fQ 4294967296 (-2147483648) k a b x y).1,.int .i64 (fQ 4294967296 (-2147483648) k a b x y).2])/\w=w':=by
 by_cases c:b=0
 ·have m:((b:Int) == 0)=true:=(by simp[c]);have d:=cQ (show fQ 4294967296 (-2147483648) k a b x y=(0,33) by simp[fQ,c]);clear c f;go_in;go_wp2;go_ret2;rw[d.out];exact⟨rfl,rfl⟩
 ·have m:((b:Int) == 0)=false:=(by simp;omega);have al:(y == 0)=false:=(by simp;intro e;exact c (f e));have ai:¬y=0:=fun e=>c (f e);have an:0<b:=(by omega);by_cases g:k=0
  ·subst g;by_cases hy1:y = -1
   ·have n:(y == -1)=true:=(by simp[hy1]);by_cases h:x = -2147483648
    ·have d:=cQ (show fQ 4294967296 (-2147483648) 0 a b x y=(0,34) by simp[fQ,c,hy1,h]);have x0:(x != 0)=true:=(by simp;omega);have x1:(x == wrap32 (-x))=true:=(by simp[wrap64,wrap32];omega);clear f c hy1 h;go_in;go_wp2;go_ret2;rw[d.out];exact⟨rfl,rfl⟩
    ·have d:=cQ (show fQ 4294967296 (-2147483648) 0 a b x y=((x.tdiv y) % 4294967296,0) by simp[fQ,c,h]);by_cases j:x=0
     ·have x0:(x != 0)=false:=(by simp[j]);have x1:(x == wrap32 (-x))=true:=(by simp[j,wrap64,wrap32]);clear f c hy1 h j;go_in;go_wp2;go_ret2;rw[d.out];exact⟨kY (by first | exact qQ _ | exact pY _),rfl⟩
     ·have x1:(x == wrap32 (-x))=false:=(by simp[wrap64,wrap32];omega);clear f c hy1 h j;go_in;go_wp2;go_ret2;rw[d.out];exact⟨kY (by first | exact qQ _ | exact pY _),rfl⟩
   ·have n:(y == -1)=false:=(by simp[hy1]);have d:=cQ (show fQ 4294967296 (-2147483648) 0 a b x y=((x.tdiv y) % 4294967296,0) by simp[fQ,c,hy1]);clear f c hy1;go_in;go_wp2;go_ret2;rw[d.out];exact⟨kY (by first | exact qQ _ | exact pY _),rfl⟩
  ·have k0:(k == 0)=false:=(by simp[g]);by_cases i:k=1
   ·subst i;have d:=cQ (show fQ 4294967296 (-2147483648) 1 a b x y=((a:Int) / b,0) by simp[fQ,c]);clear f c g;go_in;go_wp2;go_ret2;rw[d.out];exact⟨kY (by first | exact yZ (by omega) | (rw[Ax];exact yZ (by omega))),rfl⟩
   ·have k1:(k == 1)=false:=(by simp[i]);by_cases l:k=2
    ·subst l;have d:=cQ (show fQ 4294967296 (-2147483648) 2 a b x y=((x.tmod y) % 4294967296,0) by simp[fQ,c]);clear f c g i;go_in;go_wp2;go_ret2;rw[d.out];exact⟨kY (by first | rfl | rw[Ax]),rfl⟩
    ·have k2:(k == 2)=false:=(by simp[l]);have d:=cQ (show fQ 4294967296 (-2147483648) k a b x y=((a:Int) % b,0) by simp[fQ,c,g,i,l]);clear f c g i l;go_in;go_wp2;go_ret2;rw[d.out];exact⟨kY (by first | rfl | exact yJ (by omega) | (rw[Ax];exact yJ (by omega))),rfl⟩
end Go.Proofs.YtabibkpfgmolkaaDoor

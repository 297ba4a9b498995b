/- Lemmas for the claim, part 5. Conditions: none. -/
import Derived.Test.YtabibkpfgmolkaaGreatDoorPm04
import Derived.Deep.RegionHeld3
import Derived.Shelf.Spec.TrailingZeros
set_option maxRecDepth 100000
set_option maxHeartbeats 16000000
set_option linter.unusedVariables false
set_option linter.unusedSimpArgs false
open Go.Lib renaming hid→fQ
open Go.Proofs.Tryz renaming prog→fZ
open Go.Proofs.Tryz
open Go.RowKit
open List renaming getElem?_eq_getElem→Aj,getD_cons_zero→Ax,getD_cons_succ→Az,getD_eq_getElem?_getD→Ak,mem_of_getElem?→AJ,take_of_length_le→AX,getElem?_toArray→AK,take_succ_eq_append_getElem→AW,getElem?_map→AY,mem_cons_of_mem→Ag,length_take→Bw,not_mem_nil→By,countP_cons→BJ,replicate→BV,mem_cons→BY,range→Bd
open Nat renaming le_refl→Aq,and_two_pow_sub_one_eq_mod→Av,div_div_eq_div_mul→AZ,and_le_right→AV,div_le_self→Ab,lt_of_lt_of_le→Ac,strongRecOn→Ae,add_assoc→Ai,reduceMul→Bj,lt_or_eq_of_le→Bq,le_trans→Bz,pow_succ→Bv,zero_le→BX,add_le_add→BW,reducePow→Ba,add_zero→Bb,mul_comm→Bc,mod_le→Be,mod_lt→Bf
open Go.IntKind renaming wrap_u64→Aw,wrap_u32→AQ,wrap_i64→BQ
open Go.RowKit.Below renaming refl→Ay
open Go.World renaming size_alloc→Aa,cell?_of_block→Af
open Int renaming toNat_natCast→Ad,emod_eq_of_lt→Bk,ediv_nonneg→BZ,natCast_add→BK
open Go.Value renaming int→Ah,bool→Bx
open Go renaming World→Bg,Value→Bh,Calls→Bi
namespace Go.Proofs.YtabibkpfgmolkaaGreatDoor
variable {k x n j lost d c b:Nat}{l a V:List Nat}{w w':Bg}{out:Int}
def rK(a b:Nat)(x y:Int):List Bool:=[(a:Int) == b,(a:Int) != b,decide (x<y),decide (a<b),decide (y<x),decide (b<a),decide (x<=y),decide (a<=b),decide (y<=x),decide (b<=a)]
def nK(k:IntKind)(W a b by_:Nat)(x:Int):List Int:=[k.wrap (a+b),k.wrap (a - b),k.wrap (a*b),0,0,0,0,bits .and k a b,bits .or k a b,bits .xor k a b,k.wrap (a*2 ^ by_),k.wrap (x / 2 ^ by_),(a:Int) / 2 ^ by_,
 bits .or k (k.wrap (a*2 ^ by_)) ((a:Int) / 2 ^ (W - by_)),bits .or k ((a:Int) / 2 ^ by_) (k.wrap (a*2 ^ (W - by_)))]
def hJ(M least k:Int)(a b:Nat)(x y:Int):Int×Int:=
 if b=0 then(0,33)else if k=0 then(if y = -1/\x=least then(0,34)else((x.tdiv y) % M,0))else if k=1 then((a:Int) / b,0)else if k=2 then((x.tmod y) % M,0)else((a:Int) % b,0)
def gK(c d k:Int)(a b:Nat):Int×Int:=
 if d=126 then
  if c=1 then(b01 ((rK a b (wrap64 a) (wrap64 b)).getD k.toNat false),0)
  else if 3<=k/\k<=6 then hJ 18446744073709551616 (-9223372036854775808) (k - 3) a b (wrap64 a) (wrap64 b)
  else((nK .u64 64 a b (b % 64) (wrap64 a)).getD k.toNat 0,0)
 else
  if c=1 then(b01 ((rK a b (wrap32 a) (wrap32 b)).getD k.toNat false),0)
  else if 3<=k/\k<=6 then hJ 4294967296 (-2147483648) (k - 3) a b (wrap32 a) (wrap32 b)
  else((nK .u32 32 a b (b % 32) (wrap32 a)).getD k.toNat 0,0)
def zY(W x:Nat):List Int:=[(W:Int) - Lib.bitLen x,Lib.ctz W x,Lib.popAux W x]
def aKm(k:Int)(x:Nat):Int:=if k=0 then IntKind.u64.wrap (wrap64 (wrap32 x))else x
def aWz(k:Int)(x:Nat):Int:=if k=0 then wrap64 (IntKind.i8.wrap x)else if k=1 then wrap64 (IntKind.i16.wrap x)else wrap64 (wrap32 x)
def sX(k out:Int)(x:Nat):Int:=if out=127 then aWz k x % 4294967296 else IntKind.u64.wrap (aWz k x)
def u64V(l:List Nat):List Bh:=l.map fun c:Nat=>.int .u64 (c:Int)
def All64(l:List Nat):Prop:=∀ x∈l,x<18446744073709551616
def nV(c d k:Int)(out:Int)(l:List Nat):Int×Int:=
 if c=0 then(b01 ((l.getD 0 0:Int) == 0),0)
 else if c=2 then((zY (if d=126 then 64 else 32) (l.getD 0 0)).getD k.toNat 0,0)
 else if c=4 then((l.getD 0 0:Int) % 4294967296,0)
 else if c=5 then(aKm k (l.getD 0 0),0)
 else if c=6 then(sX k out (l.getD 0 0),0)
 else gK c d k (l.getD 0 0) (l.getD 1 0)
def oQ(op:Int)(l:List Nat):Int×Int:=match fW op with
 | none=>(0,1)
 | some (a,_,c,d)=>if(fY op).length=l.length/\l.all (iX d)=true then nV c d (op - a) (lY op) l else(0,1)
structure StD where
 mem:List Nat
 most:Int
 globals:List Nat
 fuel:Nat
 input:List Nat
 log:List Nat
def oJ(t:Int)(n:Nat):Nat:=if t=127 then n % 4294967296 else n
def lowL:List Int->List Nat->List Nat
 | t :: ts,n :: l=>oJ t n :: lowL ts l
 | _,_=>[]
theorem rW:∀ (ts:List Int) (l:List Nat),ts.length=l.length->(lowL ts l).length=l.length
 | [],[],_=>rfl
 | t :: ts,n :: l,h=>by simp[lowL,rW ts l (by simpa using h)]
 | [],n :: l,h=>by simp at h
 | t :: ts,[],h=>by simp at h
def hostV(n:Nat)(outs:List Int)(a:List Nat)(s:StD):List Nat×Int×StD:=
 if outs.length<=s.input.length then(lowL outs (s.input.take outs.length),0,{ s with log:=s.log++n :: a,input:=s.input.drop outs.length })
 else([],39,{ s with log:=s.log++n :: a,input:=[] })
def jZ(c:CodeD)(a:List Nat)(s:StD):Nat×Int×StD:=
 if c.op=256 then(c.n,0,s)
 else if c.op=272 then(a.getD 0 0,0,s)
 else if c.op=258 then if s.fuel=0 then(0,36,s)else(0,0,{ s with fuel:=s.fuel - 1 })
 else if c.op=27 then(if a.getD 2 0=0 then a.getD 1 0 else a.getD 0 0,0,s)
 else if c.op=35 then(s.globals.getD c.n 0,0,s)
 else if c.op=36 then(0,0,{ s with globals:=s.globals.set c.n (a.getD 0 0) })
 else if c.op=257 then(0,if pK s.mem.length (a.getD 0 0) c.n then 0 else 35,s)
 else match acc c.op with
  | some (_,_,true,_)=>if kZ s.mem.length c.op (a.getD 0 0) c.n (a.getD 1 0)=0 then(0,0,{ s with mem:=kV s.mem c.op (a.getD 0 0) c.n (a.getD 1 0) })else(0,38,s)
  | some (_,_,false,_)=>if(mW s.mem c.op (a.getD 0 0) c.n).2=0 then((mW s.mem c.op (a.getD 0 0) c.n).1.toNat,0,s)else(0,38,s)
  | none=>
   if c.op=63 then(s.mem.length / 256,0,s)
   else if c.op=64 then(qK s.mem.length s.most (a.getD 0 0),0,{ s with mem:=kY s.mem s.most (a.getD 0 0) })
   else((oQ c.op a).1.toNat,(oQ c.op a).2,s)
inductive ActD
 | go (k:Nat)
 | ret (l:List Nat)
 | vals (l:List Nat) (s:StD)
 | trap (x:Int) (s:StD)
 | call (n:Nat)
def actV(e:EnvD)(c:CodeD)(k:Nat)(a:List Nat)(s:StD):ActD:=
 if c.op=276 then .ret a
 else if c.op=277 then .trap 32 s
 else if c.op=273 then .go (c.to.getD 0 0).toNat
 else if c.op=274 then .go (if a.getD 0 0=0 then k+1 else(c.to.getD 0 0).toNat)
 else if c.op=275 then .go (c.to.getD (min (a.getD 0 0) (c.to.length - 1)) 0).toNat
 else if c.op=16 then
  if(c.n:Int)<e.imports then
   let h:=hostV c.n ((e.sigs.getD c.n ⟨[],[]⟩).out) a s
   if h.2.1=0 then .vals h.1 h.2.2 else .trap h.2.1 h.2.2
  else .call c.n
 else
  let h:=jZ c a s
  if h.2.1=0 then .vals [h.1] h.2.2 else .trap h.2.1 h.2.2
def inK(e:EnvD)(s:SigD)(c:CodeD):List Int:=((iJ e s c.op c.n).getD ([],[])).1
def getV(V:List Nat)(l:List Int):List Nat:=l.map fun p=>V.getD p.toNat 0
def putV:List Int->List Nat->List Nat->List Nat
 | o :: os,n :: a,V=>putV os a (V.set o.toNat n)
 | _,_,V=>V
def zeroV(lost:Nat)(V:List Nat):List Nat:=BV (min lost V.length) 0++V.drop lost
def initV(r:RowD)(a:List Nat):List Nat:=putV r.params a (BV r.places.toNat 0)
def argV(e:EnvD)(r:RowD)(c:CodeD)(V:List Nat):List Nat:=lowL (inK e r.sig c) (getV V c.args)
structure ResD where
 out:List Nat
 s:StD
 e:Int
 cnt:Nat
 wds:Nat
inductive Ev (p:RowsD) (lost:Nat):Nat->RowD->Nat->List Nat->StD->ResD->Prop
 | ret {d:Nat} {r:RowD} {k:Nat} {V:List Nat} {s:StD} {c:CodeD} {l:List Nat} (hc:r.code[k]? = some c) (ha:actV p.env c k (argV p.env r c V) s = .ret l):Ev p lost d r k V s ⟨l,s,0,1,0⟩
 | trap {d:Nat} {r:RowD} {k:Nat} {V:List Nat} {s s':StD} {c:CodeD} {x:Int} (hc:r.code[k]? = some c) (ha:actV p.env c k (argV p.env r c V) s = .trap x s'):Ev p lost d r k V s ⟨[],s',x,1,0⟩
 | go {d:Nat} {r:RowD} {k k':Nat} {V:List Nat} {s:StD} {c:CodeD} {R:ResD} (hc:r.code[k]? = some c) (ha:actV p.env c k (argV p.env r c V) s = .go k') (hn:Ev p lost d r k' V s R):Ev p lost d r k V s { R with cnt:=1+R.cnt }
 | vals {d:Nat} {r:RowD} {k:Nat} {V:List Nat} {s s':StD} {c:CodeD} {l:List Nat} {R:ResD} (hc:r.code[k]? = some c) (ha:actV p.env c k (argV p.env r c V) s = .vals l s') (hn:Ev p lost d r (k+1) (putV c.outs l V) s' R):Ev p lost d r k V s { R with cnt:=1+R.cnt }
 | call {d:Nat} {r q:RowD} {k n:Nat} {V:List Nat} {s:StD} {c:CodeD} {g:SigD} {R1 R2:ResD} (hc:r.code[k]? = some c) (ha:actV p.env c k (argV p.env r c V) s = .call n) (hd:d<16) (hq:p.fns[n - p.env.imports.toNat]? = some q) (hg:p.env.sigs[n]? = some g)
   (h1:Ev p lost (d+1) q 0 (initV q (lowL g.inn (argV p.env r c V))) s R1) (he:R1.e=0) (h2:Ev p lost d r (k+1) (putV c.outs R1.out (zeroV lost V)) R1.s R2) :
   Ev p lost d r k V s ⟨R2.out,R2.s,R2.e,1+R1.cnt+R2.cnt,max (q.places.toNat+R1.wds) R2.wds⟩
 | callT {d:Nat} {r q:RowD} {k n:Nat} {V:List Nat} {s:StD} {c:CodeD} {g:SigD} {R1:ResD} (hc:r.code[k]? = some c) (ha:actV p.env c k (argV p.env r c V) s = .call n) (hd:d<16) (hq:p.fns[n - p.env.imports.toNat]? = some q) (hg:p.env.sigs[n]? = some g)
   (h1:Ev p lost (d+1) q 0 (initV q (lowL g.inn (argV p.env r c V))) s R1) (he:R1.e≠0):Ev p lost d r k V s ⟨[],R1.s,R1.e,1+R1.cnt,q.places.toNat+R1.wds⟩
 | deep {d:Nat} {r:RowD} {k n:Nat} {V:List Nat} {s:StD} {c:CodeD} (hc:r.code[k]? = some c) (ha:actV p.env c k (argV p.env r c V) s = .call n) (hd:16<=d):Ev p lost d r k V s ⟨[],s,37,1,0⟩
theorem Ev.one{p:RowsD}{r:RowD}{s:StD}{R R':ResD}(h:Ev p lost d r k V s R)(g:Ev p lost d r k V s R'):R=R':=by
 induction h generalizing R' with
 | ret hc ha=>cases g <;> simp_all
 | trap hc ha=>cases g <;> simp_all
 | go hc ha hn m=>
  cases g with
  | go a b n=>
   rw[hc]at a;injection a with a;subst a;rw[ha]at b;injection b with b;subst b;rw[m n]
  | _=>simp_all
 | vals hc ha hn m=>
  cases g with
  | vals a b n=>
   rw[hc]at a;injection a with a;subst a;rw[ha]at b;injection b with b q;subst b;subst q;rw[m n]
  | _=>simp_all
 | call hc ha hd hq hg h1 he h2 ih1 ih2=>
  cases g with
  | call a b f c e i l o=>
   rw[hc]at a;injection a with a;subst a;rw[ha]at b;injection b with b;subst b;rw[hq]at c;injection c with c;subst c;rw[hg]at e;injection e with e;subst e;have j:=ih1 i;subst j;have e2:=ih2 o;subst e2;rfl
  | callT a b f c e i l=>
   rw[hc]at a;injection a with a;subst a;rw[ha]at b;injection b with b;subst b;rw[hq]at c;injection c with c;subst c;rw[hg]at e;injection e with e;subst e;have j:=ih1 i;subst j;exact absurd he l
  | deep a b f=>omega
  | _=>simp_all
 | callT hc ha hd hq hg h1 he ih1=>
  cases g with
  | call a b f c e i l o=>
   rw[hc]at a;injection a with a;subst a;rw[ha]at b;injection b with b;subst b;rw[hq]at c;injection c with c;subst c;rw[hg]at e;injection e with e;subst e;have j:=ih1 i;subst j;exact absurd l he
  | callT a b f c e i l=>
   rw[hc]at a;injection a with a;subst a;rw[ha]at b;injection b with b;subst b;rw[hq]at c;injection c with c;subst c;rw[hg]at e;injection e with e;subst e;have j:=ih1 i;subst j;rfl
  | deep a b f=>omega
  | _=>simp_all
 | deep hc ha hd=>
  cases g with
  | call a b f=>omega
  | callT a b f=>omega
  | deep a b f=>rfl
  | _=>simp_all
def UR(w:Bg)(v:Bh)(l:List Nat):Prop:=∃ A c,v = .slice A l.length c/\Src w A l.length (u64V l)/\l.length<=c/\(A=none->c=0)/\(l.length<=17592186043904/\c<=9223372036854775807)/\All64 l
def BR(w:Bg)(v:Bh)(m:List Nat):Prop:=∃ A c,v = .slice A m.length c/\Src w A m.length (bys m)/\m.length<=c/\(A=none->c=0)/\(m.length<=140737488355328/\c<=9223372036854775807)/\AllB m
theorem aQd(l m:List Nat):u64V (l++m)=u64V l++u64V m:=by simp[u64V]
theorem aZe(l:List Nat):∀ u∈u64V l,u.oneCell'=true:=by
 intro u a;simp only[u64V,List.mem_map]at a;obtain⟨x,_,rfl⟩:=a;rfl
theorem UR.shape{v:Bh}(h:UR w v l):∃ A c,v = .slice A l.length c:=by
 obtain⟨A,c,e,_⟩:=h;exact⟨A,c,e⟩
theorem UR.below{w w':Bg}{B:Nat}{v:Bh}{l:List Nat}(h:UR w v l)(a:Below B w w')(b:w.heap.size<=B):UR w' v l:=by
 obtain⟨A,c,e,hs,r⟩:=h;exact⟨A,c,e,hs.below a b,r⟩
theorem BR.below{w w':Bg}{B:Nat}{v:Bh}{l:List Nat}(h:BR w v l)(a:Below B w w')(b:w.heap.size<=B):BR w' v l:=by
 obtain⟨A,c,e,hs,r⟩:=h;exact⟨A,c,e,hs.below a b,r⟩
theorem UR.len{A:Option Addr}(h:UR w (.slice A n c) l):n=l.length/\Src w A n (u64V l)/\n<=c/\(A=none->c=0)/\(n<=17592186043904/\c<=9223372036854775807)/\All64 l:=by
 obtain⟨A',c',e,r⟩:=h;injection e with a e2 b;subst a;subst e2;subst b;exact⟨rfl,r⟩
theorem UR.cell{w:Bg}{A:Option Addr}{n c:Nat}{l:List Nat}(h:UR w (.slice A n c) l){k x:Nat}(a:l[k]? = some x):∃ b o,A=some ⟨b,o,none⟩/\b<w.heap.size/\w.cell? ⟨b,o+k,none⟩=some (.int .u64 (x:Int))/\x<18446744073709551616:=by
 obtain⟨hn,hs,_,_,_,d⟩:=h.len;have hk:=(List.getElem?_eq_some_iff.1 a).1;obtain⟨b,o,e,f,hc⟩:=hs.2 (by omega);exact⟨b,o,e,f,hc k _ (by simp[u64V,a]),d x (AJ a)⟩
theorem bYi{A:Option Addr}{d:List Bh}(h:Src w A n d)(hs:w.heap.size<=w'.heap.size)(g:∀ k,(Value.slice A n c).ownBlock=some k->k<w.heap.size->w'.heap[k]? = w.heap[k]?):Src w' A n d:=
 ⟨h.1,fun hn=>by
  obtain⟨b,o,e,f,hc⟩:=h.2 hn;refine⟨b,o,e,Ac f hs,fun j u i=>?_⟩;have:=g b (by rw[e];rfl) f
  exact(Af (w:=w) (a:=⟨b,o+j,none⟩) this).trans (hc j u i)⟩
theorem UR.heap{w w':Bg}{v:Bh}{l:List Nat}(h:UR w v l)(hs:w.heap.size<=w'.heap.size)(a:∀ k,v.ownBlock=some k->k<w.heap.size->w'.heap[k]? = w.heap[k]?):UR w' v l:=by
 obtain⟨A,c,rfl,h1,r⟩:=h;exact⟨A,c,rfl,bYi h1 hs a,r⟩
theorem BR.heap{w w':Bg}{v:Bh}{l:List Nat}(h:BR w v l)(hs:w.heap.size<=w'.heap.size)(a:∀ k,v.ownBlock=some k->k<w.heap.size->w'.heap[k]? = w.heap[k]?):BR w' v l:=by
 obtain⟨A,c,rfl,h1,r⟩:=h;exact⟨A,c,rfl,bYi h1 hs a,r⟩
theorem xZ{base a:Nat}{e:TypeId}{v:Bh}{b:List Bh}(k:w.ownsRow base e a v n b)(c:∀ g,v.ownBlock=some g->g<w.heap.size->w'.heap[g]? = w.heap[g]?):w'.ownsRow base e a v n b:=by
 refine⟨k.1,?_⟩;rcases k.2 with h2 | ⟨g,cap,cur,h1,h2,hg,r⟩
 ·exact .inl h2
 ·refine .inr ⟨g,cap,cur,h1,h2,?_,r⟩;rw[c g (by rw[h1];rfl) (Array.getElem?_eq_some_iff.1 hg).1];exact hg
theorem aZf(l:List Nat)(k n:Nat):(u64V l).set k (.int .u64 (n:Int))=u64V (l.set k n):=by
 unfold u64V;rw[List.map_set]
theorem dXk(h:All64 l)(k n:Nat)(hn:n<18446744073709551616):All64 (l.set k n):=fun x a=>by
 rcases List.mem_or_eq_of_mem_set a with h1 | h1
 ·exact h x h1
 ·omega
theorem oK{i g:Nat}{u:Bh}(h:b≠g):(w.setCell ⟨g,j,none⟩ u).cell? ⟨b,i,none⟩=w.cell? ⟨b,i,none⟩:=Af (a:=⟨b,i,none⟩) (Below.heap_setCell _ _ _ _ h)
theorem dWf{b w2:Bg}{r a:Option Nat}(h:w.grownBy b r)(k:b.grownBy w2 a)(h1:a=r\/a=some w.heap.size):w.grownBy w2 r:=
 ⟨k.os.trans h.os,k.tape.trans h.tape,k.output.trans h.output,Bz h.size k.size,fun i hi hn=>by
  rw[k.block i (Ac hi h.size) (fun e=>?_),h.block i hi hn];rcases h1 with h1 | h1
  ·exact hn (e.trans h1)
  ·rw[h1]at e;injection e with e
   omega⟩
theorem sQ:(fZ.info? 52).map (fun i=>(i.zero,i.size,i.bytes))=some (some (.int .u64 0),1,8):=by kernel_rfl
theorem bZf{a:Nat}(h:a<18446744073709551616):bits .and .u64 (a:Int) 4294967295=((a % 4294967296:Nat):Int):=by
 rw[show(4294967295:Int)=((2 ^ 32 - 1:Nat):Int)from rfl,bits_and_u64_nat a (2 ^ 32 - 1) h (by decide)];exact congrArg Int.ofNat (Av a 32)
theorem aKh{ks:List Int}{t:Int}(c:ks[k]? = some t)(d:l[k]? = some x):lowL (ks.take (k+1)) (l.take (k+1))=lowL (ks.take k) (l.take k) ++ [oJ t x]:=by
 induction k generalizing ks l with
 | zero=>
  match ks,l,c,d with
  | a :: ks,b :: l,c,d=>
   simp at c d;subst c;subst d;rfl
 | succ k e=>
  match ks,l,c,d with
  | a :: ks,b :: l,c,d=>
   simp only[List.getElem?_cons_succ]at c d;simp only[List.take_succ_cons,lowL,List.cons_append];rw[e c d]
theorem eQn{t:Int}(h:x<18446744073709551616):oJ t x<18446744073709551616:=by
 unfold oJ
 split <;> omega
def bZg(ks:List Int)(l:List Nat)(w:Bg)(en:Ending)(w':Bg):Prop:=∃ v,en = .returned v/\w'.ownsRow w.heap.size 52 1 v l.length (u64V (lowL ks l))/\Below w.heap.size w w'
theorem cXv(vk v:Bh)(ks:List Int)(l:List Nat)(w:Bg)(m:IR w vk ks)(r:UR w v l)(he:ks.length=l.length)(M:l.length<=100000):Bi fZ 54 #[vk,v] w (bZg ks l w):=by
 obtain⟨A1,c1,rfl⟩:=m.shape;obtain⟨A2,c2,rfl⟩:=r.shape;have s:=fQ m;have H:=fQ r;obtain⟨n,hn⟩:=fX l.length;unfold bZg;rw[he]at s ⊢;rw[hn]at s H M ⊢;have I:=fQ hn;have J:=fQ (show ks.length=n by omega);clear m r he hn;go_in;go_wp2_with fail;go_loopw [5,6] (fun v i wr=>∃ k:Nat,k<=n/\i = .int .i64 k/\Hid (wr.ownsRow w.heap.size 52 1 v k (u64V (lowL (ks.take k) (l.take k))))/\Hid (Below w.heap.size w wr)) (fun _ i _=>n - (intOf i).toNat)
 case atStart=>exact⟨0,by omega,rfl,fQ (World.ownsRow_nil _ _ _ _),fQ (Ay _ _)⟩
 case round=>
  obtain⟨k,m,rfl,iO,a⟩:=hrel;obtain⟨z,A,hv,_⟩:=fJ iO.out;subst hv;by_cases K:k<n
  ·have N:decide ((k:Int)<n)=true:=(by simp;omega);have t2:(k:Int)<n:=(by omega);obtain⟨t,p⟩:∃ t,ks[k]? = some t:=⟨_,Aj (by rw[J.out];exact K)⟩;obtain⟨x,q⟩:∃ x,l[k]? = some x:=⟨_,Aj (by rw[I.out];exact K)⟩;obtain⟨b,o,rfl,hb,hc⟩:=(s.out.below a.out (Aq _)).cell p;obtain⟨b2,o2,rfl,ar,au,O⟩:=(H.out.below a.out (Aq _)).cell q;have L:=fQ (aKh p q);have aw:=a.out.size;have fin:∀ y:Nat,oJ t x=y->∃ c:True,Hid ((wr.alloc (.cells #[.int .u64 (y:Int)] 52)).ownsRow w.heap.size 52 1 (.slice z k A) k (u64V (lowL (ks.take k) (l.take k))))/\Hid (Below w.heap.size w (wr.alloc (.cells #[.int .u64 (y:Int)] 52))):=fun y hy=>⟨trivial,fQ (pJ iO.out _),fQ (a.out.alloc a.out.size _)⟩;by_cases d:t=127
   ·have P:(t == 127)=true:=(by simp[d]);have ha:=bZf O;have e:=fQ (show oJ t x=x % 4294967296 by unfold oJ;rw[if_pos d]);obtain⟨_,f,B⟩:=fin _ e.out;clear p q d fin;go_wp2_with (at_builtin;refine oY _ rfl (.tmp 25) (.tmp 27) 30 rfl w.heap.size 52 (.int .u64 0) 1 8 underlying30 sQ rfl (by omega) (.slice z k A) k (u64V (lowL (ks.take k) (l.take k))) rfl f.out (some ⟨wr.heap.size,0,none⟩) 1 1 [.int .u64 ((x % 4294967296:Nat):Int)] rfl (Blk.fQb (cs:=#[.int .u64 ((x % 4294967296:Nat):Int)]) (Blk.newAt _ _ _ rfl) rfl) (fun u C=>by rw[List.mem_singleton.1 C];rfl) (by unfold maxLen;omega) (by omega) (by simp;omega) ?_);rintro v' w' c g D _
    have h:w'.ownsRow w.heap.size 52 1 v' (k+1) (u64V (lowL (ks.take (k+1)) (l.take (k+1)))):=by
     rw[L.out,e.out,aQd];exact c
    have E:=fQ h;have F:=fQ (wV B.out g (by simp;omega) (fun j G=>(f.out.lt j G).1));clear c h g D;go_wp2;exact⟨⟨k+1,by omega,by simp,E,F⟩,by simp[intOf];omega⟩
   ·have P:(t == 127)=false:=(by simp[d]);have e:=fQ (show oJ t x=x by unfold oJ;rw[if_neg d]);obtain⟨_,f,B⟩:=fin _ e.out;clear p q d fin;go_wp2_with (at_builtin;refine oY _ rfl (.tmp 25) (.tmp 27) 30 rfl w.heap.size 52 (.int .u64 0) 1 8 underlying30 sQ rfl (by omega) (.slice z k A) k (u64V (lowL (ks.take k) (l.take k))) rfl f.out (some ⟨wr.heap.size,0,none⟩) 1 1 [.int .u64 (x:Int)] rfl (Blk.fQb (cs:=#[.int .u64 (x:Int)]) (Blk.newAt _ _ _ rfl) rfl) (fun u C=>by rw[List.mem_singleton.1 C];rfl) (by unfold maxLen;omega) (by omega) (by simp;omega) ?_);rintro v' w' c g D _
    have h:w'.ownsRow w.heap.size 52 1 v' (k+1) (u64V (lowL (ks.take (k+1)) (l.take (k+1)))):=by
     rw[L.out,e.out,aQd];exact c
    have E:=fQ h;have F:=fQ (wV B.out g (by simp;omega) (fun j G=>(f.out.lt j G).1));clear c h g D;go_wp2;exact⟨⟨k+1,by omega,by simp,E,F⟩,by simp[intOf];omega⟩
  ·have N:decide ((k:Int)<n)=false:=(by simp;omega);have Q:n=k:=(by omega);subst Q;have R:=fQ (show l.take n=l from AX (by rw[I.out];exact Aq _));have S:=fQ (show ks.take n=ks from AX (by rw[J.out];exact Aq _));go_wp2;go_ret;exact⟨_,rfl,by have:=iO.out;rw[R.out,S.out]at this;exact this,a.out⟩
def eJl(b:Bool)(w:Bg)(en:Ending)(w':Bg):Prop:=en = .returned (.bool b)/\∃ n,w'=w.drewN n
theorem cJv{m:List Nat}{y:Nat}(h:l.take k=m.take k)(a:l[k]? = some x)(b:m[k]? = some y):x=y->l.take (k+1)=m.take (k+1):=by
 intro e;subst e;obtain⟨h1,h2⟩:=List.getElem?_eq_some_iff.1 a;obtain⟨c,d⟩:=List.getElem?_eq_some_iff.1 b;rw[AW h1,AW c,h,h2,d]
theorem dWg{m:List Nat}{y:Nat}(b:l[k]? = some x)(a:m[k]? = some y)(h:x≠y):l≠m:=by
 intro e;subst e;rw[b]at a;injection a with a;exact h a
theorem aQe(v u:Bh)(l m:List Nat)(w:Bg)(h1:UR w v l)(h2:UR w u m):Bi fZ 16 #[v,u] w (eJl (decide (l=m)) w):=by
 obtain⟨A1,c1,rfl⟩:=h1.shape;obtain⟨A2,c2,rfl⟩:=h2.shape;have H1:=fQ h1;have j:=fQ h2;have B:=h1.len.2.2.2.2.1.1;have C:=h2.len.2.2.2.2.1.1;clear h1 h2;by_cases hlen:l.length=m.length
 ·obtain⟨n,hn⟩:=fX l.length;have d:m.length=n:=(by omega);have p:=fQ hn;have q:=fQ d;rw[hn]at H1 B ⊢;rw[d]at j C ⊢;have D:((n:Int) != (n:Int))=false:=(by simp);clear hn d hlen;go_in;go_wp2;go_loopw [5] (fun i wr=>∃ k:Nat,k<=n/\i = .int .i64 k/\Hid (l.take k=m.take k/\∃ z,wr=w.drewN z)) (fun i _=>n - (intOf i).toNat)
  case atStart=>exact⟨0,by omega,rfl,fQ ⟨by simp,0,rfl⟩⟩
  case round=>
   obtain⟨k,hk,rfl,IM⟩:=hrel;obtain⟨c,z,rfl⟩:=IM.out;clear IM;by_cases r:k<n
   ·have E:decide ((k:Int)<n)=true:=(by simp;omega);have t2:(k:Int)<n:=(by omega);obtain⟨x,f⟩:∃ x,l[k]? = some x:=⟨_,Aj (by rw[p.out];exact r)⟩;obtain⟨y,g⟩:∃ y,m[k]? = some y:=⟨_,Aj (by rw[q.out];exact r)⟩;obtain⟨b,o,rfl,hb,hc,_⟩:=H1.out.cell f;obtain⟨b2,o2,rfl,al,an,_⟩:=j.out.cell g;have s:=fQ f;have t:=fQ g;have F:=fQ c;clear f g c;by_cases a:x=y
    ·have q1:((x:Int) != (y:Int))=false:=(by simp[a]);have h:=fQ a;clear a;go_wp2_with fail;go_quiet (fail);go_wp2;exact⟨⟨k+1,by omega,by simp,fQ ⟨cJv F.out s.out t.out h.out,_,rfl⟩⟩,by simp[intOf];omega⟩
    ·have q1:((x:Int) != (y:Int))=true:=(by simp;omega);have h:=fQ a;clear a;go_wp2_with fail;go_quiet (fail);go_wp2;go_ret;exact⟨by rw[decide_eq_false (dWg s.out t.out h.out)];rfl,z+nq,by simp[World.drewN];omega⟩
   ·have E:decide ((k:Int)<n)=false:=by simp;omega
    have A:l=m:=by
     rw[<-AX (l:=l) (i:=k) (by have:=p.out;omega),<-AX (l:=m) (i:=k) (by have:=q.out;omega),c]
    have G:=fQ A;clear A c;go_wp2;go_ret;exact⟨by rw[decide_eq_true G.out];rfl,_,rfl⟩
 ·have H:l≠m:=fun e=>hlen (by rw[e]);have D:((l.length:Int) != (m.length:Int))=true:=(by simp;omega);go_in;go_wp2;go_ret;exact⟨by rw[decide_eq_false H];rfl,0,rfl⟩
theorem iQ{e:EnvD}{r:RowD}{c:CodeD}(h:codeOk e r c=true):∃ i o,iJ e r.sig c.op c.n=some (i,o)/\c.args.length=i.length/\c.outs.length=o.length/\tY c.op<=c.to.length/\(c.to.length:Int)<=tJ c.op/\(∀ x∈c.to,0<=x/\x<r.code.length)/\(∀ x∈c.args,0<=x/\x<r.places)/\(∀ x∈c.outs,0<=x/\x<r.places)/\c.outs.Nodup:=by
 unfold codeOk at h
 cases hf:iJ e r.sig c.op c.n with
 | none=>rw[hf]at h;cases h
 | some b=>
  obtain⟨i,o⟩:=b;rw[hf]at h;simp only[Bool.and_eq_true,decide_eq_true_eq]at h;obtain⟨⟨h1,h2,d,f⟩,g,j,k,m⟩:=h
  have w:∀ {n:Int} {l:List Int},within n l=true->∀ x∈l,0<=x/\x<n:=fun a x p=>by
   unfold within at a;have:=List.all_eq_true.1 a x p
   simpa using this
  exact⟨i,o,rfl,h1,h2,d,f,w m,w g,w j,k⟩
theorem aJo{e:EnvD}{c:CodeD}{s:StD}(h:actV e c k a s = .ret l):c.op=276/\l=a:=by
 unfold actV at h;simp only at h
 repeat' split at h
 all_goals first | cases h | skip
 ·rename_i h1;exact⟨h1,rfl⟩
theorem aYt{e:EnvD}{c:CodeD}{s:StD}(h:actV e c k a s = .go j):(c.op=273/\j=(c.to.getD 0 0).toNat)\/(c.op=274/\(j=k+1\/j=(c.to.getD 0 0).toNat))\/(c.op=275/\j=(c.to.getD (min (a.getD 0 0) (c.to.length - 1)) 0).toNat):=by
 unfold actV at h;simp only at h
 repeat' split at h
 all_goals first
  | cases h
  | skip
 all_goals simp_all
theorem aXa{e:EnvD}{c:CodeD}{s s':StD}{x:Int}(h:actV e c k a s = .trap x s'):x≠0:=by
 unfold actV at h;simp only at h
 repeat' split at h
 all_goals first
  | (injection h with h1 h2;subst h1;first | assumption | decide)
  | cases h
theorem rJ{e:EnvD}{c:CodeD}{s:StD}(h:actV e c k a s = .call n):c.op=16/\n=c.n/\¬(c.n:Int)<e.imports:=by
 unfold actV at h;simp only at h
 repeat' split at h
 all_goals first
  | (injection h with h1;subst h1;exact⟨by assumption,rfl,by assumption⟩)
  | cases h
theorem uZ{e:EnvD}{c:CodeD}{s s':StD}(h:actV e c k a s = .vals l s'):c.op≠273/\c.op≠274/\c.op≠275/\c.op≠276/\c.op≠277 /\
  ((c.op=16/\(c.n:Int)<e.imports/\hostV c.n ((e.sigs.getD c.n ⟨[],[]⟩).out) a s=(l,0,s'))\/(c.op≠16/\l = [(jZ c a s).1]/\(jZ c a s).2.1=0/\s'=(jZ c a s).2.2)):=by
 unfold actV at h;simp only at h
 repeat' split at h
 all_goals first
  | (injection h with h1 h2;subst h1;subst h2;refine⟨by assumption,by assumption,by assumption,by assumption,by assumption,?_⟩)
  | cases h
 ·rename_i b himp d;refine .inl ⟨b,himp,?_⟩;rw[<-d]
 ·rename_i b d;exact .inr ⟨b,rfl,d,rfl⟩
theorem aWp{outs:List Int}{s s':StD}(h:hostV n outs a s=(l,0,s')):l.length=outs.length/\s'.fuel=s.fuel:=by
 unfold hostV at h
 split at h
 ·rename_i hle;injection h with h1 h2;injection h2 with h2 b;subst h1;subst b;refine⟨?_,rfl⟩;rw[rW _ _ (by rw[Bw];omega),Bw];omega
 ·injection h with h1 h2;injection h2 with h2 b;omega
theorem aXb(c:CodeD)(a:List Nat)(s:StD):(jZ c a s).2.2.fuel<=s.fuel/\(c.op=258->(jZ c a s).2.1=0->(jZ c a s).2.2.fuel<s.fuel):=by
 unfold jZ
 repeat' split
 all_goals simp_all
 all_goals omega
theorem dQn{m:Bool}{op:Int}{i o:List Int}(h:mJ m op n=some (i,o)):o.length<=1:=by
 unfold mJ at h
 repeat' split at h
 all_goals (cases h <;> first | exact Aq _ | exact BX _ | (split <;> first | exact Aq _ | exact BX _) | skip)
theorem cJo{e:EnvD}{s:SigD}{op:Int}{i o:List Int}(h:iJ e s op n=some (i,o))(a:op≠16):o.length<=1:=by
 unfold iJ at h
 repeat' split at h
 all_goals first
  | exact dQn h
  | (cases hg:e.globals[n]? with
    | none=>rw[hg]at h;cases h
    | some g=>rw[hg]at h;cases h;exact Aq _)
  | (rename_i hq;exact absurd hq a)
  | (cases h <;> first | exact Aq _ | exact BX _)
theorem dVj{e:EnvD}{r:RowD}{c:CodeD}{s s':StD}(h:actV e c k a s = .vals l s')(f:codeOk e r c=true):c.outs.length<=l.length:=by
 obtain⟨i,o,hf,_,d,_⟩:=iQ f;obtain⟨_,_,_,_,_,h | ⟨b,rfl,_⟩⟩:=uZ h
 ·obtain⟨b,_,j⟩:=h;rw[(aWp j).1,d];rw[b]at hf;have hf:(e.sigs[c.n]?).map (fun g=>(g.inn,g.out))=some (i,o):=hf
  cases hg:e.sigs[c.n]? with
  | none=>rw[hg]at hf;cases hf
  | some g=>
   rw[hg]at hf;injection hf with hf;injection hf with h1 h2;rw[Ak,hg,<-h2];exact Aq _
 ·have:=cJo hf b;rw[d]
  simpa using this
theorem aQb{c:CodeD}(h1:c.op≠273)(h2:c.op≠274)(h3:c.op≠275)(h4:c.op≠276)(h5:c.op≠277):nextOf c k = [(k:Int)+1]:=by
 unfold nextOf;rw[if_neg (by omega),if_neg (by omega),if_neg (by omega)]
theorem bJf{e:EnvD}{r:RowD}{c:CodeD}{s:StD}(h:actV e c k a s = .go j)(p:codeOk e r c=true):(j:Int)∈nextOf c k/\c.outs = []:=by
 obtain⟨i,o,hf,_,t,d,_,u,_⟩:=iQ p
 have g:∀ x∈c.to,((x.toNat:Nat):Int)=x:=fun x v=>by have:=u x v;omega
 have m:o = []->c.outs = []:=fun e=>by subst e;exact List.length_eq_zero_iff.1 t
 have hn:∀ op,(op=273\/op=274\/op=275)->c.op=op->o = []:=fun op h1 h2=>by
  rw[h2]at hf;rcases h1 with rfl | rfl | rfl
  ·have hf:(if c.n=0 then some (([]:List Int),([]:List Int))else none)=some (i,o):=hf
   split at hf
   ·injection hf with hf;injection hf with _ h;exact h.symm
   ·cases hf
  ·have hf:(if c.n=0 then some (([127]:List Int),([]:List Int))else none)=some (i,o):=hf
   split at hf
   ·injection hf with hf;injection hf with _ h;exact h.symm
   ·cases hf
  ·have hf:(if c.n=0 then some (([127]:List Int),([]:List Int))else none)=some (i,o):=hf
   split at hf
   ·injection hf with hf;injection hf with _ h;exact h.symm
   ·cases hf
 have hg:∀ q,q<c.to.length->c.to.getD q 0∈c.to:=fun q hq=>by
  rw[Ak,Aj hq];exact List.getElem_mem hq
 rcases aYt h with⟨b,rfl⟩ | ⟨b,w⟩ | ⟨b,rfl⟩
 ·have f:0<c.to.length:=(by rw[b]at d;have:(1:Int)<=c.to.length:=d;omega);refine⟨?_,m (hn 273 (.inl rfl) b)⟩;unfold nextOf;rw[if_neg (by omega),if_pos (by omega),g _ (hg 0 f)];exact hg 0 f
 ·have f:0<c.to.length:=(by rw[b]at d;have:(1:Int)<=c.to.length:=d;omega);refine⟨?_,m (hn 274 (.inr (.inl rfl)) b)⟩;unfold nextOf;rw[if_neg (by omega),if_neg (by omega),if_pos b];rcases w with rfl | rfl
  ·simp
  ·rw[g _ (hg 0 f)]
   match hc:c.to,f with
   | x :: l,_=>simp
 ·have f:0<c.to.length:=(by rw[b]at d;have:(1:Int)<=c.to.length:=d;omega);refine⟨?_,m (hn 275 (.inr (.inr rfl)) b)⟩;unfold nextOf;rw[if_neg (by omega),if_pos (by omega),g _ (hg _ (by omega))];exact hg _ (by omega)
theorem xY{e:EnvD}{r:RowD}{c:CodeD}(hc:CheckP e r)(b:r.code[k]? = some c)(a:(j:Int)∈nextOf c k):j<r.code.length:=by
 have g:=AJ b;obtain⟨_,_,_,_,_,d,_,i,_⟩:=iQ (hc.code c g);have ai:=(List.getElem?_eq_some_iff.1 b).1
 have last:(c.op≠273/\c.op≠275/\c.op≠276/\c.op≠277)->k+1<r.code.length:=fun hn=>by
  refine Classical.byContradiction fun aj=>?_;have:k=r.code.length - 1:=(by omega);rw[this]at b;have:=hc.last c b;omega
 have f:(j:Int)∈c.to->j<r.code.length:=fun h=>by have:=i _ h;omega
 unfold nextOf at a
 split at a
 ·simp at a
 ·split at a
  ·exact f a
  ·split at a
   ·simp only[BY,By,or_false]at a;rcases a with a | a
    ·have:=last (by omega);omega
    ·refine f ?_;rename_i m;have n:0<c.to.length:=(by rw[m]at d;have:(1:Int)<=c.to.length:=d;omega)
     match o:c.to,n with
     | x :: l,_=>rw[o]at a;simp at a;rw[a];simp
   ·simp only[BY,By,or_false]at a;have:=last (by omega);omega
theorem aVa{p:RowsD}{r:RowD}{c:CodeD}(hp:ProgP p)(a:c.op=16)(b:codeOk p.env r c=true)(hi:¬(c.n:Int)<p.env.imports):∃ q g,p.fns[c.n - p.env.imports.toNat]? = some q/\p.env.sigs[c.n]? = some g/\g=q.sig:=by
 obtain⟨i,o,hf,_⟩:=iQ b;rw[a]at hf;have hf:(p.env.sigs[c.n]?).map (fun g=>(g.inn,g.out))=some (i,o):=hf
 cases hg:p.env.sigs[c.n]? with
 | none=>rw[hg]at hf;cases hf
 | some g=>
  have hl:=(List.getElem?_eq_some_iff.1 hg).1;have he:=mV hp.env;have hn:=hp.len;obtain⟨q,hq⟩:∃ q,p.fns[c.n - p.env.imports.toNat]? = some q:=⟨_,Aj (by omega)⟩;refine⟨q,g,hq,rfl,?_⟩;have:=(hp.row _ q hq).2;rw[show p.env.imports.toNat+(c.n - p.env.imports.toNat)=c.n by omega,hg]at this;injection this
theorem Ev.total{p:RowsD}(hp:ProgP p)(lost:Nat):∀ (f D:Nat) (m:Nat) (r:RowD) (rk:Nat->Nat),CheckP p.env r->(∀ i c (k:Nat),r.code[i]? = some c->c.op≠258->(k:Int)∈nextOf c i->rk k<rk i) ->
  ∀ (d k:Nat) (V:List Nat) (s:StD),s.fuel=f->16 - d=D->rk k=m->k<r.code.length->∃ R,Ev p lost d r k V s R/\R.s.fuel<=s.fuel:=by
 intro f
 induction f using Ae with
 | _ f I=>
 intro D
 induction D using Ae with
 | _ D J=>
 intro m
 induction m using Ae with
 | _ m K=>
 intro r rk hc b d k V s hf B hm L
 have again:∀ (j:Nat) (t:List Nat) (s':StD),j<r.code.length->(s'.fuel<s.fuel\/(s'.fuel=s.fuel/\rk j<rk k))->∃ R,Ev p lost d r j t s' R/\R.s.fuel<=s'.fuel:=fun j t s' C E=>by
  rcases E with E | ⟨h1,h2⟩
  ·exact I s'.fuel (by omega) D (rk j) r rk hc b d j t s' rfl B rfl C
  ·exact K (rk j) (by omega) r rk hc b d j t s' (by omega) B rfl C
 obtain⟨c,a⟩:∃ c,r.code[k]? = some c:=⟨_,Aj L⟩;have F:=hc.code c (AJ a)
 cases ha:actV p.env c k (argV p.env r c V) s with
 | ret l=>exact⟨_,.ret a ha,Aq _⟩
 | trap x s'=>
  refine⟨_,.trap a ha,?_⟩;show s'.fuel<=s.fuel;unfold actV at ha;simp only at ha
  repeat' split at ha
  all_goals first
   | (injection ha with h1 h2;subst h2;first | exact Aq _ | exact(aXb c _ s).1 | (unfold hostV;split <;> exact Aq _))
   | cases ha
 | go j=>
  obtain⟨hn,_⟩:=bJf ha F;have u:c.op≠258:=(by rcases aYt ha with⟨h,_⟩ | ⟨h,_⟩ | ⟨h,_⟩ <;> omega);obtain⟨R,v,G⟩:=again j V s (xY hc a hn) (.inr ⟨rfl,b k c j a u hn⟩);exact⟨_,.go a ha v,G⟩
 | vals l s'=>
  obtain⟨h1,h2,M,N,O,hv⟩:=uZ ha;have w:=aQb (k:=k) h1 h2 M N O;have o:((k+1:Nat):Int)∈nextOf c k:=(by rw[w];simp)
  have P:s'.fuel<s.fuel\/(s'.fuel=s.fuel/\c.op≠258)\/(s'.fuel<=s.fuel/\c.op≠258):=by
   rcases hv with⟨aA,_,Q⟩ | ⟨_,_,S,rfl⟩
   ·exact .inr (.inl ⟨(aWp Q).2,by omega⟩)
   ·by_cases u:c.op=258
    ·exact .inl ((aXb c _ s).2 u S)
    ·exact .inr (.inr ⟨(aXb c _ s).1,u⟩)
  obtain⟨R,v,G⟩:=again (k+1) (putV c.outs l V) s' (xY hc a o) (by
   rcases P with h | ⟨h,y⟩ | ⟨h,y⟩
   ·exact .inl h
   ·exact .inr ⟨h,b k c (k+1) a y o⟩
   ·rcases Bq h with h | h
    ·exact .inl h
    ·exact .inr ⟨h,b k c (k+1) a y o⟩)
  refine⟨_,.vals a ha v,?_⟩;show R.s.fuel<=s.fuel;omega
 | call n=>
  obtain⟨T,rfl,hi⟩:=rJ ha;by_cases hd:d<16
  ·obtain⟨q,g,hq,hg,rfl⟩:=aVa hp T F hi;have z:=(hp.row _ q hq).1;obtain⟨rk',U⟩:=z.rank;obtain⟨R1,H,A⟩:=J (16 - (d+1)) (by omega) (rk' 0) q rk' z U (d+1) 0 (initV q (lowL q.sig.inn (argV p.env r c V))) s hf rfl rfl (by have:=z.n1;omega);by_cases he:R1.e=0
   ·have w:=aQb (c:=c) (k:=k) (by omega) (by omega) (by omega) (by omega) (by omega);have o:((k+1:Nat):Int)∈nextOf c k:=(by rw[w];simp)
    obtain⟨R2,W,X⟩:=again (k+1) (putV c.outs R1.out (zeroV lost V)) R1.s (xY hc a o) (by
     rcases Bq A with h | h
     ·exact .inl h
     ·exact .inr ⟨h,b k c (k+1) a (by omega) o⟩)
    exact⟨_,.call a ha hd hq hg H he W,Bz X A⟩
   ·exact⟨_,.callT a ha hd hq hg H he,A⟩
  ·exact⟨_,.deep a ha (by omega),Aq _⟩
theorem Ev.some{p:RowsD}(hp:ProgP p)(lost:Nat){r:RowD}(hc:CheckP p.env r)(d k:Nat)(V:List Nat)(s:StD)(a:k<r.code.length):∃ R,Ev p lost d r k V s R:=by
 obtain⟨rk,b⟩:=hc.rank;obtain⟨R,c,_⟩:=Ev.total hp lost _ _ _ r rk hc b d k V s rfl rfl rfl a;exact⟨R,c⟩
theorem bXz{α:Type}{p q:α->Bool}:∀ (l:List α),(∀ x∈l,p x=true->q x=true)->(∃ x∈l,q x=true/\p x=false)->l.countP p<l.countP q
 | [],_,h=>by obtain⟨x,b,_⟩:=h;simp at b
 | a :: l,hi,h=>by
  have hle:l.countP p<=l.countP q:=List.countP_mono_left (fun x b=>hi x (Ag _ b));have ha:=hi a (List.mem_cons_self ..);rw[BJ,BJ];obtain⟨x,b,hq,hp⟩:=h;rcases List.mem_cons.1 b with rfl | b
  ·rw[hq,hp];simp;omega
  ·have:=bXz l (fun x b=>hi x (Ag _ b)) ⟨x,b,hq,hp⟩;cases hpa:p a
   ·simp only[Bool.false_eq_true,if_false,Bb];exact Ac this (Nat.le_add_right _ _)
   ·rw[ha hpa];simp only[if_true];omega
structure RkOk (r:RowD) (rk:Nat->Nat):Prop where
 lt:∀ i,rk i<=4096
 fall:∀ i c (k:Nat),r.code[i]? = some c->c.op≠258->(k:Int)∈nextOf c i->k<r.code.length->rk k<rk i
theorem CheckP.fQr{e:EnvD}{r:RowD}(h:CheckP e r):∃ rk,RkOk r rk:=by
 obtain⟨rk,a⟩:=h.rank;refine⟨fun i=>(Bd r.code.length).countP fun j=>decide (rk j<rk i),fun i=>?_,fun i c k hc b hn d=>?_⟩
 ·have:=List.countP_le_length (p:=fun j=>decide (rk j<rk i)) (l:=Bd r.code.length);rw[List.length_range]at this;have:=h.n2;omega
 ·have f:=a i c k hc b hn;refine bXz _ (fun j _ g=>?_) ⟨k,List.mem_range.2 d,by simpa using f,by simp⟩;simp only[decide_eq_true_eq]at g ⊢;omega
theorem dQr{e:EnvD}{c:CodeD}{s s':StD}{x:Int}(ha:actV e c k a s = .trap x s'):s'.fuel<=s.fuel:=by
 unfold actV at ha;simp only at ha
 repeat' split at ha
 all_goals first
  | (injection ha with h1 h2;subst h2;first | exact Aq _ | exact(aXb c _ s).1 | (unfold hostV;split <;> exact Aq _))
  | cases ha
theorem dQs{e:EnvD}{c:CodeD}{s s':StD}(ha:actV e c k a s = .vals l s'):s'.fuel<=s.fuel/\(c.op=258->s'.fuel<s.fuel):=by
 obtain⟨h1,h2,h3,h4,h5,hv⟩:=uZ ha;rcases hv with⟨aa,_,b⟩ | ⟨_,_,d,rfl⟩
 ·exact⟨Nat.le_of_eq (aWp b).2,fun h=>by omega⟩
 ·exact⟨(aXb c _ s).1,fun h=>(aXb c _ s).2 h d⟩
def eYh(s:StD)(R:ResD)(op:Int)(n:Nat):Prop:=
 R.cnt+4098*R.s.fuel<=4098*s.fuel+n+1/\(op=258->R.cnt+4098*R.s.fuel<=4098*s.fuel+1/\(R.e=0->R.cnt+4098*R.s.fuel<=4098*s.fuel))
theorem Ev.fXr{p:RowsD}{r:RowD}{s:StD}{R:ResD}(hp:ProgP p)(h:Ev p lost d r k V s R):CheckP p.env r->∀ rk,RkOk r rk->∀ c,r.code[k]? = Option.some c->eYh s R c.op (rk k):=by
 induction h with
 | ret hc ha=>
  intro b rk e c a;rw[hc]at a;injection a with a;subst a;have:=(aJo ha).1;exact⟨by dsimp only;omega,fun h=>by omega⟩
 | trap hc ha=>
  intro b rk e c a;have:=dQr ha;have m:=aXa ha;refine⟨?_,fun h=>⟨?_,fun h=>absurd h m⟩⟩ <;> (dsimp only;omega)
 | @go d r k k' V s c R hc ha hn u=>
  intro b rk e c a;rw[hc]at a;injection a with a;subst a;have y:=b.code _ (AJ hc);obtain⟨j,_⟩:=bJf ha y;have f:=xY b hc j;have t:c.op≠258:=(by rcases aYt ha with⟨h,_⟩ | ⟨h,_⟩ | ⟨h,_⟩ <;> omega);have v:=e.fall k c k' hc t j f;have:=(u b rk e _ (Aj f)).1;exact⟨by dsimp only;omega,fun h=>absurd h t⟩
 | @vals d r k V s s' c l R hc ha hn u=>
  intro b rk e c a;rw[hc]at a;injection a with a;subst a;have y:=b.code _ (AJ hc);obtain⟨h1,h2,A,B,C,_⟩:=uZ ha;have j:=aQb (k:=k) h1 h2 A B C;have f:((k+1:Nat):Int)∈nextOf c k:=(by rw[j];simp);have o:=xY b hc f;obtain⟨hf,D⟩:=dQs ha;have:=(u b rk e _ (Aj o)).1;have ar:=e.lt (k+1);by_cases t:c.op=258
  ·have:=D t;exact⟨by dsimp only;omega,fun _=>⟨by dsimp only;omega,fun _=>by dsimp only;omega⟩⟩
  ·have v:=e.fall k c (k+1) hc t f o;exact⟨by dsimp only;omega,fun h=>absurd h t⟩
 | @call d r q k n V s c g R1 R2 hc ha hd hq hg h1 he h2 ih1 ih2=>
  intro b rk e c a;rw[hc]at a;injection a with a;subst a;obtain⟨z,rfl,_⟩:=rJ ha;have j:=aQb (c:=c) (k:=k) (by omega) (by omega) (by omega) (by omega) (by omega);have f:((k+1:Nat):Int)∈nextOf c k:=(by rw[j];simp);have o:=xY b hc f;have v:=e.fall k c (k+1) hc (by omega) f o;have i:=(hp.row _ q hq).1;obtain⟨rk',w⟩:=i.fQr;have x:0<q.code.length:=(by have:=i.n1;omega);have m:=Aj x;have E:=((ih1 i rk' w _ m).2 (i.first _ m)).2 he;have a2:=(ih2 b rk e _ (Aj o)).1;exact⟨by dsimp only;omega,fun h=>by omega⟩
 | @callT d r q k n V s c g R1 hc ha hd hq hg h1 he ih1=>
  intro b rk e c a;rw[hc]at a;injection a with a;subst a;obtain⟨z,rfl,_⟩:=rJ ha;have j:=aQb (c:=c) (k:=k) (by omega) (by omega) (by omega) (by omega) (by omega);have f:((k+1:Nat):Int)∈nextOf c k:=(by rw[j];simp);have o:=xY b hc f;have v:=e.fall k c (k+1) hc (by omega) f o;have i:=(hp.row _ q hq).1;obtain⟨rk',w⟩:=i.fQr;have x:0<q.code.length:=(by have:=i.n1;omega);have m:=Aj x;have E:=((ih1 i rk' w _ m).2 (i.first _ m)).1;exact⟨by dsimp only;omega,fun h=>by omega⟩
 | @deep d r k n V s c hc ha hd=>
  intro b rk e c a;rw[hc]at a;injection a with a;subst a;obtain⟨z,rfl,_⟩:=rJ ha;exact⟨by dsimp only;omega,fun h=>by omega⟩
theorem Ev.fXs{p:RowsD}{r:RowD}{s:StD}{R:ResD}(hp:ProgP p)(h:Ev p lost d r 0 V s R)(a:CheckP p.env r):R.cnt<=4098*s.fuel+1:=by
 obtain⟨rk,c⟩:=a.fQr;have e:0<r.code.length:=(by have:=a.n1;omega);have b:=Aj e;have:=((h.fXr hp a rk c _ b).2 (a.first _ b)).1;omega
theorem gW{k:IntKind}{p q:Int}{r:Bh}(h:p=q):Ending.returned (.tuple #[.int k p,r]) = .returned (.tuple #[.int k q,r]):=by rw[h]
theorem oX(z:Int):IntKind.u64.wrap (wrap64 z)=z % 18446744073709551616:=by rw[Aw];unfold wrap64;omega
theorem aQp(z:Int):wrap32 z % 4294967296=z % 4294967296:=by unfold wrap32;omega
theorem uJ{M:Int}{a:Nat}(h:(a:Int)<M):((a:Int) / b) % M=(a:Int) / b:=by
 have h1:((a:Int) / b)=((a / b:Nat):Int):=(by simp);have h2:=Ab a b;rw[h1];exact Bk (Int.natCast_nonneg _) (by omega)
theorem uK{M:Int}{a:Nat}(h:(a:Int)<M):((a:Int) % b) % M=(a:Int) % b:=by
 have h1:((a:Int) % b)=((a % b:Nat):Int):=(by simp);have h2:=Be a b;rw[h1];exact Bk (by omega) (by omega)
theorem dZu(a b:Nat)(x y:Int)(w:Bg):Bi fZ 153 #[.int .u64 a,.int .u64 b,.int .i64 x,.int .i64 y] w fun e w'=>e = .returned (.slice (some ⟨w.heap.size,0,none⟩) 10 10)/\w.alloc (.cells ((rK a b x y).map Bx).toArray 4)=w':=by
 go_in;go_wp2;go_ret;exact⟨rfl,rfl⟩
theorem dZv(a b:Nat)(x y:Int)(w:Bg):Bi fZ 154 #[.int .u32 a,.int .u32 b,.int .i32 x,.int .i32 y] w fun e w'=>e = .returned (.slice (some ⟨w.heap.size,0,none⟩) 10 10)/\w.alloc (.cells ((rK a b x y).map Bx).toArray 4)=w':=by
 go_in;go_wp2;go_ret;exact⟨rfl,rfl⟩
theorem dZw(a b:Nat)(x:Int)(w:Bg)(ha:a<18446744073709551616)(hb:b<18446744073709551616)(hx : -9223372036854775808<=x)(aa:x<=9223372036854775807)(by_:Nat)(ad:bits .and .i64 (wrap64 (b:Int)) 63=(by_:Int))(ae:by_<64):
  Bi fZ 158 #[.int .u64 a,.int .u64 b,.int .i64 x,.int .i64 64] w fun e w'=>e = .returned (.slice (some ⟨w.heap.size,0,none⟩) 15 15)/\(w.alloc (.cells ((nK .u64 64 a b by_ x).map (Ah .u64)).toArray 52)).drew=w':=by
 go_in;go_wp2_with fail;have hw:wrap64 (64 - (by_:Int))=((64 - by_:Nat):Int):=(by unfold wrap64;omega);go_region;go_wp2;go_ret;exact⟨rfl,rfl⟩
theorem dZx(a b:Nat)(x:Int)(w:Bg)(ha:a<4294967296)(hb:b<4294967296)(hx : -2147483648<=x)(aa:x<=2147483647)(by_:Nat)(ad:bits .and .i64 (b:Int) 31=(by_:Int))(ae:by_<32):
  Bi fZ 159 #[.int .u32 a,.int .u32 b,.int .i32 x,.int .i64 32] w fun e w'=>e = .returned (.slice (some ⟨w.heap.size,0,none⟩) 15 15)/\(w.alloc (.cells ((nK .u32 32 a b by_ x).map (Ah .u32)).toArray 112)).drew=w':=by
 go_in;go_wp2_with fail;have hw:wrap64 (32 - (by_:Int))=((32 - by_:Nat):Int):=(by unfold wrap64;omega);go_region;go_wp2;go_ret;exact⟨rfl,rfl⟩
theorem dZy(k:Int)(a b:Nat)(x y:Int)(w:Bg)(ha:a<18446744073709551616)(hb:b<18446744073709551616)(hx : -9223372036854775808<=x)(aj:x<=9223372036854775807)(hy : -9223372036854775808<=y)(ak:y<=9223372036854775807)(f:y=0->b=0):
  Bi fZ 156 #[.int .i64 k,.int .u64 a,.int .u64 b,.int .i64 x,.int .i64 y] w fun e w'=>e = .returned (.tuple #[.int .u64 (hJ 18446744073709551616 (-9223372036854775808) k a b x y).1,.int .i64 (hJ 18446744073709551616 (-9223372036854775808) k a b x y).2])/\w=w':=by
 by_cases c:b=0
 ·have m:((b:Int) == 0)=true:=(by simp[c]);have d:=fQ (show hJ 18446744073709551616 (-9223372036854775808) k a b x y=(0,33) by simp[hJ,c]);clear c f;go_in;go_wp2;go_ret2;rw[d.out];exact⟨rfl,rfl⟩
 ·have m:((b:Int) == 0)=false:=(by simp;omega);have al:(y == 0)=false:=(by simp;intro e;exact c (f e));have ai:¬y=0:=fun e=>c (f e);have an:0<b:=(by omega);by_cases g:k=0
  ·subst g;by_cases hy1:y = -1
   ·have y1:(y == -1)=true:=(by simp[hy1]);by_cases h:x = -9223372036854775808
    ·have d:=fQ (show hJ 18446744073709551616 (-9223372036854775808) 0 a b x y=(0,34) by simp[hJ,c,hy1,h]);have x0:(x != 0)=true:=(by simp;omega);have x1:(x == wrap64 (-x))=true:=(by simp[wrap64,wrap32];omega);clear f c hy1 h;go_in;go_wp2;go_ret2;rw[d.out];exact⟨rfl,rfl⟩
    ·have d:=fQ (show hJ 18446744073709551616 (-9223372036854775808) 0 a b x y=((x.tdiv y) % 18446744073709551616,0) by simp[hJ,c,h]);by_cases j:x=0
     ·have x0:(x != 0)=false:=(by simp[j]);have x1:(x == wrap64 (-x))=true:=(by simp[j,wrap64,wrap32]);clear f c hy1 h j;go_in;go_wp2;go_ret2;rw[d.out];exact⟨gW (by first | exact aQp _ | exact oX _),rfl⟩
     ·have x1:(x == wrap64 (-x))=false:=(by simp[wrap64,wrap32];omega);clear f c hy1 h j;go_in;go_wp2;go_ret2;rw[d.out];exact⟨gW (by first | exact aQp _ | exact oX _),rfl⟩
   ·have y1:(y == -1)=false:=(by simp[hy1]);have d:=fQ (show hJ 18446744073709551616 (-9223372036854775808) 0 a b x y=((x.tdiv y) % 18446744073709551616,0) by simp[hJ,c,hy1]);clear f c hy1;go_in;go_wp2;go_ret2;rw[d.out];exact⟨gW (by first | exact aQp _ | exact oX _),rfl⟩
  ·have k0:(k == 0)=false:=(by simp[g]);by_cases i:k=1
   ·subst i;have d:=fQ (show hJ 18446744073709551616 (-9223372036854775808) 1 a b x y=((a:Int) / b,0) by simp[hJ,c]);clear f c g;go_in;go_wp2;go_ret2;rw[d.out];exact⟨gW (by first | exact uJ (by omega) | (rw[Aw];exact uJ (by omega))),rfl⟩
   ·have k1:(k == 1)=false:=(by simp[i]);by_cases l:k=2
    ·subst l;have d:=fQ (show hJ 18446744073709551616 (-9223372036854775808) 2 a b x y=((x.tmod y) % 18446744073709551616,0) by simp[hJ,c]);clear f c g i;go_in;go_wp2;go_ret2;rw[d.out];exact⟨gW (by first | rfl | rw[Aw]),rfl⟩
    ·have k2:(k == 2)=false:=(by simp[l]);have d:=fQ (show hJ 18446744073709551616 (-9223372036854775808) k a b x y=((a:Int) % b,0) by simp[hJ,c,g,i,l]);clear f c g i l;go_in;go_wp2;go_ret2;rw[d.out];exact⟨gW (by first | rfl | exact uK (by omega) | (rw[Aw];exact uK (by omega))),rfl⟩
theorem dZz(k:Int)(a b:Nat)(x y:Int)(w:Bg)(ha:a<4294967296)(hb:b<4294967296)(hx : -2147483648<=x)(aj:x<=2147483647)(hy : -2147483648<=y)(ak:y<=2147483647)(f:y=0->b=0):
  Bi fZ 157 #[.int .i64 k,.int .u32 a,.int .u32 b,.int .i32 x,.int .i32 y] w fun e w'=>e = .returned (.tuple #[.int .u32 (hJ 4294967296 (-2147483648) k a b x y).1,.int .i64 (hJ 4294967296 (-2147483648) k a b x y).2])/\w=w':=by
 by_cases c:b=0
 ·have m:((b:Int) == 0)=true:=(by simp[c]);have d:=fQ (show hJ 4294967296 (-2147483648) k a b x y=(0,33) by simp[hJ,c]);clear c f;go_in;go_wp2;go_ret2;rw[d.out];exact⟨rfl,rfl⟩
 ·have m:((b:Int) == 0)=false:=(by simp;omega);have al:(y == 0)=false:=(by simp;intro e;exact c (f e));have ai:¬y=0:=fun e=>c (f e);have an:0<b:=(by omega);by_cases g:k=0
  ·subst g;by_cases hy1:y = -1
   ·have y1:(y == -1)=true:=(by simp[hy1]);by_cases h:x = -2147483648
    ·have d:=fQ (show hJ 4294967296 (-2147483648) 0 a b x y=(0,34) by simp[hJ,c,hy1,h]);have x0:(x != 0)=true:=(by simp;omega);have x1:(x == wrap32 (-x))=true:=(by simp[wrap64,wrap32];omega);clear f c hy1 h;go_in;go_wp2;go_ret2;rw[d.out];exact⟨rfl,rfl⟩
    ·have d:=fQ (show hJ 4294967296 (-2147483648) 0 a b x y=((x.tdiv y) % 4294967296,0) by simp[hJ,c,h]);by_cases j:x=0
     ·have x0:(x != 0)=false:=(by simp[j]);have x1:(x == wrap32 (-x))=true:=(by simp[j,wrap64,wrap32]);clear f c hy1 h j;go_in;go_wp2;go_ret2;rw[d.out];exact⟨gW (by first | exact aQp _ | exact oX _),rfl⟩
     ·have x1:(x == wrap32 (-x))=false:=(by simp[wrap64,wrap32];omega);clear f c hy1 h j;go_in;go_wp2;go_ret2;rw[d.out];exact⟨gW (by first | exact aQp _ | exact oX _),rfl⟩
   ·have y1:(y == -1)=false:=(by simp[hy1]);have d:=fQ (show hJ 4294967296 (-2147483648) 0 a b x y=((x.tdiv y) % 4294967296,0) by simp[hJ,c,hy1]);clear f c hy1;go_in;go_wp2;go_ret2;rw[d.out];exact⟨gW (by first | exact aQp _ | exact oX _),rfl⟩
  ·have k0:(k == 0)=false:=(by simp[g]);by_cases i:k=1
   ·subst i;have d:=fQ (show hJ 4294967296 (-2147483648) 1 a b x y=((a:Int) / b,0) by simp[hJ,c]);clear f c g;go_in;go_wp2;go_ret2;rw[d.out];exact⟨gW (by first | exact uJ (by omega) | (rw[Aw];exact uJ (by omega))),rfl⟩
   ·have k1:(k == 1)=false:=(by simp[i]);by_cases l:k=2
    ·subst l;have d:=fQ (show hJ 4294967296 (-2147483648) 2 a b x y=((x.tmod y) % 4294967296,0) by simp[hJ,c]);clear f c g i;go_in;go_wp2;go_ret2;rw[d.out];exact⟨gW (by first | rfl | rw[Aw]),rfl⟩
    ·have k2:(k == 2)=false:=(by simp[l]);have d:=fQ (show hJ 4294967296 (-2147483648) k a b x y=((a:Int) % b,0) by simp[hJ,c,g,i,l]);clear f c g i l;go_in;go_wp2;go_ret2;rw[d.out];exact⟨gW (by first | rfl | exact uK (by omega) | (rw[Aw];exact uK (by omega))),rfl⟩
theorem dJa(n:Int):bits .and .i64 n 63=n % 64:=by
 have a:(BitVec.ofInt 64 63).toNat=2 ^ 6 - 1:=by decide
 have key:(BitVec.ofInt 64 n &&& BitVec.ofInt 64 63).toNat=(n % ((2 ^ 64:Nat):Int)).toNat % 2 ^ 6:=by
  rw[BitVec.toNat_and,BitVec.toNat_ofInt,a,Av]
 show IntKind.i64.wrap ((BitVec.ofInt 64 n &&& BitVec.ofInt 64 63).toNat:Nat)=n % 64;rw[key,BQ];omega
theorem dJb(n:Int):bits .and .i64 n 31=n % 32:=by
 have a:(BitVec.ofInt 64 31).toNat=2 ^ 5 - 1:=by decide
 have key:(BitVec.ofInt 64 n &&& BitVec.ofInt 64 31).toNat=(n % ((2 ^ 64:Nat):Int)).toNat % 2 ^ 5:=by
  rw[BitVec.toNat_and,BitVec.toNat_ofInt,a,Av]
 show IntKind.i64.wrap ((BitVec.ofInt 64 n &&& BitVec.ofInt 64 31).toNat:Nat)=n % 32;rw[key,BQ];omega
theorem aYb(z:Int): -9223372036854775808<=wrap64 z/\wrap64 z<=9223372036854775807:=by unfold wrap64;omega
theorem aYc(z:Int): -2147483648<=wrap32 z/\wrap32 z<=2147483647:=by unfold wrap32;omega
def uV(p:Int×Int)(w:Bg)(e:Ending)(w':Bg):Prop:=e = .returned (.tuple #[.int .u64 p.1,.int .i64 p.2])/\Below w.heap.size w w'
theorem bKx(k:Int)(a b:Nat)(x y:Int)(ha:a<4294967296):0<=(hJ 4294967296 (-2147483648) k a b x y).1/\(hJ 4294967296 (-2147483648) k a b x y).1<4294967296:=by
 have h1:(a:Int) / b=((a / b:Nat):Int):=(by simp);have h2:=Ab a b;have h5:0<=(a:Int) / b:=BZ (by omega) (by omega);have h3:(a:Int) % b=((a % b:Nat):Int):=(by simp);have h4:=Be a b;unfold hJ
 repeat' split
 all_goals (simp only;omega)
theorem bYz(o:BinOp)(x y:Int):0<=bits o .u32 x y/\bits o .u32 x y<4294967296:=by
 have h:∃ z,bits o .u32 x y=IntKind.u32.wrap z:=⟨_,rfl⟩;obtain⟨z,a⟩:=h;rw[a,AQ];omega
theorem bKy(a b by_:Nat)(x:Int)(ha:a<4294967296)(k:Nat):0<=(nK .u32 32 a b by_ x).getD k 0/\(nK .u32 32 a b by_ x).getD k 0<4294967296:=by
 have h1:(a:Int) / 2 ^ by_=((a / 2 ^ by_:Nat):Int):=(by simp);have h2:=Ab a (2 ^ by_);have h5:0<=(a:Int) / 2 ^ by_:=BZ (by omega) (Int.le_of_lt (Int.pow_pos (by omega)));have c:=fun o x y=>bYz o x y;unfold nK
 match k with
 | 0=>simp only[Ax,Az,AQ];omega
 | 1=>simp only[Ax,Az,AQ];omega
 | 2=>simp only[Ax,Az,AQ];omega
 | 3=>simp
 | 4=>simp
 | 5=>simp
 | 6=>simp
 | 7=>simp only[Ax,Az];exact c _ _ _
 | 8=>simp only[Ax,Az];exact c _ _ _
 | 9=>simp only[Ax,Az];exact c _ _ _
 | 10=>simp only[Ax,Az,AQ];omega
 | 11=>simp only[Ax,Az,AQ];omega
 | 12=>simp only[Ax,Az];omega
 | 13=>simp only[Ax,Az];exact c _ _ _
 | 14=>simp only[Ax,Az];exact c _ _ _
 | k+15=>simp
theorem dJc(d f:Int)(k a b:Nat)(w:Bg)(hk:k<10)(ha:a<18446744073709551616)(hb:b<18446744073709551616):
  Bi fZ 130 #[.agg #[.int .i64 d,.int .i64 f,.int .i64 1,.int .i64 126],.int .i64 k,.int .u64 a,.int .u64 b] w (uV (gK 1 126 k a b) w):=by
 have g:=fQ (show gK 1 126 k a b=(b01 ((rK a b (wrap64 a) (wrap64 b)).getD k false),0) by simp[gK]);obtain⟨y,c⟩:=fX ((rK a b (wrap64 a) (wrap64 b)).getD k false)
 have hcell:∀ W:Bg,(W.alloc (.cells ((rK a b (wrap64 a) (wrap64 b)).map Bx).toArray 4)).cell? ⟨W.heap.size,k,none⟩=some (.bool y):=fun W=>by
  rw[(Blk.new W 4 _).cell k];simp only[AK,AY];rw[Aj (by simp[rK];omega),<-c,Ak,Aj (by simp[rK];omega)];rfl
 rw[c]at g;have h:=fQ hcell;clear c hcell;go_in;go_wp2_with fail;refine(dZu a b _ _ _).mono ?_;rintro e i ⟨rfl,rfl⟩;have hcell:=h.out (w.alloc (.cells #[.int .i64 d,.int .i64 f,.int .i64 1,.int .i64 126] 181));simp only[Aa]at hcell;go_wp2_with fail;refine(bZs y _).mono ?_;rintro e i ⟨rfl,rfl⟩;go_wp2;go_ret2;unfold uV;rw[g.out];exact⟨rfl,((Ay _ _).alloc (Aq _) _).alloc (by simp) _⟩
theorem dJd(d f:Int)(k a b:Nat)(w:Bg)(hk:k<10)(ha:a<4294967296)(hb:b<4294967296):
  Bi fZ 130 #[.agg #[.int .i64 d,.int .i64 f,.int .i64 1,.int .i64 127],.int .i64 k,.int .u64 a,.int .u64 b] w (uV (gK 1 127 k a b) w):=by
 have g:=fQ (show gK 1 127 k a b=(b01 ((rK a b (wrap32 a) (wrap32 b)).getD k false),0) by simp[gK]);obtain⟨y,c⟩:=fX ((rK a b (wrap32 a) (wrap32 b)).getD k false)
 have hcell:∀ W:Bg,(W.alloc (.cells ((rK a b (wrap32 a) (wrap32 b)).map Bx).toArray 4)).cell? ⟨W.heap.size,k,none⟩=some (.bool y):=fun W=>by
  rw[(Blk.new W 4 _).cell k];simp only[AK,AY];rw[Aj (by simp[rK];omega),<-c,Ak,Aj (by simp[rK];omega)];rfl
 rw[c]at g;have h:=fQ hcell;clear c hcell;go_in;go_wp2_with fail;refine(dZv a b _ _ _).mono ?_;rintro e i ⟨rfl,rfl⟩;have hcell:=h.out (w.alloc (.cells #[.int .i64 d,.int .i64 f,.int .i64 1,.int .i64 127] 181));simp only[Aa]at hcell;go_wp2_with fail;refine(bZs y _).mono ?_;rintro e i ⟨rfl,rfl⟩;go_wp2;go_ret2;unfold uV;rw[g.out];exact⟨rfl,((Ay _ _).alloc (Aq _) _).alloc (by simp) _⟩
theorem dJe(g h:Int)(k a b:Nat)(w:Bg)(i:3<=k)(j:k<=6)(ha:a<18446744073709551616)(l:b<18446744073709551616):
  Bi fZ 130 #[.agg #[.int .i64 g,.int .i64 h,.int .i64 3,.int .i64 126],.int .i64 k,.int .u64 a,.int .u64 b] w (uV (gK 3 126 k a b) w):=by
 have m:=fQ (show gK 3 126 k a b=hJ 18446744073709551616 (-9223372036854775808) ((k:Int) - 3) a b (wrap64 a) (wrap64 b) by simp[gK,i,j];omega);have hd:aXw k=true:=(by simp[aXw];omega);have q1:=aYb a;have d:=aYb b;have f:wrap64 (b:Int)=0->b=0:=(by unfold wrap64;omega);have n:=fQ f;clear f;generalize c:hJ 18446744073709551616 (-9223372036854775808) ((k:Int) - 3) a b (wrap64 a) (wrap64 b)=R at *;replace c:=fQ c;obtain⟨r1,r2⟩:=R;go_in;go_wp2_with fail;refine(uW k _).mono ?_;rintro e o ⟨rfl,rfl⟩;rw[hd];go_wp2_with fail;refine(dZy _ a b _ _ _ ha l q1.1 q1.2 d.1 d.2 n.out).mono ?_;rintro e o ⟨rfl,rfl⟩;rw[c.out];go_wp2;go_ret2;unfold uV;rw[m.out];exact⟨rfl,(Ay _ _).alloc (Aq _) _⟩
theorem dJf(h i:Int)(k a b:Nat)(w:Bg)(j:3<=k)(l:k<=6)(ha:a<4294967296)(m:b<4294967296):
  Bi fZ 130 #[.agg #[.int .i64 h,.int .i64 i,.int .i64 3,.int .i64 127],.int .i64 k,.int .u64 a,.int .u64 b] w (uV (gK 3 127 k a b) w):=by
 have n:=fQ (show gK 3 127 k a b=hJ 4294967296 (-2147483648) ((k:Int) - 3) a b (wrap32 a) (wrap32 b) by simp[gK,j,l];omega);have hd:aXw k=true:=(by simp[aXw];omega);have q1:=aYc a;have d:=aYc b;have f:wrap32 (b:Int)=0->b=0:=(by unfold wrap32;omega);have q4:=bKx ((k:Int) - 3) a b (wrap32 a) (wrap32 b) ha;have o:=fQ f;clear f;generalize c:hJ 4294967296 (-2147483648) ((k:Int) - 3) a b (wrap32 a) (wrap32 b)=R at *;replace c:=fQ c;obtain⟨r1,r2⟩:=R;go_in;go_wp2_with fail;refine(uW k _).mono ?_;rintro e g ⟨rfl,rfl⟩;rw[hd];go_wp2_with fail;refine(uW k _).mono ?_;rintro e g ⟨rfl,rfl⟩;rw[hd];go_wp2_with fail;refine(dZz _ a b _ _ _ ha m q1.1 q1.2 d.1 d.2 o.out).mono ?_;rintro e g ⟨rfl,rfl⟩;rw[c.out];go_wp2;go_ret2;unfold uV;rw[n.out];exact⟨rfl,(Ay _ _).alloc (Aq _) _⟩
theorem dJg(d f:Int)(k a b:Nat)(w:Bg)(hk:k<3\/6<k)(ae:k<15)(ha:a<18446744073709551616)(j:b<18446744073709551616):
  Bi fZ 130 #[.agg #[.int .i64 d,.int .i64 f,.int .i64 3,.int .i64 126],.int .i64 k,.int .u64 a,.int .u64 b] w (uV (gK 3 126 k a b) w):=by
 have g:=fQ (show gK 3 126 k a b=((nK .u64 64 a b (b % 64) (wrap64 a)).getD k 0,0) by
  rw[gK,if_pos rfl,if_neg (by decide),if_neg (by omega)]
  simp)
 have hd:aXw k=false:=(by simp[aXw];omega);have q1:=aYb a
 have h:bits .and .i64 (wrap64 (b:Int)) 63=((b % 64:Nat):Int):=by
  rw[dJa];unfold wrap64;omega
 obtain⟨y,c⟩:=fX ((nK .u64 64 a b (b % 64) (wrap64 a)).getD k 0)
 have hcell:∀ W:Bg,(W.alloc (.cells ((nK .u64 64 a b (b % 64) (wrap64 a)).map (Ah .u64)).toArray 52)).drew.cell? ⟨W.heap.size,k,none⟩=some (.int .u64 y):=fun W=>by
  rw[(Blk.new W 52 _).drew.cell k];simp only[AK,AY];rw[Aj (by simp[nK];omega),<-c,Ak,Aj (by simp[nK];omega)];rfl
 rw[c]at g;have l:=fQ hcell;have m:=fQ h;clear c hcell h;go_in;go_wp2_with fail;refine(uW k _).mono ?_;rintro e i ⟨rfl,rfl⟩;rw[hd];go_wp2_with fail;refine(uW k _).mono ?_;rintro e i ⟨rfl,rfl⟩;rw[hd];go_wp2_with fail;refine(dZw a b _ _ ha j q1.1 q1.2 _ m.out (Bf _ (by omega))).mono ?_;rintro e i ⟨rfl,rfl⟩;have hcell:=l.out (w.alloc (.cells #[.int .i64 d,.int .i64 f,.int .i64 3,.int .i64 126] 181));simp only[Aa]at hcell;go_wp2;go_ret2;unfold uV;rw[g.out];exact⟨rfl,(((Ay _ _).alloc (Aq _) _).alloc (by simp) _).drew⟩
theorem dJh(d f:Int)(k a b:Nat)(w:Bg)(hk:k<3\/6<k)(ae:k<15)(ha:a<4294967296)(j:b<4294967296):
  Bi fZ 130 #[.agg #[.int .i64 d,.int .i64 f,.int .i64 3,.int .i64 127],.int .i64 k,.int .u64 a,.int .u64 b] w (uV (gK 3 127 k a b) w):=by
 have g:=fQ (show gK 3 127 k a b=((nK .u32 32 a b (b % 32) (wrap32 a)).getD k 0,0) by
  rw[gK,if_neg (by decide),if_neg (by decide),if_neg (by omega)]
  simp)
 have hd:aXw k=false:=(by simp[aXw];omega);have q1:=aYc a
 have h:bits .and .i64 (b:Int) 31=((b % 32:Nat):Int):=by
  rw[dJb];simp
 obtain⟨y,c⟩:=fX ((nK .u32 32 a b (b % 32) (wrap32 a)).getD k 0);have hy:0<=y/\y<4294967296:=(by rw[<-c];exact bKy a b (b % 32) (wrap32 a) ha k)
 have hcell:∀ W:Bg,(W.alloc (.cells ((nK .u32 32 a b (b % 32) (wrap32 a)).map (Ah .u32)).toArray 112)).drew.cell? ⟨W.heap.size,k,none⟩=some (.int .u32 y):=fun W=>by
  rw[(Blk.new W 112 _).drew.cell k];simp only[AK,AY];rw[Aj (by simp[nK];omega),<-c,Ak,Aj (by simp[nK];omega)];rfl
 rw[c]at g;have l:=fQ hcell;have m:=fQ h;clear c hcell h;go_in;go_wp2_with fail;refine(uW k _).mono ?_;rintro e i ⟨rfl,rfl⟩;rw[hd];go_wp2_with fail;refine(uW k _).mono ?_;rintro e i ⟨rfl,rfl⟩;rw[hd];go_wp2_with fail;refine(dZx a b _ _ ha j q1.1 q1.2 _ m.out (Bf _ (by omega))).mono ?_;rintro e i ⟨rfl,rfl⟩;have hcell:=l.out (w.alloc (.cells #[.int .i64 d,.int .i64 f,.int .i64 3,.int .i64 127] 181));simp only[Aa]at hcell;go_wp2;go_ret2;unfold uV;rw[g.out];exact⟨rfl,(((Ay _ _).alloc (Aq _) _).alloc (by simp) _).drew⟩
section
open Go.Lib
theorem aXs:∀ (a b x:Nat),popAux (a+b) x=popAux a x+popAux b (x / 2 ^ a)
 | 0,b,x=>by simp[popAux]
 | a+1,b,x=>by
  rw[show a+1+b=(a+b)+1 from by omega,popAux,popAux,aXs a b (x / 2),AZ,Bv,Bc 2];omega
theorem bZk:∀ (a x:Nat),popAux a (x % 2 ^ a)=popAux a x
 | 0,x=>rfl
 | a+1,x=>by
  rw[popAux,popAux,<-bZk a (x / 2)];have h1:x % 2 ^ (a+1) % 2=x % 2:=(by rw[Bv];exact Nat.mod_mul_left_mod x (2 ^ a) 2);have h2:x % 2 ^ (a+1) / 2=x / 2 % 2 ^ a:=(by rw[Bv,Bc];exact Nat.mod_mul_right_div_self x 2 (2 ^ a));rw[h1,h2]
theorem bQj:∀ a,popAux a 0=0
 | 0=>rfl
 | a+1=>by rw[popAux,bQj a]
theorem dJi{a:Nat}(h:x<2 ^ a)(b:Nat):popAux (a+b) x=popAux a x:=by
 rw[aXs,Nat.div_eq_of_lt h,bQj,Bb]
theorem pQ:∀ a x,popAux a x<=a
 | 0,_=>Aq _
 | a+1,x=>by rw[popAux];have:=pQ a (x / 2);omega
theorem eZi(x y:Nat):(x &&& y) % 256=x % 256 &&& y % 256:=Nat.and_mod_two_pow (n:=8) ..
theorem dYe(x y:Nat):(x &&& y) / 256=x / 256 &&& y / 256:=Nat.and_div_two_pow (n:=8) ..
def aQg(c:Nat):Nat->Nat
 | 0=>0
 | n+1=>aQg c n*256+c
theorem aJw(hc:c<256):x &&& aQg c (n+1)=(x / 256 &&& aQg c n)*256+(x % 256 &&& c):=by
 have h1:=eZi x (aQg c (n+1));have h2:=dYe x (aQg c (n+1));have a:aQg c (n+1) % 256=c:=(by rw[aQg];omega);have b:aQg c (n+1) / 256=aQg c n:=(by rw[aQg];omega);rw[a]at h1;rw[b]at h2;omega
def stp(s c n x:Nat):Nat:=(x / s &&& aQg c n)+(x &&& aQg c n)
def stb(s c b:Nat):Nat:=(b / s &&& c)+(b &&& c)
theorem eWj:∀ (b:Fin 256) (h:Fin 2),(b.val / 2+128*h.val) &&& 85=b.val / 2 &&& 85:=by decide +kernel
theorem eWk:∀ (b:Fin 256) (h:Fin 4),(b.val / 4+64*h.val) &&& 51=b.val / 4 &&& 51:=by decide +kernel
theorem eVg(n x:Nat):stp 2 85 (n+1) x=stp 2 85 n (x / 256)*256+stb 2 85 (x % 256):=by
 have a:=eWj ⟨x % 256,by omega⟩ ⟨x / 256 % 2,by omega⟩;simp only at a;unfold stp stb;rw[aJw (by omega),aJw (by omega),show x / 2 % 256=x % 256 / 2+128*(x / 256 % 2)from by omega,a,show x / 2 / 256=x / 256 / 2 from by omega];omega
theorem eYr(n x:Nat):stp 4 51 (n+1) x=stp 4 51 n (x / 256)*256+stb 4 51 (x % 256):=by
 have a:=eWk ⟨x % 256,by omega⟩ ⟨x / 256 % 4,by omega⟩;simp only at a;unfold stp stb;rw[aJw (by omega),aJw (by omega),show x / 4 % 256=x % 256 / 4+64*(x / 256 % 4)from by omega,a,show x / 4 / 256=x / 256 / 4 from by omega];omega
theorem eZj:∀ b:Fin 256,stb 2 85 b.val<256/\stb 4 51 (stb 2 85 b.val)<=68/\stb 4 51 (stb 2 85 b.val) % 16<=4/\(stb 4 51 (stb 2 85 b.val) / 16+stb 4 51 (stb 2 85 b.val)) % 16=popAux 8 b.val:=by decide +kernel
def bXa:Nat->Nat->Nat
 | 0,_=>0
 | n+1,x=>bXa n (x / 256)*256+popAux 8 (x % 256)
theorem bKz:∀ n x,(stp 4 51 n (stp 2 85 n x)) % 16<=4/\((stp 4 51 n (stp 2 85 n x)) / 16+stp 4 51 n (stp 2 85 n x)) &&& aQg 15 n=bXa n x
 | 0,x=>by simp[stp,aQg,bXa]
 | n+1,x=>by
  obtain⟨h1,h2⟩:=bKz n (x / 256);obtain⟨q1,b,c,a⟩:=eZj ⟨x % 256,by omega⟩;simp only at q1 b c a;have d:stp 2 85 (n+1) x / 256=stp 2 85 n (x / 256):=(by rw[eVg];omega);have e2:stp 2 85 (n+1) x % 256=stb 2 85 (x % 256):=(by rw[eVg];omega);have e:stp 4 51 (n+1) (stp 2 85 (n+1) x)=stp 4 51 n (stp 2 85 n (x / 256))*256+stb 4 51 (stb 2 85 (x % 256)):=(by rw[eYr,d,e2]);rw[e];generalize stp 4 51 n (stp 2 85 n (x / 256))=hi at h1 h2 ⊢;generalize stb 4 51 (stb 2 85 (x % 256))=lo at b c a ⊢;refine⟨by omega,?_⟩;rw[aJw (by omega),show((hi*256+lo) / 16+(hi*256+lo)) / 256=hi / 16+hi from by omega,h2,bXa,<-a];rw[show((hi*256+lo) / 16+(hi*256+lo)) % 256 &&& 15=((hi*256+lo) / 16+(hi*256+lo)) % 256 % 16 from Av _ 4];omega
theorem eYs(a c1 b c d f y:Nat)(b0:a<=8)(b1:c1<=8)(b2:b<=8)(t1:c=d*256+c1)(t2:d=f*256+b)(hy:y=c*256+a):y+y / 256=(d+f)*65536+((c1+b)*256+(a+c1)):=by
 have e:y / 256=c:=(by omega);omega
theorem eYt(g c1 a b c h d f i y1:Nat)(b0:g<=8)(b1:c1<=8)(b2:a<=8)(b3:b<=8)(b4:c<=8)(t2:h=d*256+a)(t3:d=f*256+b)(t4:f=i*256+c)(hy:y1=(h+d)*65536+((c1+a)*256+(g+c1))):
  y1+y1 / 65536=(f+i)*4294967296+(f+i)*65536+(((b+c)*256+(a+b))*65536+((b+c)*256+(a+b))+((c1+a)*256+(g+c1))):=by
 have e:y1 / 65536=h+d:=(by omega);omega
theorem eWl(d a e f b c g:Nat)(t4:f=b*256+d)(t5:b=c*256+a)(t6:c=g*256+e):(f+b)*65536=(c+g)*4294967296+((a+e)*256+(d+a))*65536:=by omega
theorem eWm(e f g c a b d:Nat)(b4:e<=8)(b5:f<=8)(b6:g<=8)(h:c=a*256+e)(i:a=b*256+f)(j:b=d*256+g)(b7:d<=8):(c+a+b+d) % 128=e+f+g+d/\c+a+b+d<4294967295:=by
 have h6:b % 256=g:=(by omega);have h5:a % 256=f:=(by omega);have h4:c % 256=e:=(by omega);have g6:b<=2056:=(by omega);have g5:a<=526344:=(by omega);have g4:c<=134744072:=(by omega);clear h i j;omega
theorem eWn(V L y2 m v:Nat)(h2:y2=V*4294967296+L)(aa:L<4294967296)(ad:L % 128=m)(ae:V % 128=v)(hm:m+v<128)(af:V<4294967295):(y2+y2 / 4294967296) % 128=m+v/\y2+y2 / 4294967296<18446744073709551616:=by
 have e:y2 / 4294967296=V:=(by omega);rw[e];omega
theorem eWo(a b c d:Nat)(ha:a<=32)(hb:b<=32)(hc:c<=32)(hd:d<=32):(d*16777216+c*65536+b*256+a) % 128=a/\d*16777216+c*65536+b*256+a<4294967296:=by omega
theorem eYu(f c1 c a b d e m k n g y2:Nat)(A:f<=8)(B:c1<=8)(C:c<=8)(D:a<=8)(o:b<=8)(p:d<=8)(q:e<=8)(h:m=k*256+b)(i:k=n*256+d)(j:n=g*256+e)(r:g<=8)
  (l:y2=(m+k)*4294967296+(m+k)*65536+(((a+b)*256+(c+a))*65536+((a+b)*256+(c+a))+((c1+c)*256+(f+c1)))) :
  (y2+y2 / 4294967296) % 128=f+c1+c+a+b+d+e+g/\y2+y2 / 4294967296<18446744073709551616:=by
 have s:f+c1+c+a+(b+d+e+g)<128:=(by clear l h i j;omega);have t:f+c1+c+a<=32:=(by clear l h i j;omega);have k2:c1+c+a+b<=32:=(by clear l h i j;omega);have u:c+a+b+d<=32:=(by clear l h i j;omega);have v:a+b+d+e<=32:=(by clear l h i j;omega);have e0:=eWl b d e m k n g h i j;obtain⟨w,x⟩:=eWm b d e m k n g o p q h i j r;obtain⟨y,z⟩:=eWo (f+c1+c+a) (c1+c+a+b) (c+a+b+d) (a+b+d+e) t k2 u v
 have h2:y2=(m+k+n+g)*4294967296+((a+b+d+e)*16777216+(c+a+b+d)*65536+(c1+c+a+b)*256+(f+c1+c+a)):=by
  rw[l,e0];clear e0 l w x y z h i j A B C D o p q r s t k2 u v;omega
 have:=eWn _ _ y2 _ _ h2 z y w s x;rw[show f+c1+c+a+b+d+e+g=f+c1+c+a+(b+d+e+g)from by simp only[Ai]];exact this
theorem eYv(a c1 b c d e f g:Nat)(h:a<=8)(i:c1<=8)(j:b<=8)(k:c<=8)(l:d<=8)(m:e<=8)(n:f<=8)(o:g<=8)(y y1 y2:Nat)(p:y=((((((g*256+f)*256+e)*256+d)*256+c)*256+b)*256+c1)*256+a)
  (h1:y1=y+y / 256) (h2:y2=y1+y1 / 65536):(y2+y2 / 4294967296) % 128=a+c1+b+c+d+e+f+g/\y2+y2 / 4294967296<18446744073709551616:=by
 have q:=h1.trans (eYs a c1 b _ _ _ y h i j rfl rfl p);have e2:=h2.trans (eYt a c1 b c d _ _ _ _ y1 h i j k l rfl rfl rfl q);exact eYu a c1 b c d e f _ _ _ g y2 h i j k l m n rfl rfl rfl o e2
theorem cZb(z:Nat):popAux 8 (z % 256)=popAux 8 z:=bZk 8 z
theorem eWp(x:Nat):popAux 64 x=popAux 8 (x % 256)+popAux 8 (x / 256 % 256)+popAux 8 (x / 65536 % 256)+popAux 8 (x / 16777216 % 256)+popAux 8 (x / 4294967296 % 256)+popAux 8 (x / 1099511627776 % 256)+popAux 8 (x / 281474976710656 % 256)+popAux 8 (x / 72057594037927936 % 256):=by
 rw[show(64:Nat)=8+(8+(8+(8+(8+(8+(8+8))))))from rfl];simp only[aXs,AZ,cZb,<-Ai,Ba,Bj]
theorem eWq(x:Nat):popAux 32 x=popAux 8 (x % 256)+popAux 8 (x / 256 % 256)+popAux 8 (x / 65536 % 256)+popAux 8 (x / 16777216 % 256):=by
 rw[show(32:Nat)=8+(8+(8+8))from rfl];simp only[aXs,AZ,cZb,<-Ai,Ba,Bj]
theorem dYf(x y y1 y2:Nat)(a:y=bXa 8 x)(h1:y1=y+y / 256)(h2:y2=y1+y1 / 65536):(y2+y2 / 4294967296) % 128=popAux 64 x/\y2+y2 / 4294967296<18446744073709551616:=by
 rw[eWp];refine eYv _ _ _ _ _ _ _ _ (pQ 8 _) (pQ 8 _) (pQ 8 _) (pQ 8 _) (pQ 8 _) (pQ 8 _) (pQ 8 _) (pQ 8 _) y y1 y2 ?_ h1 h2;rw[a];simp only[bXa,AZ,Bj,Nat.zero_mul,Nat.zero_add]
end
def Tabs(w:Bg):Prop:=TabAt 0 Lib.deBruijn64tab w/\TabAt 1 Lib.deBruijn32tab w/\2<=w.heap.size
theorem bKw{g:Nat}{B:Nat}(h:TabAt g l w)(a:Below B w w')(b:g<B):TabAt g l w':=fun j c=>(a.cell (p:=⟨g,j,none⟩) b).trans (h j c)
theorem Tabs.below{B:Nat}(h:Tabs w)(a:Below B w w')(hB:2<=B):Tabs w':=⟨bKw h.1 a (by omega),bKw h.2.1 a (by omega),Bz h.2.2 a.size⟩
theorem dXr(x k idx:Nat)(w:Bg)(aa:((x:Int) == 0)=false)(key:IntKind.u64.wrap (bits BinOp.and IntKind.u64 (x:Int) (IntKind.u64.wrap (-(x:Int)))*285870213051353865) / 288230376151711744=(idx:Int))(hi:idx<64)(hk:k<64)(hcell:w.cell? ⟨0,idx,none⟩=some (.int .u8 k)):
  Bi fZ 148 #[.int .u64 x] w fun e w'=>e = .returned (.int .i64 k)/\w=w':=by
 go_in;go_wp2_with (simp only[key]);go_ret;exact⟨rfl,rfl⟩
theorem dXs(w:Bg):Bi fZ 148 #[.int .u64 0] w fun e w'=>e = .returned (.int .i64 64)/\w=w':=by
 go_in;go_wp2;go_ret;exact⟨rfl,rfl⟩
theorem dWn(x:Nat)(b:x<18446744073709551616)(w:Bg)(d:Tabs w):Bi fZ 148 #[.int .u64 x] w fun e w'=>e = .returned (.int .i64 (Lib.ctz 64 x))/\w=w':=by
 by_cases a:x=0
 ·subst a;exact dXs w
 ·obtain⟨f,c⟩:=Lib.lowest_bit 64 x a b;obtain⟨hi,g⟩:=Lib.deBruijn64_at _ c;have hcell:=d.1 _ hi;rw[g]at hcell;exact dXr x _ _ w (by simp;omega) (tz64_key x _ b a f) hi c hcell
theorem dXt(x k idx:Nat)(w:Bg)(aa:((x:Int) == 0)=false)(key:bits BinOp.and IntKind.u32 (x:Int) (-(x:Int) % 4294967296)*125613361 % 4294967296 / 134217728=(idx:Int))(hi:idx<32)(hk:k<32)(hcell:w.cell? ⟨1,idx,none⟩=some (.int .u8 k)):
  Bi fZ 151 #[.int .u32 x] w fun e w'=>e = .returned (.int .i64 k)/\w=w':=by
 go_in;go_wp2_with (simp only[key]);go_ret;exact⟨rfl,rfl⟩
theorem dXu(w:Bg):Bi fZ 151 #[.int .u32 0] w fun e w'=>e = .returned (.int .i64 32)/\w=w':=by
 go_in;go_wp2;go_ret;exact⟨rfl,rfl⟩
theorem dWo(x:Nat)(b:x<4294967296)(w:Bg)(d:Tabs w):Bi fZ 151 #[.int .u32 x] w fun e w'=>e = .returned (.int .i64 (Lib.ctz 32 x))/\w=w':=by
 by_cases a:x=0
 ·subst a;exact dXu w
 ·obtain⟨f,c⟩:=Lib.lowest_bit 32 x a b;obtain⟨hi,g⟩:=Lib.deBruijn32_at _ c;have hcell:=d.2.1 _ hi;rw[g]at hcell;exact dXt x _ _ w (by simp;omega) (tz32_key x _ b a f) hi c hcell
theorem m0:aQg 85 8=6148914691236517205:=by decide
theorem m1:aQg 51 8=3689348814741910323:=by decide
theorem m2:aQg 15 8=1085102592571150095:=by decide
theorem dXv(x d m p:Nat)(a:x<18446744073709551616)(b:m<18446744073709551616)(h:x / d &&& m=p):bits .and .u64 ((x:Int) / (d:Int)) (m:Int)=(p:Int):=by
 rw[<-h,show(x:Int) / (d:Int)=((x / d:Nat):Int)from by simp];exact bits_and_u64_nat (x / d) m (Nat.lt_of_le_of_lt (Ab _ _) a) b
theorem eQv(x m p:Nat)(hx:x<=7378697629483820646)(a:m<18446744073709551616)(h:(x / 16+x) &&& m=p):bits .and .u64 ((x:Int) / 16+(x:Int)) (m:Int)=(p:Int):=by
 rw[<-h,show(x:Int) / 16+(x:Int)=((x / 16+x:Nat):Int)from by simp];exact bits_and_u64_nat (x / 16+x) m (by omega) a
theorem eJo(y2 p:Nat)(h:(y2+y2 / 4294967296) % 128=p):bits .and .i64 ((y2:Int)+(y2:Int) / 4294967296) 127=(p:Int):=by rw[i64_and127];omega
theorem eYm(x3 y1:Nat)(b:x3<=1085102592571150095)(h:x3+x3 / 256=y1):y1<=1090000000000000000:=by omega
theorem eWb(x3 y1:Nat)(b:x3<=1090000000000000000)(h:x3+x3 / 65536=y1):y1<=1100000000000000000:=by omega
theorem dWp(x:Nat)(k:x<18446744073709551616)(w:Bg):Bi fZ 149 #[.int .u64 x] w fun e w'=>e = .returned (.int .i64 (Lib.popAux 64 x))/\w=w':=by
 have hle:=pQ 64 x;obtain⟨p1,a⟩:∃ p,x / 2 &&& 6148914691236517205=p:=⟨_,rfl⟩;obtain⟨q1,b⟩:∃ p,x &&& 6148914691236517205=p:=⟨_,rfl⟩;have l:p1<=6148914691236517205:=(by rw[<-a];exact AV);have m:q1<=6148914691236517205:=(by rw[<-b];exact AV);obtain⟨x1,c⟩:∃ y,p1+q1=y:=⟨_,rfl⟩;obtain⟨p2,d⟩:∃ p,x1 / 4 &&& 3689348814741910323=p:=⟨_,rfl⟩;obtain⟨f,g⟩:∃ p,x1 &&& 3689348814741910323=p:=⟨_,rfl⟩;have n:p2<=3689348814741910323:=(by rw[<-d];exact AV);have o:f<=3689348814741910323:=(by rw[<-g];exact AV);obtain⟨x2,h⟩:∃ y,p2+f=y:=⟨_,rfl⟩;obtain⟨x3,i⟩:∃ y,(x2 / 16+x2) &&& 1085102592571150095=y:=⟨_,rfl⟩;have q:x3<=1085102592571150095:=(by rw[<-i];exact AV);obtain⟨y1,hy1⟩:∃ y,x3+x3 / 256=y:=⟨_,rfl⟩;obtain⟨y2,j⟩:∃ y,y1+y1 / 65536=y:=⟨_,rfl⟩
 have hc:x3=bXa 8 x:=by
  have:=(bKz 8 x).2;unfold stp at this;rw[m0,m1,m2,a,b,c,d,g,h,i]at this;exact this
 obtain⟨hs,hb⟩:=dYf x x3 y1 y2 hc hy1.symm j.symm;have b1:x1<=12297829382473034410:=(by rw[<-c];exact BW l m);have r:x2<=7378697629483820646:=(by rw[<-h];exact BW n o);have e1:bits .and .u64 ((x:Int) / 2) 6148914691236517205=(p1:Int):=dXv x 2 6148914691236517205 p1 k (by decide) a;have e2:bits .and .u64 (x:Int) 6148914691236517205=(q1:Int):=(by rw[<-b];exact bits_and_u64_nat x 6148914691236517205 k (by decide));have e3:(p1:Int)+(q1:Int)=(x1:Int):=(by rw[<-c,BK]);have e4:bits .and .u64 ((x1:Int) / 4) 3689348814741910323=(p2:Int):=dXv x1 4 3689348814741910323 p2 (by omega) (by decide) d;have e5:bits .and .u64 (x1:Int) 3689348814741910323=(f:Int):=(by rw[<-g];exact bits_and_u64_nat x1 3689348814741910323 (by omega) (by decide));have e6:(p2:Int)+(f:Int)=(x2:Int):=(by rw[<-h,BK]);have e7:bits .and .u64 ((x2:Int) / 16+(x2:Int)) 1085102592571150095=(x3:Int):=eQv x2 1085102592571150095 x3 r (by decide) i;have c3:(x3:Int)+(x3:Int) / 256=(y1:Int):=(by rw[<-hy1];simp);have c4:(y1:Int)+(y1:Int) / 65536=(y2:Int):=(by rw[<-j];simp);have e8:=eJo y2 _ hs;have s:y1<=1090000000000000000:=eYm x3 y1 q hy1;have b4:y2<=1100000000000000000:=eWb y1 y2 s j;generalize Lib.popAux 64 x=pc at *;clear a b c d g h i hy1 j hc hs;go_in;go_wp2;go_ret;exact⟨rfl,rfl⟩
theorem eQw{k:IntKind}{a b:Int}(h:a=b):Ending.returned (.int k a) = .returned (.int k b):=by rw[h]
theorem eYn(a c1 b c:Nat):(c:Int)+b+c1+a=((a+c1+b+c:Nat):Int):=by omega
theorem bYp(x p:Nat)(a:x<4294967296)(h:x % 256=p):bits .and .u32 (x:Int) 255=(p:Int):=by
 rw[<-h,show(255:Int)=((2 ^ 8 - 1:Nat):Int)from rfl,bits_and_u32_nat x (2 ^ 8 - 1) a (by decide),Av]
theorem eWc(b:Nat)(a:b<256):Lib.pop8 (b:Int)=(Lib.popAux 8 b:Int):=by
 have:=Lib.pop8_eq ⟨b,a⟩;simp only[Lib.onesCount]at this;rw[this,show(64:Nat)=8+56 from rfl,dJi (by omega)]
theorem bVw(b:Nat)(c:b<256)(a:b<Lib.pop8tab.size):(Lib.pop8tab[b]'(a)).toNat=Lib.popAux 8 b:=by
 have:=eWc b c;unfold Lib.pop8 at this;rw[Ad,ByteArray.getElem?_lt' _ _ a,Option.getD_some]at this;omega
theorem dWq(x:Nat)(o:x<4294967296)(w:Bg):Bi fZ 152 #[.int .u32 x] w fun e w'=>e = .returned (.int .i64 (Lib.popAux 32 x))/\w.drew=w':=by
 have hp:=eWq x;obtain⟨a,g⟩:∃ b,x % 256=b:=⟨_,rfl⟩;obtain⟨c,h1⟩:∃ b,x / 256 % 256=b:=⟨_,rfl⟩;obtain⟨d,h2⟩:∃ b,x / 65536 % 256=b:=⟨_,rfl⟩;obtain⟨f,h⟩:∃ b,x / 16777216 % 256=b:=⟨_,rfl⟩;have i:a<256:=(by omega);have j:c<256:=(by omega);have k:d<256:=(by omega);have l3:f<256:=(by omega);rw[g,h1,h2,h]at hp;have e3:(x:Int) / 16777216=(f:Int):=(by omega);have e2:bits .and .u32 ((x:Int) / 65536) 255=(d:Int):=(by rw[show(x:Int) / 65536=((x / 65536:Nat):Int)from by simp];exact bYp _ _ (by omega) h2);have e1:bits .and .u32 ((x:Int) / 256) 255=(c:Int):=(by rw[show(x:Int) / 256=((x / 256:Nat):Int)from by simp];exact bYp _ _ (by omega) h1);have e0:bits .and .u32 (x:Int) 255=(a:Int):=bYp _ _ o g;have p:a<Lib.pop8tab.size:=(by rw[Lib.pop8tab_size];exact i);have p0:=bVw a i p;have q:c<Lib.pop8tab.size:=(by rw[Lib.pop8tab_size];exact j);have p1:=bVw c j q;have r:d<Lib.pop8tab.size:=(by rw[Lib.pop8tab_size];exact k);have p2:=bVw d k r;have s:f<Lib.pop8tab.size:=(by rw[Lib.pop8tab_size];exact l3);have p3:=bVw f l3 s;have m0:=pQ 8 a;have m1:=pQ 8 c;have m2:=pQ 8 d;have m3:=pQ 8 f;generalize Lib.popAux 8 a=l at *;generalize Lib.popAux 8 c=c1 at *;generalize Lib.popAux 8 d=m at *;generalize Lib.popAux 8 f=n at *;have t:=fQ (show(n:Int)+m+c1+l=(Lib.popAux 32 x:Int) by rw[hp];exact eYn l c1 m n);clear hp g h1 h2 h;go_in;go_wp2_with fail;go_region;go_wp2;go_ret;exact⟨eQw t.out,rfl⟩
theorem aWy:∀ f x,Lib.bitLenAux f x<=f
 | 0,_=>Aq _
 | f+1,x=>by
  rw[Lib.bitLenAux];have:=aWy f (x / 2)
  split <;> omega
def bJl(W x:Nat)(w:Bg)(e:Ending)(w':Bg):Prop:=
 ∃ g,e = .returned (.slice (some ⟨g,0,none⟩) 3 3)/\w.heap.size<=g/\Blk w' g 3 ((zY W x).map (Ah .i64)).toArray/\Below w.heap.size w w'
theorem dWr(x:Nat)(a:x<18446744073709551616)(w:Bg)(b:Tabs w):Bi fZ 126 #[.int .u64 x,.bool true] w (bJl 64 x w):=by
 have d:=fQ b;clear b;go_in;go_wp2_with fail;refine(Tryz.bits_LeadingZeros64 x _ (by omega) (by omega)).mono ?_;rintro e c ⟨rfl,rfl⟩;rw[Ad];go_wp2_with fail;refine(dWn x a _ d.out).mono ?_;rintro e c ⟨rfl,rfl⟩;go_wp2_with fail;refine(dWp x a _).mono ?_;rintro e c ⟨rfl,rfl⟩;go_wp2;go_ret;exact⟨_,rfl,Aq _,Blk.new _ _ _,(Ay _ _).alloc (Aq _) _⟩
theorem dWs(x:Nat)(a:x<4294967296)(w:Bg)(b:Tabs w):Bi fZ 126 #[.int .u64 x,.bool false] w (bJl 32 x w):=by
 have d:=fQ b;clear b;go_in;go_wp2_with fail;refine(Tryz.bits_LeadingZeros32 x _ (by omega) (by omega)).mono ?_;rintro e c ⟨rfl,rfl⟩;rw[Ad];go_wp2_with fail;refine(dWo x a _ d.out).mono ?_;rintro e c ⟨rfl,rfl⟩;go_wp2_with fail;refine(dWq x a _).mono ?_;rintro e c ⟨rfl,rfl⟩;go_wp2;go_ret;exact⟨_,rfl,Aq _,(Blk.new _ _ _).drew,((Ay _ _).alloc (Aq _) _).drew⟩
theorem eQq(a b o n c x:Nat)(w:Bg)(hc:w.cell? ⟨a,0,none⟩=some (.slice (some ⟨b,o,none⟩) n c))(h0:w.cell? ⟨b,o,none⟩=some (.int .u64 x))(hn:1<=n):
  Bi fZ 123 #[.pointer (some ⟨a,0,none⟩)] w fun e w'=>e = .returned (.int .u64 (b01 ((x:Int) == 0)))/\w=w':=by
 obtain⟨y,d⟩:=fX (((x:Int) == 0));rw[d];have aa:0<n:=(by omega);go_in;go_wp2_with fail;refine(bZs y _).mono ?_;rintro e w1 ⟨rfl,rfl⟩;go_wp2;go_ret;exact⟨rfl,rfl⟩
theorem eQr(a b o n c x:Nat)(w:Bg)(hc:w.cell? ⟨a,0,none⟩=some (.slice (some ⟨b,o,none⟩) n c))(h0:w.cell? ⟨b,o,none⟩=some (.int .u64 x))(hn:1<=n):
  Bi fZ 127 #[.pointer (some ⟨a,0,none⟩)] w fun e w'=>e = .returned (.int .u64 ((x:Int) % 4294967296))/\w=w':=by
 have aa:0<n:=(by omega);go_in;go_wp2;go_ret;exact⟨rfl,rfl⟩
theorem dYj(q:(out == 127)=true):sX 0 out x=wrap64 (IntKind.i8.wrap x) % 4294967296:=by rw[sX,if_pos (eq_of_beq q),aWz,if_pos rfl]
theorem dYk(q:(out == 127)=false):sX 0 out x=IntKind.u64.wrap (wrap64 (IntKind.i8.wrap x)):=by rw[sX,if_neg (ne_of_beq_false q),aWz,if_pos rfl]
theorem dYl(q:(out == 127)=true):sX 1 out x=wrap64 (IntKind.i16.wrap x) % 4294967296:=by rw[sX,if_pos (eq_of_beq q),aWz,if_neg (by decide),if_pos rfl]
theorem dYm(q:(out == 127)=false):sX 1 out x=IntKind.u64.wrap (wrap64 (IntKind.i16.wrap x)):=by rw[sX,if_neg (ne_of_beq_false q),aWz,if_neg (by decide),if_pos rfl]
theorem eWa(q:(out == 127)=true):sX 2 out x=wrap64 (wrap32 x) % 4294967296:=by rw[sX,if_pos (eq_of_beq q),aWz,if_neg (by decide),if_neg (by decide)]
theorem dYn(q:(out == 127)=false):sX 2 out x=IntKind.u64.wrap (wrap64 (wrap32 x)):=by rw[sX,if_neg (ne_of_beq_false q),aWz,if_neg (by decide),if_neg (by decide)]
theorem eYk:aKm 0 x=IntKind.u64.wrap (wrap64 (wrap32 x)):=by rw[aKm,if_pos rfl]
theorem eYl:aKm 1 x=x:=by rw[aKm,if_neg (by decide)]
theorem eQs(a d b o n c x:Nat)(k:Int)(w:Bg)(hc:w.cell? ⟨a,0,none⟩=some (.slice (some ⟨b,o,none⟩) n c))(h0:w.cell? ⟨b,o,none⟩=some (.int .u64 x))(hn:1<=n)(hk:w.cell? ⟨d,0,none⟩=some (.int .i64 k))(f:k=0\/k=1)
  (l1:a<w.heap.size) (l2:d<w.heap.size) (l3:b<w.heap.size) :
  Bi fZ 128 #[.pointer (some ⟨a,0,none⟩),.pointer (some ⟨d,0,none⟩)] w fun e w'=>e = .returned (.int .u64 (aKm k x))/\Below w.heap.size w w':=by
 have ad:0<n:=(by omega);rcases f with rfl | rfl
 all_goals
  go_in;go_wp2_with fail;go_region;go_wp2;go_ret
  first | rw[eYk] | rw[eYl]
  exact⟨rfl,((Ay _ _).alloc (Aq _) _).drew⟩
theorem eQt(d f po b o n c x:Nat)(k out:Int)(w:Bg)(hc:w.cell? ⟨d,0,none⟩=some (.slice (some ⟨b,o,none⟩) n c))(h0:w.cell? ⟨b,o,none⟩=some (.int .u64 x))(hn:1<=n)(hk:w.cell? ⟨f,0,none⟩=some (.int .i64 k))(g:k=0\/k=1\/k=2)
  (ho:w.cell? ⟨po,0,none⟩=some (.int .i64 out)) (l1:d<w.heap.size) (l2:f<w.heap.size) (l3:b<w.heap.size) (l4:po<w.heap.size) :
  Bi fZ 129 #[.pointer (some ⟨d,0,none⟩),.pointer (some ⟨f,0,none⟩),.pointer (some ⟨po,0,none⟩)] w fun e w'=>e = .returned (.int .u64 (sX k out x))/\Below w.heap.size w w':=by
 have ae:0<n:=(by omega);by_cases a:out=127
 ·have q:(out == 127)=true:=(by simp[a]);clear a;rcases g with rfl | rfl | rfl
  all_goals
   go_in;go_wp2_with fail;go_region;go_wp2;go_ret
   first | rw[dYj q] | rw[dYl q] | rw[eWa q]
   exact⟨rfl,((Ay _ _).alloc (Aq _) _).drew⟩
 ·have q:(out == 127)=false:=(by simp[a]);clear a;rcases g with rfl | rfl | rfl
  all_goals
   go_in;go_wp2_with fail;go_region;go_wp2;go_ret
   first | rw[dYk q] | rw[dYm q] | rw[dYn q]
   exact⟨rfl,((Ay _ _).alloc (Aq _) _).drew⟩
end Go.Proofs.YtabibkpfgmolkaaGreatDoor

/- Lemmas for the claim, part 1. Conditions: none. -/
import Derived.BigQuiet
import Derived.Deep.Slices
import Derived.Lib.Hide
import Derived.Sort.Grow
import Derived.Test.YtabibkpfgmolkaaDoorProg
import Derived.WalkLawsBesides
import Derived.WalkSpells
set_option maxRecDepth 100000
set_option maxHeartbeats 16000000
set_option linter.unusedVariables false
set_option linter.unusedSimpArgs false
open Go.Lib renaming hid→cQ
open Go.Proofs.Tryd renaming prog→cZ
open Go.Proofs.Tryd
open Go.RowKit
open List renaming getElem?_eq_getElem→Aj,getElem?_append_right→Ax,map_cons→Az,eq_nil_of_length_eq_zero→Ak,getElem?_eq_none→Av,getElem?_map→Aw,getElem?_append_left→Ay,flatten_cons→AQ,mem_of_find?_eq_some→AY,ext_getElem?→Ad,map_nil→Ae,take_of_length_le→Af,mem_append→Ai,getElem?_modify→Bj,flatten_append→Bz,getElem?_take→Bk,map_toArray→By,getElem_mem→BJ,length_take→BQ,cons_append→BZ,flatten_nil→BK,length_map→BW,map_append→BY,append_nil→Bb,find?_some→Bc,replicate→Bd,mem_cons→Be,range→Bi
open Nat renaming le_refl→Aq,eq_zero_or_pos→AW,mul_one→Ab,zero_mul→Ag,mul_le_mul_right→Bq,le_trans→Bv,sub_self→Bw,mod_eq_of_lt→BX,add_mul→BV,min_eq_left→Ba,zero_add→Bf,add_zero→Bg,mul_pos→Bh
open Go.RowKit.Below renaming refl→AJ
open Option renaming map_eq_some_iff→AX,map_eq_none_iff→Ah
open Array renaming getElem?_setIfInBounds→AZ,toList_modify→AK,toList_push→Ac
open Go.Addr renaming add_lit→AV
open UInt8 renaming ofNat→Aa
open Go.Value renaming int→Bx
open Go renaming World→Cj,Value→Cq,TypeId→Cz,Program→Ck
open Go.RowKit renaming Below→Cx
namespace Go.Proofs.YtabibkpfgmolkaaDoor
theorem cX {α:Sort _}(a:α):∃ b,a=b:=⟨a,rfl⟩
variable {w w' a:Cj}{e t:Cz}{n k b base g size B c p:Nat}{v:Cq}{op wd:Int}{A:Option Addr}{st:Bool}
def Src(w:Cj)(A:Option Addr)(n:Nat)(a:List Cq):Prop:=
 a.length=n/\(0<n->∃ b o,A=some ⟨b,o,none⟩/\b<w.heap.size/\∀ j u,a[j]? = some u->w.cell? ⟨b,o+j,none⟩=some u)
theorem Src.nil(w:Cj)(A:Option Addr):Src w A 0 []:=⟨rfl,fun h=>absurd h (by omega)⟩
theorem Src.below{a:List Cq}(h:Src w A n a)(c:Cx B w w')(hB:w.heap.size<=B):Src w' A n a:=
 ⟨h.1,fun hn=>by
  obtain⟨b,o,e,d,hc⟩:=h.2 hn
  exact⟨b,o,e,Nat.lt_of_lt_of_le d c.size,fun j u f=>(c.cell (by show b<B;omega)).trans (hc j u f)⟩⟩
theorem Src.at_{o:Nat}{s:Option Nat}{a:List Cq}(h:Src w (some ⟨b,o,s⟩) n a)(c:k<n):
  w.cell? ⟨b,o+k,none⟩=some (a[k]'(by rw[h.1];exact c)):=by
 obtain⟨b',o',e,_,hc⟩:=h.2 (by omega);injection e with e;injection e with d e2;subst d;subst e2;exact hc k _ (Aj (by rw[h.1];exact c))
theorem Src.addr{a:List Cq}(h:Src w A n a)(hn:0<n):∃ b o,A=some ⟨b,o,none⟩/\b<w.heap.size:=by
 obtain⟨b,o,e,c,_⟩:=h.2 hn;exact⟨b,o,e,c⟩
theorem Src.cYa{a:List Cq}(h:w.ownsRow base e 1 (.slice A n c) n a):Src w A n a:=by
 refine⟨by simpa using h.1,fun hn=>?_⟩;rcases h.2 with⟨h1,h2⟩ | ⟨g,cap,cur,h1,_,hg,_,_,_,_⟩
 ·omega
 ·have b:A=some ⟨g,0,none⟩:=(by injection h1);subst b;refine⟨g,0,rfl,(Array.getElem?_eq_some_iff.1 hg).1,fun j u d=>?_⟩;have:=h.cells (g:=g) rfl j u d
  rwa[AV]at this
theorem cK{a:List Cq}(h:w.ownsRow base e size v n a)(b:Cx B w w')(hB:w.heap.size<=B):w'.ownsRow base e size v n a:=by
 refine⟨h.1,?_⟩;rcases h.2 with h2 | ⟨g,cap,cur,h1,h2,hg,r⟩
 ·exact .inl h2
 ·refine .inr ⟨g,cap,cur,h1,h2,?_,r⟩;rw[b.block g (by have:=(Array.getElem?_eq_some_iff.1 hg).1;omega)];exact hg
theorem eQ{a:Nat}{b:List Cq}(h:w.ownsRow base e size v n b)(c:a<=base):w.ownsRow a e size v n b:=by
 refine⟨h.1,?_⟩;rcases h.2 with h2 | ⟨g,cap,cur,h1,h2,r⟩
 ·exact .inl h2
 ·exact .inr ⟨g,cap,cur,h1,Bv c h2,r⟩
theorem cJ{a:List Cq}(h:w.ownsRow base e size v n a):
  ∃ A c,v = .slice A n c/\n<=c:=by
 rcases h.2 with⟨h1,h2⟩ | ⟨g,cap,cur,h1,_,_,b,_⟩
 ·subst h2;exact⟨none,0,h1,Aq _⟩
 ·exact⟨_,_,h1,b⟩
theorem bXv{P:Ck}{ops:Array Oper}{rest:List Oper}{o:Oper}{a:Act}{Q:Exit->Act->Cj->Prop}(w:Cj)(C:o.guard=none)(s x:Operand)(t:Cz)
  (D:o.op = .call { callee:=.builtin .append,args:=#[s,x],argTypes:=#[t,t] })
  (base:Nat) (e:Cz) (z:Cq) (bytes:Nat) (k:P.underlying t=some (.slice e)) (hinfo:(P.info? e).map (fun i=>(i.zero,i.size,i.bytes))=some (some z,1,bytes)) (E:z.cells.size=1)
  (v:Cq) (n:Nat) (f:List Cq) (hs:a.eval s=v) (l:w.ownsRow base e 1 v n f)
  (A:Option Addr) (m c:Nat) (news:List Cq) (F:a.eval x = .slice A m c) (d:Src w A m news) (h1:∀ u∈news,u.oneCell'=true)
  (G:n+m<=maxLen) (hbytes:(n+m)*bytes<=140737488355328) (hbase:base<=w.heap.size)
  (h:∀ v' w',w'.ownsRow base e 1 v' (n+m) (f++news)->w.grownBy w' v.ownBlock->wpList P ops Q rest (a.put o.dst v') w'):wpList P ops Q (o :: rest) a w:=by
 obtain⟨i,hi,H,I,J⟩:=info_parts hinfo
 have key:∃ v' w',(Builtin.append_ #[t,t] o.type #[v,.slice A m c]).run P w = .ok v' w'/\w'.ownsRow base e 1 v' (n+m) (f++news)/\w.grownBy w' v.ownBlock:=by
  rcases A with _ | L
  ·have y:m=0:=by
    rcases AW m with p | p
    ·exact p
    ·obtain⟨b,o,M,_⟩:=d.2 p;cases M
   have N:news = []:=Ak (by rw[d.1,y]);subst N;subst y;refine⟨v,w,?_,by simpa using l,World.grownBy.refl w _⟩;rcases l.2 with⟨rfl,rfl⟩ | ⟨g,cap,cur,rfl,_,_,O,_⟩
   ·simp[Builtin.append_,run_underlying k,sizeOf,typeInfo,hi,Builtin.lenOf,Builtin.firstCells]
   ·simp[Builtin.append_,run_underlying k,sizeOf,typeInfo,hi,Builtin.lenOf,Builtin.firstCells,O,storeCells]
  ·obtain⟨v',w',q,h2,r,_⟩:=run_append_own (P:=P) w base t o.type e i z 1 bytes k hi H I J E (by omega) v n f l L m c news (by simpa using d.1)
    (fun j u B=>by
     have hj:=(List.getElem?_eq_some_iff.1 B).1;obtain⟨b,o,e',_,hc⟩:=d.2 (by have:=d.1;omega);injection e' with e';subst e';rw[AV]
     exact hc j u B) h1 G hbytes hbase
   exact⟨v',w',q,h2,r⟩
 obtain⟨v',w',q,h2,r⟩:=key;refine wpList_plain C fun K R=>?_;unfold Oper.wp execOp;simp only[D,resolve,invoke,builtin,Sem.run_bind,Sem.run_pure,Result.andThen_ok,By,Az,Ae,hs,F,q];exact R _ _ (h v' w' h2 r)
theorem aQv{b:List Cq}(h:Cx B a w)(hg:w.grownBy w' v.ownBlock)(c:w.ownsRow base e size v n b)(d:B<=base)(hs:B<=w.heap.size):Cx B a w':=
 h.grown hg hs (fun k f=>Bv d (c.lt k f).1)
def bys(l:List Nat):List Cq:=l.map fun c:Nat=>.int .u8 (c:Int)
theorem yV(l:List Nat):(bys l).length=l.length:=by simp[bys]
theorem bXd(l:List Nat):∀ u∈bys l,u.oneCell'=true:=by
 intro u a;obtain⟨_,_,rfl⟩:=List.mem_map.1 a;rfl
theorem cXk(a b:List Nat):bys (a++b)=bys a++bys b:=by simp[bys]
theorem bXe{l:List Nat}(h:k<(bys l).length):(bys l)[k] = .int .u8 ((l[k]'(by simpa[bys]using h):Nat):Int):=by simp[bys]
theorem bXf(l:List Nat)(k c:Nat):(bys l).set k (.int .u8 (c:Int))=bys (l.set k c):=by
 unfold bys;rw[List.map_set]
def AllB(l:List Nat):Prop:=∀ c∈l,c<256
theorem AllB.get{l:List Nat}(h:AllB l)(a:k<l.length):l[k]<256:=h _ (BJ a)
def aWr(l:List Nat):ByteArray:=⟨(l.map Aa).toArray⟩
theorem aZo(l:List Nat):(aWr l).toList=l.map Aa:=by
 unfold aWr;rw[ByteArray.toList_mk]
theorem aQr:∀ (a b:List Nat),AllB a->AllB b->a.map Aa=b.map Aa->a=b
 | [],[],_,_,_=>rfl
 | [],y :: b,_,_,h=>by simp at h
 | x :: a,[],_,_,h=>by simp at h
 | x :: a,y :: b,ha,d,h=>by
  simp only[Az,List.cons.injEq]at h;obtain⟨h1,h2⟩:=h;have hx:x<256:=ha x (by simp);have hy:y<256:=d y (by simp);have e:=congrArg UInt8.toNat h1;simp only[UInt8.toNat_ofNat']at e;rw[aQr a b (fun c hc=>ha c (by simp[hc])) (fun c hc=>d c (by simp[hc])) h2];rw[show x=y from by omega]
theorem cXl{a b:List Nat}(ha:AllB a)(c:AllB b):((aWr a).toList == (aWr b).toList)=decide (a=b):=by
 rw[aZo,aZo,Bool.eq_iff_iff];simp only[beq_iff_eq,decide_eq_true_eq];exact⟨aQr a b ha c,fun h=>by rw[h]⟩
theorem aWs{P:Ck}(w:Cj)(src dst e:Cz)(hs:P.underlying src=some (.slice e))(he:P.underlying e=some (.int .u8))(hd:P.underlying dst=some .string)
  (A:Option Addr) (n c:Nat) (l:List Nat) (h:Src w A n (bys l)) (g:AllB l):(convert src dst (.slice A n c)).run P w = .ok (.string (aWr l)) w:=by
 have hn:l.length=n:=(by rw[<-h.1,yV]);rcases A with _ | i
 ·have d:n=0:=by
   rcases AW n with d | d
   ·exact d
   ·obtain⟨b,o,a,_⟩:=h.2 d;cases a
  have:l = []:=Ak (by omega);subst this;rw[run_convert_bytes_nil w src e hs he n c dst hd];rfl
 ·have f:=run_convert_bytes_back (P:=P) w src dst e i c (l.map Aa) hs he hd (fun j m=>by
   have p:j<n:=(by simp at m;omega);obtain⟨b,o,a,_,hc⟩:=h.2 (by omega);injection a with a;subst a;rw[AV,hc j _ (Aj (by rw[h.1];exact p)),bXe];have:=g.get (k:=j) (by omega);simp
   omega)
  rw[BW,hn]at f;exact f
theorem aQw{x:Addr}(h:w.cell? x=some v):x.spot=none/\x.block<w.heap.size:=by
 unfold World.cell? at h
 split at h
 ·rename_i a
  split at h
  ·cases h
  ·rename_i hs;exact⟨by simpa using hs,(Array.getElem?_eq_some_iff.1 a).1⟩
 ·cases h
theorem rZ{P:Ck}{ops:Array Oper}{rest:List Oper}{o:Oper}{a:Act}{Q:Exit->Act->Cj->Prop}(w:Cj)(f:o.guard=none)(s x:Operand)(t:Cz)
  (g:o.op = .call { callee:=.builtin .append,args:=#[s,x],argTypes:=#[t,t] })
  (base:Nat) (e:Cz) (z:Cq) (bytes:Nat) (j:P.underlying t=some (.slice e)) (hinfo:(P.info? e).map (fun i=>(i.zero,i.size,i.bytes))=some (some z,1,bytes)) (k:z.cells.size=1)
  (v:Cq) (n:Nat) (b:List Cq) (hs:a.eval s=v) (d:w.ownsRow base e 1 v n b)
  (A:Option Addr) (m c:Nat) (news:List Cq) (l:a.eval x = .slice A m c) (p:Src w A m news) (h1:∀ u∈news,u.oneCell'=true)
  (q:n+m<=maxLen) (hbytes:(n+m)*bytes<=140737488355328) (hbase:base<=w.heap.size)
  (h:∀ v' w',w'.ownsRow base e 1 v' (n+m) (b++news)->Cx base w w'->wpList P ops Q rest (a.put o.dst v') w'):wpList P ops Q (o :: rest) a w:=
 bXv w f s x t g base e z bytes j hinfo k v n b hs d A m c news l p h1 q hbytes hbase fun v' w' h2 r=>
  h v' w' h2 (aQv (AJ _ _) r d (Aq _) hbase)
def Blk(w:Cj)(g:Nat)(e:Cz)(cs:Array Cq):Prop:=w.heap[g]? = some (.cells cs e (0,0))
theorem Blk.lt{cs:Array Cq}(h:Blk w g e cs):g<w.heap.size:=(Array.getElem?_eq_some_iff.1 h).1
theorem Blk.new(w:Cj)(e:Cz)(cs:Array Cq):Blk (w.alloc (.cells cs e)) w.heap.size e cs:=heap_alloc_new w _
theorem Blk.below{cs:Array Cq}(h:Blk w g e cs)(a:Cx B w w')(b:g<B):Blk w' g e cs:=(a.block g b).trans h
theorem Blk.cell{w:Cj}{g:Nat}{e:Cz}{cs:Array Cq}(h:Blk w g e cs)(i:Nat):w.cell? ⟨g,i,none⟩=cs[i]?:=cell_of_row w g i cs e (0,0) h
theorem Blk.src{cs:Array Cq}(h:Blk w g e cs)(n:Nat)(hn:n<=cs.size):Src w (some ⟨g,0,none⟩) n (cs.toList.take n):=by
 refine⟨by simp;omega,fun _=>⟨g,0,rfl,h.lt,fun j u a=>?_⟩⟩;rw[Bf,h.cell];rw[Bk]at a
 split at a
 ·simpa using a
 ·cases a
theorem bXw{W:Cj}(c:Cx W.heap.size W a):(∀ b o,b<W.heap.size->a.cell? ⟨b,o,none⟩=W.cell? ⟨b,o,none⟩)/\(∀ b o,b<W.heap.size->a.frozen? ⟨b,o,none⟩=W.frozen? ⟨b,o,none⟩):=
 ⟨fun b _ h=>c.cell (p:=⟨b,_,none⟩) h,fun b _ h=>c.frozen (p:=⟨b,_,none⟩) h⟩
theorem dV(h:Cx B a w)(n:Nat):Cx B a (w.drewN n):=⟨h.os,h.tape,h.output,h.size,h.block⟩
theorem cXm(k:IntKind)(x:Int):∀ u ∈ [Bx k x],u.oneCell'=true:=by
 intro u a;obtain rfl:=List.mem_singleton.1 a;rfl
theorem lV{a:List Cq}(h:w.ownsRow p e 1 v n a)(hn:1<=n):∃ g c,v = .slice (some ⟨g,0,none⟩) n c/\g<w.heap.size/\p<=g/\n<=c:=by
 rcases h.2 with⟨_,h⟩ | ⟨g',aa,cur,rfl,h1,h2,b,r⟩
 ·omega
 ·exact⟨_,_,rfl,(Array.getElem?_eq_some_iff.1 h2).1,h1,b⟩
theorem aQa{a:Nat}{d:List Cq}(h:w.ownsRow p e 1 (.slice (some ⟨b,0,none⟩) a c) a d)(hk:k<a):∃ v,w.cell? ⟨b,k,none⟩=some v:=by
 have hl:=h.1;rw[h.cellAt k (by omega)];exact⟨_,Aj (by omega)⟩
theorem Src.take{w:Cj}{A:Option Addr}{n i:Nat}{c:List Cq}(h:Src w A n c)(hi:i<=n):Src w A i (c.take i):=by
 refine⟨by rw[BQ,h.1];omega,fun h0=>?_⟩;obtain⟨b,o,e,d,hc⟩:=h.2 (by omega);refine⟨b,o,e,d,fun j u a=>hc j u ?_⟩;rw[Bk]at a
 split at a
 ·exact a
 ·cases a
theorem Src.drop{w:Cj}{b o n i:Nat}{a:List Cq}(h:Src w (some ⟨b,o,none⟩) n a)(hi:i<=n):Src w (some ⟨b,o+i,none⟩) (n - i) (a.drop i):=by
 refine⟨by rw[List.length_drop,h.1],fun h0=>?_⟩;obtain⟨b',o',e,c,hc⟩:=h.2 (by omega);injection e with e;injection e with d e2;subst d;subst e2;refine⟨b,o+i,rfl,c,fun j u f=>?_⟩;rw[Nat.add_assoc];exact hc (i+j) u (by rw[<-f,List.getElem?_drop])
theorem bJn{a:Int}(h:(Lit.int .u8 a).wf=true):0<=a/\a<256:=by
 simp[Lit.wf,IntKind.min,IntKind.max,IntKind.bits,IntKind.signed]at h;omega
theorem aJj{a:Int}(h:(Lit.int .u64 a).wf=true):0<=a/\a<18446744073709551616:=by
 simp[Lit.wf,IntKind.min,IntKind.max,IntKind.bits,IntKind.signed]at h;omega
theorem aJk{a:Int}(h:(Lit.int .i64 a).wf=true): -9223372036854775808<=a/\a<=9223372036854775807:=by
 simp[Lit.wf,IntKind.min,IntKind.max,IntKind.bits,IntKind.signed]at h;omega
theorem jQ(h:n<18446744073709551616):IntKind.u64.wrap (n:Int)=(n:Int):=by
 rw[IntKind.wrap_u64];omega
theorem bQa{a:Nat}(ha:a<18446744073709551616)(hb:b<18446744073709551616):bits .or .u64 (a:Int) (b:Int)=((a ||| b:Nat):Int):=by
 have hx:a ||| b<2 ^ 64:=Nat.or_lt_two_pow (by omega) (by omega);show IntKind.u64.wrap ((BitVec.ofInt 64 (a:Int) ||| BitVec.ofInt 64 (b:Int)).toNat:Int)=_;rw[BitVec.toNat_or,BitVec.ofInt_natCast,BitVec.ofInt_natCast,BitVec.toNat_ofNat,BitVec.toNat_ofNat,BX (by omega),BX (by omega)];exact jQ (by omega)
def rJ:Nat->List (Int×Cq)->List MapEntry
 | _,[]=>[]
 | i,(k,v) :: r=>{ key:=.int .i64 k,val:=v,born:=i } :: rJ (i+1) r
theorem aWt:∀ (i:Nat) (a b:List (Int×Cq)),rJ i (a++b)=rJ i a++rJ (i+a.length) b
 | i,[],b=>by simp[rJ]
 | i,(k,v) :: a,b=>by
  simp only[BZ,rJ,aWt (i+1) a b,List.length_cons];rw[show i+1+a.length=i+(a.length+1)from by omega]
def dW(op:Int):List (Int×Cq)->Nat->Option (Nat×Cq)
 | [],_=>none
 | (k,v) :: r,j=>if op=k then some (j,v)else dW op r (j+1)
theorem wX(op:Int):∀ (l:List (Int×Cq)) (i j:Nat),Instr.findNow (.int .i64) (.int .i64 op) (rJ i l) j=some (dW op l j)
 | [],_,_=>rfl
 | (k,v) :: r,i,j=>by
  simp only[rJ,Instr.findNow,Instr.sameNow,dW,if_true];by_cases h:op=k
  ·simp[h]
  ·have:(op == k)=false:=(by simp[h]);rw[this];simp only[if_neg h];exact wX op r (i+1) (j+1)
def lit(l:List (Int×Cq)):Obj:=.map (rJ 0 l).toArray l.length
theorem wZ{P:Ck}(w:Cj)(b:Bool)(n:Nat)(t:Cz)(k:IntKind)(x:Int)(h:P.underlying t=some (.int .i64)):(Instr.checkKey b (n+1) t (.int k x)).run P w = .ok () w:=by
 simp[Instr.checkKey,run_underlying h]
theorem aKl{P:Ck}{r:Nat}{a:Array MapEntry}{clock:Nat}(b:w.heap[r]? = some (.map a clock)):(getObj r).run P w = .ok (.map a clock) w:=by
 simp[getObj,Sem.run,b]
theorem aKm{P:Ck}{r:Nat}{a:Array MapEntry}{clock:Nat}(o:Obj)(b:w.heap[r]? = some (.map a clock)):(setObj r o).run P w = .ok () { w with heap:=w.heap.setIfInBounds r o }:=by
 simp[setObj,Sem.run,b]
theorem aZt{P:Ck}{b:Cz}{d:TypeDesc}{k:Cq}{l:List MapEntry}{a:Option (Nat×Cq)}(hd:P.underlying b=some d)(h:Instr.findNow d k l 0=some a):(Instr.findKey b k l).run P w = .ok a w:=by
 simp[Instr.findKey,run_underlying hd,h]
theorem bJo(W:Cj)(o a:Obj):({ W.alloc o with heap:=(W.alloc o).heap.setIfInBounds W.heap.size a }:Cj)=W.alloc a:=by
 show({ ({ W with heap:=W.heap.push o }:Cj)with heap:=(W.heap.push o).setIfInBounds W.heap.size a }:Cj)={ W with heap:=W.heap.push a }
 have e:(W.heap.push o).setIfInBounds W.heap.size a=W.heap.push a:=by
  apply Array.ext_getElem?;intro i;simp only[AZ,Array.getElem?_push,Array.size_push];by_cases h:W.heap.size=i
  ·subst h;simp
  ·rw[if_neg h,if_neg (by omega),if_neg (by omega)]
 rw[e]
theorem dX{P:Ck}(W:Cj)(t a g:Cz)(l:List (Int×Cq))(k:Int)(v:Cq)(h:P.underlying t=some (.map a g))(b:P.underlying a=some (.int .i64))(hn:dW k l 0=none):
  (Instr.mapUpdate t (.map (some W.heap.size)) (.int .i64 k) v).run P (W.alloc (lit l)) = .ok () (W.alloc (lit (l ++ [(k,v)]))):=by
 have c:(W.alloc (lit l)).heap[W.heap.size]? = some (.map (rJ 0 l).toArray l.length):=heap_alloc_new W _;have h1:=aKl (P:=P) c;have h2:=wZ (P:=P) (W.alloc (lit l)) false 9999 a .i64 k b;have d:=aZt (P:=P) (w:=W.alloc (lit l)) b (wX k l 0 0);rw[hn]at d;have f:=aKm (P:=P) (.map ((rJ 0 l).toArray.push { key:=.int .i64 k,val:=v,born:=l.length }) (l.length+1)) c;rw[bJo]at f
 have e:lit (l ++ [(k,v)]) = .map ((rJ 0 l).toArray.push { key:=.int .i64 k,val:=v,born:=l.length }) (l.length+1):=by
  unfold lit;rw[aWt];simp[rJ]
 rw[e];unfold Instr.mapUpdate;simp only[Sem.run_bind,run_underlying h,Result.andThen_ok,h1,h2,d,f]
theorem gW{P:Ck}(W:Cj)(t a c:Cz)(z:Cq)(l:List (Int×Cq))(k:Int)(e:P.underlying t=some (.map a c))(d:P.underlying a=some (.int .i64))(f:∀ w,(zeroValue c).run P w = .ok z w):
  (Instr.lookup t (.map (some W.heap.size)) (.int .i64 k) true).run P (W.alloc (lit l)) = .ok (.tuple #[((dW k l 0).map (·.2)).getD z,.bool (dW k l 0).isSome]) (W.alloc (lit l)):=by
 have g:(W.alloc (lit l)).heap[W.heap.size]? = some (.map (rJ 0 l).toArray l.length):=heap_alloc_new W _;have h1:=aKl (P:=P) g;have h2:=fun b=>wZ (P:=P) (W.alloc (lit l)) b 9999 a .i64 k d;have h:=aZt (P:=P) (w:=W.alloc (lit l)) d (wX k l 0 0);unfold Instr.lookup;simp only[Sem.run_bind,run_underlying e,Result.andThen_ok,h1,Sem.run_pure,h2,h]
 cases dW k l 0 with
 | none=>simp[f,Result.andThen]
 | some p=>simp[Sem.run_pure]
theorem Blk.alloc{w:Cj}{g:Nat}{e:Cz}{cs:Array Cq}(h:Blk w g e cs)(o:Obj):Blk (w.alloc o) g e cs:=h.below ((AJ w.heap.size _).alloc (Aq _) _) h.lt
theorem Blk.newAt(w:Cj){N:Nat}(e:Cz)(cs:Array Cq)(h:w.heap.size=N):Blk (w.alloc (.cells cs e)) N e cs:=by
 subst h;exact Blk.new w e cs
theorem Blk.drew{w:Cj}{g:Nat}{e:Cz}{cs:Array Cq}(h:Blk w g e cs):Blk w.drew g e cs:=h
theorem Blk.drewN{w:Cj}{g:Nat}{e:Cz}{cs:Array Cq}(h:Blk w g e cs)(n:Nat):Blk (w.drewN n) g e cs:=h
theorem Blk.own{cs:Array Cq}(h:Blk w g e cs)(a:base<=g)(hn:cs.size=n)(b:n<=maxLen):w.ownsRow base e 1 (.slice (some ⟨g,0,none⟩) n n) n cs.toList:=by
 subst hn;exact⟨by simp,.inr ⟨g,cs.size,cs,rfl,a,h,Aq _,b,by simp,by rw[Ab];exact Af (by simp)⟩⟩
theorem Blk.cWx{cs:Array Cq}(h:Blk w g e cs)(hn:cs.size=n):Src w (some ⟨g,0,none⟩) n cs.toList:=by
 have:=h.src n (by omega)
 rwa[Af (by simp;omega)]at this
theorem aQx{a:List Cq}(h:w.ownsRow base e size v n a)(o:Obj):(w.alloc o).ownsRow base e size v n a:=cK h ((AJ w.heap.size _).alloc (Aq _) _) (Aq _)
theorem xW{P:Ck}{ops:Array Oper}{rest:List Oper}{o:Oper}{a:Act}{Q:Exit->Act->Cj->Prop}(w:Cj)(E:o.guard=none)(s x:Operand)(t:Cz)
  (F:o.op = .call { callee:=.builtin .append,args:=#[s,x],argTypes:=#[t,t] })
  (base:Nat) (e:Cz) (z:Cq) (size bytes:Nat) (k:P.underlying t=some (.slice e)) (hinfo:(P.info? e).map (fun i=>(i.zero,i.size,i.bytes))=some (some z,size,bytes)) (G:z.cells.size=size) (C:0<size)
  (v:Cq) (n:Nat) (f:List Cq) (hs:a.eval s=v) (l:w.ownsRow base e size v n f)
  (A:Option Addr) (m c:Nat) (news:List Cq) (H:a.eval x = .slice A m c) (d:Src w A (m*size) news) (h1:∀ u∈news,u.oneCell'=true)
  (I:n+m<=maxLen) (hbytes:(n+m)*bytes<=140737488355328) (hbase:base<=w.heap.size)
  (h:∀ v' w',w'.ownsRow base e size v' (n+m) (f++news)->w.grownBy w' v.ownBlock->(v'.ownBlock=v.ownBlock\/v'.ownBlock=some w.heap.size)->(v' = .slice none 0 0↔v = .slice none 0 0/\m=0)->wpList P ops Q rest (a.put o.dst v') w'):wpList P ops Q (o :: rest) a w:=by
 obtain⟨i,hi,J,L,M⟩:=info_parts hinfo
 have key:∃ v' w',(Builtin.append_ #[t,t] o.type #[v,.slice A m c]).run P w = .ok v' w'/\w'.ownsRow base e size v' (n+m) (f++news)/\w.grownBy w' v.ownBlock/\(v'.ownBlock=v.ownBlock\/v'.ownBlock=some w.heap.size)/\(v' = .slice none 0 0↔v = .slice none 0 0/\m=0):=by
  rcases A with _ | N
  ·have O:m=0:=by
    rcases AW m with p | p
    ·exact p
    ·obtain⟨b,o,R,_⟩:=d.2 (Bh p C);cases R
   subst O;have S:news = []:=Ak (by rw[d.1,Ag]);subst S;refine⟨v,w,?_,by simpa using l,World.grownBy.refl w _,.inl rfl,by simp⟩;rcases l.2 with⟨rfl,rfl⟩ | ⟨g,cap,cur,rfl,_,_,T,_⟩
   ·simp[Builtin.append_,run_underlying k,sizeOf,typeInfo,hi,Builtin.lenOf,Builtin.firstCells]
   ·simp[Builtin.append_,run_underlying k,sizeOf,typeInfo,hi,Builtin.lenOf,Builtin.firstCells,T,storeCells]
  ·obtain⟨v',w',q,h2,r,y,B⟩:=run_append_own_at (P:=P) w base t o.type e i z size bytes k hi J L M G C v n f l N m c news d.1
    (fun j u D=>by
     have hj:=(List.getElem?_eq_some_iff.1 D).1;obtain⟨b,o,e',_,hc⟩:=d.2 (by have:=d.1;omega);injection e' with e';subst e';rw[AV]
     exact hc j u D) h1 I hbytes hbase
   exact⟨v',w',q,h2,r,B,y⟩
 obtain⟨v',w',q,h2,r,y,B⟩:=key;refine wpList_plain E fun K U=>?_;unfold Oper.wp execOp;simp only[F,resolve,invoke,builtin,Sem.run_bind,Sem.run_pure,Result.andThen_ok,By,Az,Ae,hs,H,q];exact U _ _ (h v' w' h2 r y B)
theorem Blk.grown{cs:Array Cq}{r:Option Nat}(h:Blk w g e cs)(hg:w.grownBy w' r)(a:r≠some g):Blk w' g e cs:=by
 unfold Blk;rw[hg.block g h.lt (fun e=>a e.symm)];exact h
theorem tV{r:Option Nat}(h:Cx B a w)(hg:w.grownBy w' r)(hs:B<=w.heap.size)(b:∀ k,r=some k->B<=k):Cx B a w':=h.grown hg hs b
abbrev KV:=List (Int×Cq)
def aZu:KV->Int->Cq->KV
 | [],k,v=>[(k,v)]
 | (a,x) :: r,k,v=>if k=a then(a,v) :: r else(a,x) :: aZu r k v
def EM(a:List MapEntry)(m:KV):Prop:=a.map (fun e=>(e.key,e.val))=m.map fun p=>(Bx .i64 p.1,p.2)
theorem EM.cons{e:MapEntry}{a:List MapEntry}{m:KV}(h:EM (e :: a) m):∃ k v r,m=(k,v) :: r/\e.key = .int .i64 k/\e.val=v/\EM a r:=by
 cases m with
 | nil=>simp[EM]at h
 | cons p r=>
  obtain⟨k,v⟩:=p;simp only[EM,Az,List.cons.injEq,Prod.mk.injEq]at h;exact⟨k,v,r,rfl,h.1.1,h.1.2,h.2⟩
theorem EM.mk{e:MapEntry}{a:List MapEntry}{k:Int}{v:Cq}{r:KV}(h1:e.key = .int .i64 k)(h2:e.val=v)(h:EM a r):EM (e :: a) ((k,v) :: r):=by
 simp only[EM,Az,List.cons.injEq,Prod.mk.injEq]at h ⊢;exact⟨⟨h1,h2⟩,h⟩
theorem bXg(k:Int):∀ (b:List MapEntry) (m:KV) (j:Nat),EM b m->Instr.findNow (.int .i64) (.int .i64 k) b j=some (dW k m j)
 | [],m,j,h=>by
  cases m with
  | nil=>rfl
  | cons p r=>simp[EM]at h
 | e :: b,m,j,h=>by
  obtain⟨a,v,r,rfl,h1,h2,d⟩:=h.cons;simp only[Instr.findNow,h1,Instr.sameNow,if_true,dW];by_cases c:k=a
  ·simp[c,h2]
  ·have:(k == a)=false:=(by simp[c]);rw[this];simp only[if_neg c];exact bXg k b r (j+1) d
theorem aVa{k:Int}:∀ {m:KV} {j:Nat},dW k m j=none->∀ v,aZu m k v=m ++ [(k,v)]
 | [],_,_,v=>rfl
 | (a,x) :: r,j,h,v=>by
  simp only[dW]at h;by_cases b:k=a
  ·simp[b]at h
  ·simp only[if_neg b]at h;simp only[aZu,if_neg b,BZ,aVa h v]
theorem bJp{k:Int}{v:Cq}:∀ {b:List MapEntry} {m:KV} {j i:Nat} {x:Cq},EM b m->dW k m j=some (i,x) ->
  j<=i/\(∃ e,b[i - j]? = some e/\e.key = .int .i64 k)/\EM (b.modify (i - j) fun e=>{ e with key:=.int .i64 k,val:=v }) (aZu m k v)
 | [],m,j,i,x,h,hf=>by
  cases m with
  | nil=>simp[dW]at hf
  | cons p r=>simp[EM]at h
 | e :: b,m,j,i,x,h,hf=>by
  obtain⟨a,y,r,rfl,h1,h2,d⟩:=h.cons;simp only[dW]at hf;by_cases c:k=a
  ·subst c;simp only[if_true,Option.some.injEq,Prod.mk.injEq]at hf;obtain⟨rfl,rfl⟩:=hf;refine⟨Aq _,⟨e,by simp,h1⟩,?_⟩;simp only[Bw,aZu,if_true];exact EM.mk rfl rfl d
  ·simp only[if_neg c]at hf;obtain⟨k1,⟨e',f,g⟩,l⟩:=bJp (v:=v) d hf;have hi:i - j=(i - (j+1))+1:=(by omega);refine⟨by omega,⟨e',by rw[hi];simpa using f,g⟩,?_⟩;rw[hi];simp only[aZu,if_neg c];exact EM.mk h1 h2 l
def IM(w:Cj)(b:Nat)(m:KV):Prop:=
 ∃ a clock,w.heap[b]? = some (.map a clock)/\EM a.toList m/\(a.toList.map (·.born)).Nodup/\∀ e∈a.toList,e.born<clock
theorem IM.lt{m:KV}(h:IM w b m):b<w.heap.size:=by
 obtain⟨es,clock,a,_⟩:=h;exact(Array.getElem?_eq_some_iff.1 a).1
theorem aVb(o:Obj)(_:b<w.heap.size):w.grownBy { w with heap:=w.heap.setIfInBounds b o } (some b):=
 ⟨rfl,rfl,rfl,by simp,fun k hk a=>by
  simp only[AZ]
  rw[if_neg (fun e=>a (by rw[e]))]⟩
theorem IM.put(c:b<w.heap.size)(a:Array MapEntry)(clock:Nat){m:KV}(h1:EM a.toList m)(h2:(a.toList.map (·.born)).Nodup)(d:∀ e∈a.toList,e.born<clock):IM { w with heap:=w.heap.setIfInBounds b (.map a clock) } b m:=
 ⟨a,clock,by simp[c],h1,h2,d⟩
theorem cKk{P:Ck}(w:Cj)(k:Int):(Instr.keyThatStays (.int .i64 k) (.int .i64 k)).run P w = .ok (.int .i64 k) w:=by
 simp[Instr.keyThatStays,Instr.sameBits]
theorem IM.update{P:Ck}{m:KV}(h:IM w b m){n A:Cz}(B:P.underlying t=some (.map n A))(s:P.underlying n=some (.int .i64))(k:Int)(v:Cq):
  ∃ w',(Instr.mapUpdate t (.map (some b)) (.int .i64 k) v).run P w = .ok () w'/\IM w' b (aZu m k v)/\w.grownBy w' (some b)/\w'.heap.size=w.heap.size:=by
 have l:=h.lt;obtain⟨d,clock,o,he,hn,hc⟩:=h;have h1:=aKl (P:=P) o;have h2:=fun c=>wZ (P:=P) w c 9999 n .i64 k s;have C:=aZt (P:=P) (w:=w) s (bXg k d.toList m 0 he);unfold Instr.mapUpdate;simp only[Sem.run_bind,run_underlying B,Result.andThen_ok,h1,h2,C]
 cases hf:dW k m 0 with
 | none=>
  have q:=aKm (P:=P) (.map (d.push { key:=.int .i64 k,val:=v,born:=clock }) (clock+1)) o;refine⟨_,q,IM.put l _ _ ?_ ?_ ?_,aVb _ l,by simp⟩
  ·rw[aVa hf v];simp only[EM,Ac,BY,Az,Ae]at he ⊢;rw[he]
  ·simp only[Ac,BY,Az,Ae];rw[List.nodup_append];refine⟨hn,by simp,fun a ha c D=>?_⟩;obtain⟨e,g,rfl⟩:=List.mem_map.1 ha;simp at D;have:=hc e g;omega
  ·intro e g;simp only[Ac,Ai,List.mem_singleton]at g;rcases g with h | h
   ·have:=hc e h;omega
   ·subst h;simp
 | some p=>
  obtain⟨i,x⟩:=p;obtain⟨k1,⟨E,u,F⟩,y⟩:=bJp (v:=v) he hf;simp only[Nat.sub_zero]at u y
  have G:((d[i]?).map (·.key)).getD (.int .i64 k) = .int .i64 k:=by
   have:d[i]? = some E:=(by simpa using u);rw[this]
   simpa using F
  have q:=aKm (P:=P) (.map (d.modify i fun e=>{ e with key:=.int .i64 k,val:=v }) clock) o
  have H:(Instr.keyThatStays (((d[i]?).map (·.key)).getD (.int .i64 k)) (.int .i64 k) >>= fun key=>setObj b (.map (d.modify i fun e=>{ e with key,val:=v }) clock)).run P w = .ok () { w with heap:=w.heap.setIfInBounds b (.map (d.modify i fun e=>{ e with key:=.int .i64 k,val:=v }) clock) }:=by
   rw[G,Sem.run_bind,cKk,Result.andThen_ok,q]
  refine⟨_,H,IM.put l _ _ ?_ ?_ ?_,aVb _ l,by simp⟩
  ·simpa[AK]using y
  ·have e:((d.modify i fun e=>{ e with key:=.int .i64 k,val:=v }).toList.map (·.born))=d.toList.map (·.born):=by
    rw[AK];apply Ad;intro j;simp only[Aw,Bj];by_cases f:i=j
    ·subst f;cases d.toList[i]? <;> simp
    ·simp[f]
   rw[e];exact hn
  ·intro e g;rw[AK]at g;obtain⟨j,f⟩:=List.mem_iff_getElem?.1 g;rw[Bj]at f
   cases r:d.toList[j]? with
   | none=>rw[r]at f;simp at f
   | some I=>
    rw[r]at f;have:=hc I (List.mem_of_getElem? r);by_cases z:i=j
    ·simp[z]at f;rw[<-f];exact this
    ·simp[z]at f;rw[<-f];exact this
section
open Go.ChangeMaps
end
theorem iV{u:Cq}{b:List Cq}(h:w.ownsRow p e size v n b)(hg:v.ownBlock≠some g):(w.setCell ⟨g,k,none⟩ u).ownsRow p e size v n b:=by
 refine⟨h.1,?_⟩;rcases h.2 with h2 | ⟨a,cap,cur,rfl,h2,c,r⟩
 ·exact .inl h2
 ·refine .inr ⟨a,cap,cur,rfl,h2,?_,r⟩;have d:a≠g:=fun e=>hg (by simp[Value.ownBlock,e]);rw[heap_setCell_other w ⟨g,k,none⟩ a u d];exact c
theorem iW{G:Nat}{cs:Array Cq}{u:Cq}(h:Blk w G e cs)(hg:G≠g):Blk (w.setCell ⟨g,k,none⟩ u) G e cs:=by
 unfold Blk;rw[heap_setCell_other w ⟨g,k,none⟩ G u hg];exact h
section
open Go.Sort
def i64s(l:List Int):List Cq:=l.map (Bx .i64)
theorem bWy(l:List Int):(i64s l).length=l.length:=by simp[i64s]
theorem cXn{l:List Int}(h:k<l.length):(i64s l)[k]'(by simpa[i64s]using h) = .int .i64 l[k]:=by simp[i64s]
theorem aVc(l:List Int)(n:Nat):(i64s l).take n=i64s (l.take n):=by simp[i64s,List.map_take]
theorem bWz(l:List Int):∀ u∈i64s l,u.oneCell'=true:=by
 intro u a;obtain⟨_,_,rfl⟩:=List.mem_map.1 a;rfl
theorem Src.setCell{w:Cj}{A:Option Addr}{n:Nat}{c:List Cq}(h:Src w A n c){p:Addr}(v:Cq)(hp:∀ a,A=some a->a.block≠p.block):Src (w.setCell p v) A n c:=by
 refine⟨h.1,fun hn=>?_⟩;obtain⟨b,o,e,d,hc⟩:=h.2 hn;refine⟨b,o,e,by simpa using d,fun j u f=>?_⟩;rw[<-hc j u f];have:=heap_setCell_other w p b v (hp _ e);unfold World.cell?;rw[this]
theorem bYa{a:List Cq}(h:w.ownsRow base e size (.slice A n c) n a)(b:k<=n)(d:A≠none):w.ownsRow base e size (.slice A k c) k (a.take (k*size)):=by
 rcases h.2 with⟨h1,_⟩ | ⟨g,cap,cur,h1,f,hg,hn,i,j,l⟩
 ·injection h1 with h1;exact absurd h1 d
 ·injection h1 with h1 h2 m;subst h1;subst m;refine⟨?_,.inr ⟨g,c,cur,rfl,f,hg,by omega,i,j,?_⟩⟩
  ·rw[BQ,h.1];exact Ba (Bq _ b)
  ·rw[<-l,List.take_take,Ba (Bq _ b)]
end
def Ints(w:Cj)(v:Cq)(l:List Int):Prop:=∃ A c,v = .slice A l.length c/\Src w A l.length (i64s l)/\l.length<=c/\(A=none->c=0)/\(l.length*8<=140737488351232/\c<=9223372036854775807)
def uQ(l:List Bool):List Cq:=l.map Value.bool
theorem bJq{l:List Bool}(h:k<l.length):(uQ l)[k]'(by simpa[uQ]using h) = .bool l[k]:=by simp[uQ]
def Bools(w:Cj)(v:Cq)(l:List Bool):Prop:=∃ A c,v = .slice A l.length c/\Src w A l.length (uQ l)/\l.length<=c/\(A=none->c=0)/\(l.length<=140737488351232/\c<=9223372036854775807)
def Structs{α:Type}(k:Nat)(R:Cj->List Cq->α->Prop)(w:Cj)(v:Cq)(l:List α):Prop:=
 ∃ (A:Option Addr) (c:Nat) (vs:List (List Cq)),v = .slice A l.length c/\l.length<=c/\(A=none->c=0)/\(l.length<=140737488351232/\c<=9223372036854775807)/\vs.length=l.length/\(∀ r∈vs,r.length=k)/\(∀ (i:Nat) (r:List Cq) (x:α),vs[i]? = some r->l[i]? = some x->R w r x)/\Src w A (l.length*k) vs.flatten
theorem rK{k:Nat}:∀ {vs:List (List Cq)} {i j:Nat} {r:List Cq} {u:Cq},(∀ r∈vs,r.length=k)->vs[i]? = some r->r[j]? = some u->vs.flatten[i*k+j]? = some u
 | [],i,j,r,u,_,h,_=>by simp at h
 | s :: vs,0,j,r,u,b,h,a=>by
  simp at h;subst h;simp only[AQ,Ag,Bf];rw[Ay (List.getElem?_eq_some_iff.1 a).1];exact a
 | s :: vs,i+1,j,r,u,b,h,a=>by
  simp at h;have hs:s.length=k:=b s (by simp);have c:=rK (vs:=vs) (fun r d=>b r (by simp[d])) h a;rw[AQ,Ax (by rw[hs,BV];omega),hs];rw[show(i+1)*k+j - k=i*k+j by rw[BV];omega];exact c
theorem Ints.below{w w':Cj}{B:Nat}{v:Cq}{l:List Int}(h:Ints w v l)(a:Cx B w w')(b:w.heap.size<=B):Ints w' v l:=by
 obtain⟨A,c,e,hs,r⟩:=h;exact⟨A,c,e,hs.below a b,r⟩
theorem Bools.below{w w':Cj}{B:Nat}{v:Cq}{l:List Bool}(h:Bools w v l)(a:Cx B w w')(b:w.heap.size<=B):Bools w' v l:=by
 obtain⟨A,c,e,hs,r⟩:=h;exact⟨A,c,e,hs.below a b,r⟩
theorem Structs.below{α:Type}{k:Nat}{R:Cj->List Cq->α->Prop}{w w':Cj}{B:Nat}{v:Cq}{l:List α}(h:Structs k R w v l)(a:Cx B w w')(b:w.heap.size<=B)
  (d:∀ r x,R w r x->R w' r x):Structs k R w' v l:=by
 obtain⟨A,c,vs,e,h1,h2,f,g,j,m,hs⟩:=h;exact⟨A,c,vs,e,h1,h2,f,g,j,fun i r x q1 n=>d r x (m i r x q1 n),hs.below a b⟩
theorem Structs.at{α:Type}{R:Cj->List Cq->α->Prop}{l:List α}(h:Structs k R w v l)(g:0<k){i:Nat}{x:α}(a:l[i]? = some x):
  ∃ b o c r,v = .slice (some ⟨b,o,none⟩) l.length c/\b<w.heap.size/\r.length=k/\R w r x/\∀ j u,r[j]? = some u->w.cell? ⟨b,o+(i*k+j),none⟩=some u:=by
 obtain⟨A,c,vs,e,h1,h2,h3,h4,d,m,hs⟩:=h;have hi:i<l.length:=(List.getElem?_eq_some_iff.1 a).1;obtain⟨b,o,rfl,n,hc⟩:=hs.2 (Bh (by omega) g);have f:vs[i]? = some (vs[i]'(by omega)):=Aj (by omega);exact⟨b,o,c,_,e,n,d _ (BJ _),m i _ x f a,fun j u p=>hc _ u (rK d f p)⟩
theorem Structs.len{α:Type}{R:Cj->List Cq->α->Prop}{l:List α}(h:Structs k R w v l):∃ A c,v = .slice A l.length c/\l.length<=c/\l.length<=140737488351232/\c<=9223372036854775807:=by
 obtain⟨A,c,vs,e,h1,h2,a,_⟩:=h;exact⟨A,c,e,h1,a⟩
theorem Ints.nil(w:Cj):Ints w (.slice none 0 0) []:=⟨none,0,rfl,Src.nil _ _,Aq _,fun _=>rfl,by simp⟩
structure SigD where
 inn:List Int
 out:List Int
structure EnvD where
 sigs:List SigD
 imports:Int
 globals:List Int
 muts:List Bool
 mem:Bool
structure CodeD where
 op:Int
 n:Nat
 args:List Int
 outs:List Int
 to:List Int
def CodeD.ok(c:CodeD):Prop:=c.n<18446744073709551616 /\ -9223372036854775808<=c.op/\c.op<=9223372036854775807
structure RowD where
 sig:SigD
 places:Int
 params:List Int
 code:List CodeD
def SigC(w:Cj)(r:List Cq)(s:SigD):Prop:=∃ a b,r = [a,b]/\Ints w a s.inn/\Ints w b s.out
def CodeC(w:Cj)(r:List Cq)(c:CodeD):Prop:=∃ a b d,r = [.int .i64 c.op,.int .u64 (c.n:Int),a,b,d]/\c.ok/\Ints w a c.args/\Ints w b c.outs/\Ints w d c.to
def cVu(w:Cj)(r:List Cq)(e:EnvD):Prop:=∃ a b d,r = [a,.int .i64 e.imports,b,d,.bool e.mem]/\Structs 2 SigC w a e.sigs/\Ints w b e.globals/\Bools w d e.muts
def RowC(w:Cj)(r:List Cq)(x:RowD):Prop:=∃ a b p d,r = [a,b,.int .i64 x.places,p,d]/\Ints w a x.sig.inn/\Ints w b x.sig.out/\Ints w p x.params/\Structs 5 CodeC w d x.code
theorem SigC.below{w w':Cj}{B:Nat}{r:List Cq}{s:SigD}(h:SigC w r s)(c:Cx B w w')(d:w.heap.size<=B):SigC w' r s:=by
 obtain⟨a,b,e,h1,h2⟩:=h;exact⟨a,b,e,h1.below c d,h2.below c d⟩
theorem CodeC.below{w w':Cj}{B:Nat}{r:List Cq}{c:CodeD}(h:CodeC w r c)(f:Cx B w w')(g:w.heap.size<=B):CodeC w' r c:=by
 obtain⟨a,b,d,e,i,h1,h2,j⟩:=h;exact⟨a,b,d,e,i,h1.below f g,h2.below f g,j.below f g⟩
theorem RowC.below{w w':Cj}{B:Nat}{r:List Cq}{x:RowD}(h:RowC w r x)(c:Cx B w w')(e:w.heap.size<=B):RowC w' r x:=by
 obtain⟨a,b,p,d,e',h1,h2,f,g⟩:=h;exact⟨a,b,p,d,e',h1.below c e,h2.below c e,f.below c e,g.below c e (fun r x q=>q.below c e)⟩
section
open Go.ChangeShapes Go.WideShapes Go.Deep
section
variable {H:Type} {enc:Cz×Cq->H} {P:Ck} {w:Cj}
def aQb(P:Ck)(t:Cz)(d:DataW H):Prop:=∀ n∈d.weights P t,n<=reachBytes
def iY(enc:Cz×Cq->H)(P:Ck)(w:Cj){α:Type}(t:Cz)(R:Cj->List Cq->α->Prop):Prop:=
 ∀ fuel cs x,DataW.trod enc P w 0 (fun _=>true) true fuel t cs=some x->aQb P t x.1->∃ a:α,R w cs a
theorem xY{k:IntKind}(b:P.underlying t=some (.int k)):iY enc P w t (fun _ cs (a:Int)=>cs = [.int k a]/\(Lit.int k a).wf=true):=by
 intro fuel cs x h _;obtain⟨n,e,_,c⟩:=DataW.trod_int b h;exact⟨n,e,c⟩
theorem sW{t:Cz}:∀ {l:List (DataW H)} {d:DataW H},d∈l->∀ n∈d.weights P t,n∈DataW.weightsAll P t l
 | [],d,h,_,_=>by simp at h
 | e :: l,d,h,n,hn=>by
  simp only[DataW.weightsAll,Ai];rcases List.mem_cons.1 h with h | h
  ·subst h;exact .inl hn
  ·exact .inr (sW h n hn)
theorem bJr{a:Addr}{cs:List Cq}(h:w.cells? 0 a k=some cs):cs.length=k/\∀ j,j<k->w.cell? (a.add j)=cs[j]?:=by
 obtain⟨_,h1,h2⟩:=World.cells?_some h;exact⟨h1,h2⟩
theorem aZp{α:Type}{k:Nat}{R:Cj->List Cq->α->Prop}{a:Addr}{m:Nat}(g:0<k)(hc:∀ i,i<m->∃ (cs:List Cq) (x:α),cs.length=k/\(∀ j,j<k->w.cell? (a.add (i*k+j))=cs[j]?)/\R w cs x):
  ∀ len,len<=m->∃ (l:List α) (vs:List (List Cq)),l.length=len/\vs.length=len/\(∀ r∈vs,r.length=k)/\(∀ (i:Nat) (r:List Cq) (x:α),vs[i]? = some r->l[i]? = some x->R w r x)/\Src w (some a) (len*k) vs.flatten
 | 0,_=>⟨[],[],rfl,rfl,by simp,by simp,by rw[Ag];exact Src.nil _ _⟩
 | len+1,h=>by
  obtain⟨l,vs,h1,h2,q,s,n⟩:=aZp g hc len (by omega);obtain⟨cs,x,c1,t,v⟩:=hc len (by omega);obtain⟨aj,x0,d1,z,_⟩:=hc 0 (by omega);have o:=z 0 g;rw[show a.add (0*k+0)=a by simp[Addr.add],Aj (by omega)]at o;obtain⟨hs,A⟩:=aQw o;obtain⟨ab,f,B⟩:=a;have C:B=none:=hs;subst C;have p:vs.flatten.length=len*k:=(by have:=n.1;exact this);refine⟨l ++ [x],vs ++ [cs],by simp[h1],by simp[h2],fun r b=>?_,fun i r y q1 d=>?_,?_⟩
  ·rcases List.mem_append.1 b with b | b
   ·exact q r b
   ·simp at b;rw[b];exact c1
  ·by_cases hi:i<len
   ·rw[Ay (by omega)]at q1 d;exact s i r y q1 d
   ·have D:i=len:=by
     have:=(List.getElem?_eq_some_iff.1 q1).1;simp[h2]at this;omega
    subst D;rw[Ax (by omega),h2,Bw]at q1;rw[Ax (by omega),h1,Bw]at d;simp at q1 d;subst q1;subst d;exact v
  ·refine⟨by simp only[Bz,List.length_append,p,AQ,BK,Bb,c1];rw[BV];omega,fun _=>⟨ab,f,rfl,A,fun j u c=>?_⟩⟩;simp only[Bz,AQ,BK,Bb]at c;by_cases hj:j<len*k
   ·rw[Ay (by omega)]at c;obtain⟨b',o',e,_,E⟩:=n.2 (by omega);injection e with e;injection e with F e2;subst F;subst e2;exact E j u c
   ·rw[Ax (by omega),p]at c;have G:j - len*k<k:=(by have:=(List.getElem?_eq_some_iff.1 c).1;omega);have:=t (j - len*k) G;rw[AV,c,show f+(len*k+(j - len*k))=f+j by omega]at this;exact this
theorem mK{α:Type}{R:Cj->List Cq->α->Prop}(b:P.underlying t=some (.slice e))(p:P.cellsOf e=k)(r:0<k)(s:1<=P.bytesOf e)(u:iY enc P w e R):
  iY enc P w t (fun w cs (l:List α)=>∃ v,cs = [v]/\Structs k R w v l/\∀ A n c,v = .slice A n c->c*P.bytesOf e<=reachBytes):=by
 intro fuel cs x h f;rcases open_slice b h with⟨rfl,_⟩ | ⟨a,len,cap,m,n,D,Pl,rfl,_,z,hm,B,C,hi⟩
 ·exact⟨[],_,rfl,⟨none,0,[],rfl,Aq _,fun _=>rfl,by simp,rfl,by simp,by simp,by rw[List.length_nil,Ag];exact Src.nil _ _⟩,fun A n c e=>by injection e with _ _ e;subst e;simp⟩
 ·have an:m=cap:=(by simpa using B);have hd:x.1=_:=congrArg Prod.fst C
  have E:∀ d,(d∈(Bi len).map D\/d∈(Bi (m - len)).map fun j=>D (len+j))->aQb P e d:=fun d F q hq=>by
   refine f q ?_;rw[hd];simp only[DataW.weights,b,Be,Ai];rcases F with h1 | h1
   ·exact .inr (.inl (sW h1 q hq))
   ·exact .inr (.inr (sW h1 q hq))
  have g:cap*P.bytesOf e<=reachBytes:=by
   refine f _ ?_;rw[hd];simp only[DataW.weights,b,Be,BW,List.length_range]
   left
   rw[show len+(m - len)=cap by omega]
  have ae:cap<=140737488351232:=by have:=Bv (Nat.mul_le_mul_left cap s) g;rw[Ab]at this;exact this
  obtain⟨l,vs,h1,h2,G,H,I⟩:=aZp (w:=w) (R:=R) (a:=a) (m:=m) r (fun i J=>by
   obtain⟨o,q1,K⟩:=hi i J;rw[p]at q1
   obtain⟨y,L⟩:=u n o _ K (E _ (by
    by_cases M:i<len
    ·exact .inl (List.mem_map.2 ⟨i,by simpa using M,rfl⟩)
    ·exact .inr (List.mem_map.2 ⟨i - len,by simp;omega,by show D (len+(i - len))=D i;rw[show len+(i - len)=i by omega]⟩)))
   obtain⟨c1,N⟩:=bJr q1
   exact⟨o,y,c1,fun j O=>by rw[<-N j O,Go.Deep.add_add],L⟩) len (by omega)
  subst h1;exact⟨l,_,rfl,⟨some a,cap,vs,rfl,z,(fun e=>by cases e),⟨by omega,by omega⟩,h2,G,H,I⟩,fun A n c e=>by injection e with _ _ e;subst e;exact g⟩
theorem bXx(d:P.underlying t=some (.slice e))(he:P.underlying e=some (.int .i64))(f:P.cellsOf e=1)(g:P.bytesOf e=8):
  iY enc P w t (fun w cs (l:List Int)=>∃ v,cs = [v]/\Ints w v l):=by
 intro fuel cs x h k;obtain⟨l,v,rfl,⟨A,c,vs,rfl,h1,h2,h3,h4,m,n,b⟩,o⟩:=mK (enc:=enc) (w:=w) d f (by omega) (by omega) (xY he) fuel cs x h k;have a:=o _ _ _ rfl;rw[g]at a;refine⟨l,_,rfl,A,c,rfl,?_,h1,h2,by have p:c*8<=140737488351232:=a;omega,by have p:c*8<=140737488351232:=a;omega⟩
 have q:vs.flatten=i64s l:=by
  apply Ad;intro i;by_cases hi:i<l.length
  ·have hv:vs[i]? = some (vs[i]'(by omega)):=Aj (by omega);have r:=(n i _ _ hv (Aj hi)).1;have:=rK (j:=0) m hv (by rw[r];rfl);rw[Ab,Bg]at this;rw[this];simp[i64s,Aw,Aj hi]
  ·have s:=b.1;rw[Av (by rw[s];omega),Av (by simp[i64s];omega)]
 rw[<-q]
 simpa using b
theorem aJl(c:P.underlying t=some .bool):iY enc P w t (fun _ cs (a:Bool)=>cs = [.bool a]):=by
 intro fuel cs x h _;obtain⟨b,e,_⟩:=DataW.trod_bool c h;exact⟨b,e⟩
theorem bQb(b:P.underlying t=some (.slice e))(he:P.underlying e=some .bool)(d:P.cellsOf e=1)(f:1<=P.bytesOf e):
  iY enc P w t (fun w cs (l:List Bool)=>∃ v,cs = [v]/\Bools w v l):=by
 intro fuel cs x h g;obtain⟨l,v,rfl,⟨A,c,vs,rfl,h1,h2,k,h4,m,n,a⟩,_⟩:=mK (enc:=enc) (w:=w) b d (by omega) f (aJl he) fuel cs x h g;refine⟨l,_,rfl,A,c,rfl,?_,h1,h2,k⟩
 have o:vs.flatten=uQ l:=by
  apply Ad;intro i;by_cases hi:i<l.length
  ·have hv:vs[i]? = some (vs[i]'(by omega)):=Aj (by omega);have p:=n i _ _ hv (Aj hi);have:=rK (j:=0) m hv (by rw[p];rfl);rw[Ab,Bg]at this;rw[this];simp[uQ,Aw,Aj hi]
  ·have q:=a.1;rw[Av (by rw[q];omega),Av (by simp[uQ];omega)]
 rw[<-o]
 simpa using a
theorem bQc{fs:Array Field}{fuel:Nat}{cs:List Cq}{x:DataW H×List MemPlace}(b:P.underlying t=some (.struct fs))(h:DataW.trod enc P w 0 (fun _=>true) true fuel t cs=some x)(c:aQb P t x.1)
  {α:Type} {R:Cj->List Cq->α->Prop} (i:Nat) {f:Field} (hf:fs[i]? = some f) (e:iY enc P w f.type R):cs.length=P.cellsOf t/\∃ a,R w ((cs.drop f.offset).take (P.cellsOf f.type)) a:=by
 obtain⟨g,n,_,k,l,ad,hg⟩:=DataW.trod_struct b h;have hi:i<fs.size:=(Array.getElem?_eq_some_iff.1 hf).1;have h1:=hg i f hf;rw[Aj (by omega)]at h1;refine⟨l,e n _ _ h1 (fun q hq=>c q ?_)⟩;rw[show x.1=_ from congrArg Prod.fst k];simp only[DataW.weights,b];refine DataW.weights_mem_each (j:=i) (t:=f.type) (d:=(g[i]'(by omega)).1) ?_ ?_ q hq
 ·rw[Aw];have:fs.toList[i]? = some f:=(by simpa using hf);rw[this];rfl
 ·rw[Aw,Aj (by omega)];rfl
theorem eZ{fs:Array Field}{fuel:Nat}{cs:List Cq}{x:DataW H×List MemPlace}(b:P.underlying t=some (.struct fs))(h:DataW.trod enc P w 0 (fun _=>true) true fuel t cs=some x)(c:aQb P t x.1)
  {α:Type} {R:Cj->List Cq->α->Prop} (i o k e:Nat) {f:Field} (hf:fs[i]? = some f) (d:iY enc P w e R) (he:f.type=e) (g:f.offset=o) (j:P.cellsOf e=k):∃ a,R w ((cs.drop o).take k) a:=by
 subst he;subst g;subst j;exact(bQc b h c i hf d).2
end
end
theorem aWe(z:Cq)(n:Nat):madeCells #[z] n=(Bd n z).toArray:=by
 apply Array.ext';simp[toList_madeCells_one]
theorem bJs{P:Ck}(t e:Cz)(z:Cq)(bytes:Nat)(b:P.underlying t=some (.slice e))(hinfo:(P.info? e).map (fun i=>(i.zero,i.size,i.bytes))=some (some z,1,bytes))(c:z.cells=#[z])(n:Nat)(hb:bytes*n<=281474976710656)(hm:n<=9223372036854775807):
  ∀ u:Cj,(Instr.makeSlice t (.int .i64 (n:Int)) (.int .i64 (n:Int))).run P u = .ok (.slice (some ⟨u.heap.size,0,none⟩) n n) (u.alloc (.cells (Bd n z).toArray e)):=by
 intro u;obtain⟨a,hi,d,f,g⟩:=info_parts hinfo
 have j:(a.bytes:Int)*(n:Int)<=281474976710656:=by
  rw[g];have h:((bytes*n:Nat):Int)<=281474976710656:=(by omega)
  rwa[Int.natCast_mul]at h
 have h:=run_make (P:=P) u t e a z b hi d .i64 .i64 (n:Int) (n:Int) (by omega) (Int.le_refl _) j (by omega);simp only[Int.toNat_natCast]at h;rw[h,f,Ab,c,aWe]
section
open Go.ChangeMaps
end
def uV:List (Int×Int×Int×Int):=[(69,1,0,127),(70,10,1,127),(80,1,0,126),(81,10,1,126),(103,3,2,127),(106,15,3,127),(121,3,2,126),(124,15,3,126),(167,1,4,126),(172,2,5,127),(192,2,6,127),(194,3,6,126)]
def inG(op:Int)(g:Int×Int×Int×Int):Bool:=decide (g.1<=op) && decide (op - g.1<g.2.1)
def fK(op:Int):Option (Int×Int×Int×Int):=uV.find? (inG op)
def gV(g:Int×Int×Int×Int):Cq:=.agg #[.int .i64 g.1,.int .i64 g.2.1,.int .i64 g.2.2.1,.int .i64 g.2.2.2]
def kK:Array Cq:=(uV.flatMap fun g=>[Bx .i64 g.1,.int .i64 g.2.1,.int .i64 g.2.2.1,.int .i64 g.2.2.2]).toArray
theorem cJc:∀ i,i<12->∃ a b c d,uV[i]? = some (a,b,c,d)/\kK[i*4]? = some (.int .i64 a)/\kK[i*4+1]? = some (.int .i64 b)/\kK[i*4+2]? = some (.int .i64 c)/\kK[i*4+3]? = some (.int .i64 d)/\69<=a/\a<=194/\1<=b/\b<=15:=by
 intro i hi;have h:i=0\/i=1\/i=2\/i=3\/i=4\/i=5\/i=6\/i=7\/i=8\/i=9\/i=10\/i=11:=(by omega);rcases h with rfl | rfl | rfl | rfl | rfl | rfl | rfl | rfl | rfl | rfl | rfl | rfl <;> exact⟨_,_,_,_,rfl,rfl,rfl,rfl,rfl,by decide,by decide,by decide,by decide⟩
theorem bXy{g:Int×Int×Int×Int}(hN:∀ j,j<k->∀ g,uV[j]? = some g->inG op g=false)(hg:uV[k]? = some g)(h:inG op g=true):fK op=some g:=by
 rw[fK,List.find?_eq_some_iff_getElem];obtain⟨a,e⟩:=List.getElem?_eq_some_iff.1 hg;exact⟨h,k,a,e,fun j b=>by simp[hN j b _ (Aj (by omega))]⟩
theorem bXz(hN:∀ j,j<12->∀ g,uV[j]? = some g->inG op g=false):fK op=none:=by
 rw[fK,List.find?_eq_none];intro g hg;obtain⟨j,a,e⟩:=List.mem_iff_getElem.1 hg;simp[hN j (by simpa[uV]using a) g (by rw[<-e];exact Aj a)]
theorem bZa(w:Cj):Calls cZ 85 #[] w fun e w'=>e = .returned (.slice (some ⟨w.heap.size,0,none⟩) 12 12)/\w.alloc (.cells kK 139)=w':=by
 go_in;go_wp2;go_ret;exact⟨rfl,rfl⟩
def cXg(w0:Cj)(G:Nat)(op:Int)(a:Nat)(i:Cq)(wr:Cj):Prop:=
 ∃ k:Nat,k<=12/\i = .int .i64 k/\Hid (∀ j,j<k->∀ g,uV[j]? = some g->inG op g=false)/\Hid (Blk wr G 139 kK)/\Hid (Blk wr a 139 #[.int .i64 0,.int .i64 0,.int .i64 0,.int .i64 0])/\Hid (Cx w0.heap.size w0 wr)
theorem bXh{wr:Cj}{G:Nat}{g:Int×Int×Int×Int}{o:Obj}(h:Hid (∀ j,j<k->∀ g,uV[j]? = some g->inG op g=false))(c:Hid (Blk wr G 139 kK))(d:Hid (Blk wr b 139 #[.int .i64 0,.int .i64 0,.int .i64 0,.int .i64 0]))(f:Hid (Cx w.heap.size w wr))
  (hg:uV[k]? = some g) (hn:inG op g=false) (hk:k<12):cXg w G op b (.int .i64 ((k:Int)+1)) (wr.alloc o)/\13 - (intOf (.int .i64 ((k:Int)+1))).toNat<13 - (intOf (.int .i64 (k:Int))).toNat:=by
 refine⟨⟨k+1,by omega,by simp,cQ (fun j hj x a=>?_),cQ (c.out.below ((AJ wr.heap.size _).alloc (Aq _) _) c.out.lt),cQ (d.out.below ((AJ wr.heap.size _).alloc (Aq _) _) d.out.lt),cQ (f.out.alloc f.out.size _)⟩,by simp[intOf];omega⟩;by_cases e:j=k
 ·subst e;rw[hg]at a;injection a with a;rw[<-a];exact hn
 ·exact h.out j (by omega) x a
def pZ(op:Int):Cq:=match fK op with
 | none=>.tuple #[.agg #[.int .i64 0,.int .i64 0,.int .i64 0,.int .i64 0],.int .i64 0,.bool false]
 | some g=>.tuple #[gV g,.int .i64 (op - g.1),.bool true]
theorem sY(op:Int)(w:Cj)(h1 : -9223372036854775808<=op)(h2:op<=9223372036854775807):Calls cZ 73 #[.int .i64 op] w fun e w'=>e = .returned (pZ op)/\Cx w.heap.size w w':=by
 go_in;go_wp2_with fail;refine(bZa _).mono ?_;rintro e w1 ⟨rfl,rfl⟩;go_wp2_with fail;have u:=cQ (show Cx w.heap.size w ((w.alloc (.cells #[.int .i64 0,.int .i64 0,.int .i64 0,.int .i64 0] 139)).alloc (.cells kK 139))from((AJ _ _).alloc (Aq _) _).alloc (by simp) _)
 have x:=cQ (show Blk ((w.alloc (.cells #[.int .i64 0,.int .i64 0,.int .i64 0,.int .i64 0] 139)).alloc (.cells kK 139)) w.heap.size 139 #[.int .i64 0,.int .i64 0,.int .i64 0,.int .i64 0]from
  (Blk.new w 139 _).below ((AJ (w.heap.size+1) _).alloc (by simp) _) (by omega))
 have y:=cQ (show Blk ((w.alloc (.cells #[.int .i64 0,.int .i64 0,.int .i64 0,.int .i64 0] 139)).alloc (.cells kK 139)) (w.heap.size+1) 139 kK from by
  have:=Blk.new (w.alloc (.cells #[.int .i64 0,.int .i64 0,.int .i64 0,.int .i64 0] 139)) 139 kK
  simpa using this)
 go_loopw [9] (fun i wr=>cXg w (w.heap.size+1) op w.heap.size i wr) (fun i _=>13 - (intOf i).toNat)
 case atStart=>exact⟨0,by omega,rfl,cQ (fun j hj=>by omega),y,x,u⟩
 case round=>
  clear u x y;obtain⟨k,hk,rfl,o,g,f,q⟩:=hrel;by_cases s:k<12
  ·have ah:decide ((k:Int)<12)=true:=(by simp;omega);obtain⟨a,b,c,d,hg,z,A,e2,B,al,an,ao,aq⟩:=cJc k s;have c0:=(g.out.cell (k*4)).trans z;have c1:=(g.out.cell (k*4+1)).trans A;have c2:=(g.out.cell (k*4+2)).trans e2;have c3:=(g.out.cell (k*4+3)).trans B;have t:=cQ hg;have ar:w.heap.size+1<wr.heap.size:=g.out.lt;have C:w.heap.size<wr.heap.size:=(by omega);have h:=f.out.cell 0;have l:=f.out.cell 1;have m:=f.out.cell 2;have n:=f.out.cell 3;simp at h l m n;have D:=frozen_of_row wr w.heap.size 0 _ _ f.out;have E:=frozen_of_row wr w.heap.size 1 _ _ f.out;have F:=frozen_of_row wr w.heap.size 2 _ _ f.out;have G:=frozen_of_row wr w.heap.size 3 _ _ f.out;clear z A e2 B hg;by_cases q1:a<=op
   ·have H:decide (a<=op)=true:=(by simpa using q1);by_cases r:op - a<b
    ·have I:decide (op - a<b)=true:=(by simpa using r);go_wp2_with fail;go_region;go_wp2;refine bodyPost_ret (v:=.tuple #[.agg #[.int .i64 a,.int .i64 b,.int .i64 c,.int .i64 d],.int .i64 (op - a),.bool true]) (by simp[results,results73,go_sem,C,h,l,m,n]) rfl ⟨?_,?_⟩
     ·rw[pZ,bXy o.out t.out (by simp[inG,q1,r])];rfl
     ·exact(((((q.out.setCell (p:=⟨w.heap.size,0,none⟩) (Aq _) _).setCell (p:=⟨w.heap.size,1,none⟩) (Aq _) _).setCell (p:=⟨w.heap.size,2,none⟩) (Aq _) _).setCell (p:=⟨w.heap.size,3,none⟩) (Aq _) _).alloc (by simp;omega) _).drew
    ·have I:decide (op - a<b)=false:=(by simpa using r);go_wp2;exact bXh o g f q t.out (by simp[inG,r]) s
   ·have H:decide (a<=op)=false:=(by simpa using q1);go_wp2;exact bXh o g f q t.out (by simp[inG,q1]) s
  ·obtain rfl:k=12:=(by omega);have h:=f.out.cell 0;have l:=f.out.cell 1;have m:=f.out.cell 2;have n:=f.out.cell 3;simp at h l m n;have D:=frozen_of_row wr w.heap.size 0 _ _ f.out;have E:=frozen_of_row wr w.heap.size 1 _ _ f.out;have F:=frozen_of_row wr w.heap.size 2 _ _ f.out;have G:=frozen_of_row wr w.heap.size 3 _ _ f.out;go_wp2;refine bodyPost_ret (v:=.tuple #[.agg #[.int .i64 0,.int .i64 0,.int .i64 0,.int .i64 0],.int .i64 0,.bool false]) (by simp[results,results73,go_sem,h,l,m,n]) rfl ⟨?_,?_⟩
   ·rw[pZ,bXz o.out]
   ·exact(((q.out.setCell (p:=⟨w.heap.size,0,none⟩) (Aq _) _).setCell (p:=⟨w.heap.size,1,none⟩) (Aq _) _).setCell (p:=⟨w.heap.size,2,none⟩) (Aq _) _).setCell (p:=⟨w.heap.size,3,none⟩) (Aq _) _
def fW(op:Int):List Int:=match fK op with
 | none=>[]
 | some (_,_,c,d)=>if c=1\/c=3 then[d,d]else[d]
def oW(op:Int):Int:=match fK op with
 | none=>0
 | some (_,_,c,d)=>if c=0\/c=1\/c=4 then 127 else if c=5 then 126 else d
def cXh(l:List Int):List Cq:=l.map (Bx .i64)
theorem wJ{a b c d:Int}(h:fK op=some (a,b,c,d)):(c=0\/c=1\/c=2\/c=3\/c=4\/c=5\/c=6)/\(d=126\/d=127)/\69<=a/\a<=op/\op - a<b/\b<=15/\a<=194:=by
 have e:=AY h;have hp:=Bc h;have f:∀ g∈uV,(g.2.2.1=0\/g.2.2.1=1\/g.2.2.1=2\/g.2.2.1=3\/g.2.2.1=4\/g.2.2.1=5\/g.2.2.1=6)/\(g.2.2.2=126\/g.2.2.2=127)/\69<=g.1/\g.2.1<=15/\g.1<=194:=(by decide);obtain⟨h1,h2,i,j,k⟩:=f _ e;simp[inG]at hp;exact⟨h1,h2,i,hp.1,hp.2,j,k⟩
def b01(b:Bool):Int:=if b then 1 else 0
def kJ(t:Int)(n:Nat):Bool:=decide (t=126\/(t=127/\n<4294967296))
theorem aZv:(cZ.info? 3).map (fun i=>(i.zero,i.size,i.bytes))=some (some (.int .i64 0),1,8):=by kernel_rfl
theorem aKn(b:Bool)(w:Cj):Calls cZ 75 #[.bool b] w fun e w'=>e = .returned (.int .u64 (b01 b))/\w=w':=by
 cases b with
 | true=>
  go_in;go_wp2;go_ret;exact⟨rfl,rfl⟩
 | false=>
  go_in;go_wp2;go_ret;exact⟨rfl,rfl⟩
def tQ(k:Int):Bool:=decide (3<=k/\k<=6)
theorem lW(k:Int)(w:Cj):Calls cZ 94 #[.int .i64 k] w fun e w'=>e = .returned (.bool (tQ k))/\w=w':=by
 by_cases h1:3<=k
 ·have b:decide (3<=k)=true:=(by simpa using h1);have a:=cQ (show tQ k=decide (k<=6) by simp[tQ,h1]);clear h1;go_in;go_wp2;go_ret;rw[a.out];exact⟨rfl,rfl⟩
 ·have b:decide (3<=k)=false:=(by simpa using h1);have a:=cQ (show tQ k=false by simp[tQ,h1]);clear h1;go_in;go_wp2;go_ret;rw[a.out];exact⟨rfl,rfl⟩
theorem aZw(t:Int)(n:Nat)(w:Cj)(hn:n<18446744073709551616):Calls cZ 20 #[.int .i64 t,.int .u64 n] w fun e w'=>e = .returned (.bool (kJ t n))/\w=w':=by
 by_cases h2:t=127
 ·have b:(t == 127)=true:=(by simp[h2]);have a:=cQ (show kJ t n=((n:Int) / 4294967296 == 0) by rw[Bool.eq_iff_iff];simp[kJ,h2];omega);clear h2;go_in;go_wp2;go_ret;rw[a.out];exact⟨rfl,rfl⟩
 ·have b:(t == 127)=false:=(by simp[h2]);by_cases h1:t=126
  ·have c:(t == 126)=true:=(by simp[h1]);have a:=cQ (show kJ t n=true by simp[kJ,h1]);clear h1 h2;go_in;go_wp2;go_ret;rw[a.out];exact⟨rfl,rfl⟩
  ·have c:(t == 126)=false:=(by simp[h1]);have a:=cQ (show kJ t n=false by simp[kJ,h1,h2]);clear h1 h2;go_in;go_wp2;go_ret;rw[a.out];exact⟨rfl,rfl⟩
def aXz(op:Int)(w:Cj)(e:Ending)(w':Cj):Prop:=
 ∃ A c,e = .returned (.tuple #[.slice A (fW op).length c,.int .i64 (oW op),.bool (fK op).isSome])/\w'.ownsRow w.heap.size 3 1 (.slice A (fW op).length c) (fW op).length (cXh (fW op))/\Cx w.heap.size w w'
theorem vV(op:Int)(w:Cj)(h1 : -9223372036854775808<=op)(h2:op<=9223372036854775807):Calls cZ 58 #[.int .i64 op] w (aXz op w):=by
 cases hg:fK op with
 | none=>
  have j:=cQ (show pZ op = .tuple #[.agg #[.int .i64 0,.int .i64 0,.int .i64 0,.int .i64 0],.int .i64 0,.bool false] by simp[pZ,hg]);have k:=cQ (show fW op = [] by simp[fW,hg]);have l:=cQ (show oW op=0 by simp[oW,hg]);have m:=cQ (show(fK op).isSome=false by simp[hg]);clear hg;go_in;go_wp2_with fail;refine(sY op _ h1 h2).mono ?_;rintro e i ⟨rfl,h⟩;rw[j.out];have f:=cQ h;clear h;go_wp2;go_ret3;unfold aXz;rw[k.out,l.out,m.out];exact⟨none,0,rfl,World.ownsRow_nil _ _ _ _,f.out.alloc f.out.size _⟩
 | some g=>
  obtain⟨a,b,c,d⟩:=g;have j:=cQ (show pZ op = .tuple #[.agg #[.int .i64 a,.int .i64 b,.int .i64 c,.int .i64 d],.int .i64 (op - a),.bool true] by simp[pZ,hg,gV]);have k:=cQ (show fW op=if c=1\/c=3 then[d,d]else[d] by simp[fW,hg]);have l:=cQ (show oW op=if c=0\/c=1\/c=4 then 127 else if c=5 then 126 else d by simp[oW,hg]);have m:=cQ (show(fK op).isSome=true by simp[hg]);obtain⟨hc,_,_,_,_,_,_⟩:=wJ hg;clear hg;have r:(c=1\/c=3)\/(c=0\/c=2\/c=4\/c=5\/c=6):=(by omega);clear hc;rcases r with hc | hc
  ·rcases hc with rfl | rfl
   all_goals
    go_in;go_wp2_with fail;refine(sY op _ h1 h2).mono ?_;rintro e i ⟨rfl,h⟩;rw[j.out];have f:=cQ h;clear h;go_wp2_with fail;go_region;go_wp2_with (at_builtin;refine rZ _ rfl (.tmp 28) (.tmp 31) 23 rfl (i.heap.size+1) 3 (.int .i64 0) 8 underlying23 aZv rfl (.slice (some ⟨i.heap.size+1,0,none⟩) 1 1) 1 [.int .i64 d] rfl ?_ (some ⟨i.heap.size+1+1,0,none⟩) 1 1 [.int .i64 d] rfl ?_ (cXm _ _) (by unfold maxLen;omega) (by omega) ?_ ?_)
    ·exact Blk.own (n:=1) (cs:=#[.int .i64 d]) (((Blk.newAt _ _ _ (by simp)).alloc _).drew) (Aq _) rfl (by unfold maxLen;omega)
    ·exact Blk.cWx (cs:=#[.int .i64 d]) (Blk.newAt _ _ _ (by simp)).drew rfl
    ·simp
    rintro v w2 o q;have s:=q.cell (p:=⟨i.heap.size,2,none⟩) (by simp);simp at s;have t:=cQ (eQ o (by have:=f.out.size;omega:w.heap.size<=i.heap.size+1));have u:=cQ (show Cx w.heap.size w w2 from((((f.out.alloc f.out.size _).alloc (by have:=f.out.size;simp;omega) _).alloc (by have:=f.out.size;simp;omega) _).drew).trans (q.mono (by have:=f.out.size;omega)));obtain⟨A2,c2,rfl,_⟩:=cJ o;clear o q;go_wp2;go_ret3;unfold aXz;rw[k.out,l.out,m.out];exact⟨_,_,rfl,t.out,u.out⟩
  ·rcases hc with rfl | rfl | rfl | rfl | rfl
   all_goals
    go_in;go_wp2_with fail;refine(sY op _ h1 h2).mono ?_;rintro e i ⟨rfl,h⟩;rw[j.out];have f:=cQ h;clear h;go_wp2_with fail;go_region;go_wp2;go_ret3;unfold aXz;rw[k.out,l.out,m.out];exact⟨_,_,rfl,Blk.own (n:=1) (cs:=#[.int .i64 d]) (Blk.newAt _ _ _ (by simp)).drew (by have:=f.out.size;omega) rfl (by unfold maxLen;omega),((f.out.alloc f.out.size _).alloc (by have:=f.out.size;simp;omega) _).drew⟩
def aWu(k w:Int)(st a:Bool):Cq:=.agg #[.int .i64 k,.int .i64 w,.bool st,.bool a]
def aZa:List (Int×Int×Int×Bool×Bool):=[
 (40,127,4,false,false),
 (41,126,8,false,false),
 (44,127,1,false,true),
 (45,127,1,false,false),
 (46,127,2,false,true),
 (47,127,2,false,false),
 (48,126,1,false,true),
 (49,126,1,false,false),
 (50,126,2,false,true),
 (51,126,2,false,false),
 (52,126,4,false,true),
 (53,126,4,false,false),
 (54,127,4,true,false),
 (55,126,8,true,false),
 (58,127,1,true,false),
 (59,127,2,true,false),
 (60,126,1,true,false),
 (61,126,2,true,false),
 (62,126,4,true,false)]
def gJ:List (Int×Cq):=aZa.map fun r=>(r.1,aWu r.2.1 r.2.2.1 r.2.2.2.1 r.2.2.2.2)
def acc(op:Int):Option (Int×Int×Bool×Bool):=(aZa.find? fun r=>decide (op=r.1)).map (·.2)
theorem aQy(op:Int):∀ (l:List (Int×Int×Int×Bool×Bool)) (j:Nat),
  (dW op (l.map fun r=>(r.1,aWu r.2.1 r.2.2.1 r.2.2.2.1 r.2.2.2.2)) j).map (·.2)=(l.find? fun r=>decide (op=r.1)).map fun r=>aWu r.2.1 r.2.2.1 r.2.2.2.1 r.2.2.2.2
 | [],_=>rfl
 | r :: l,j=>by
  simp only[Az,dW,List.find?_cons];by_cases h:op=r.1
  ·simp[h]
  ·simp only[if_neg h,decide_eq_false h];exact aQy op l (j+1)
theorem bZb(h:acc op=none):dW op gJ 0=none:=by
 have h1:=aQy op aZa 0;unfold acc at h;rw[Ah]at h;rw[h,Option.map_none,Ah]at h1;exact h1
theorem bJt{k:Int}{a:Bool}(h:acc op=some (k,wd,st,a)):∃ j,dW op gJ 0=some (j,aWu k wd st a):=by
 have h1:=aQy op aZa 0;unfold acc at h;rw[AX]at h;obtain⟨r,b,hv⟩:=h;rw[b,Option.map_some,AX]at h1;obtain⟨p,hp,he⟩:=h1;refine⟨p.1,?_⟩;rw[hv]at he;show dW op (aZa.map _) 0=_;rw[hp,<-he]
theorem jX{k:Int}{b:Bool}(h:acc op=some (k,wd,st,b)):(k=127\/k=126)/\(wd=1\/wd=2\/wd=4\/wd=8)/\40<=op/\op<=62:=by
 unfold acc at h;rw[AX]at h;obtain⟨r,a,hv⟩:=h;have c:=AY a;have hp:=Bc a;have d:∀ r∈aZa,(r.2.1=127\/r.2.1=126)/\(r.2.2.1=1\/r.2.2.1=2\/r.2.2.1=4\/r.2.2.1=8)/\40<=r.1/\r.1<=62:=(by decide);have:=d r c;rw[hv]at this;simp at hp;rw[hp];exact this
def fZ(i:Nat):Obj:=lit (gJ.take i)
theorem cVv(W:Cj):(Instr.mapUpdate 131 (.map (some W.heap.size)) (.int .i64 40) (.agg #[.int .i64 127,.int .i64 4,.bool false,.bool false])).run cZ (W.alloc (fZ 0)) = .ok () (W.alloc (fZ 1)):=
 dX W 131 3 129 (gJ.take 0) 40 _ underlying131 underlying3 (by decide +kernel)
theorem cVw(W:Cj):(Instr.mapUpdate 131 (.map (some W.heap.size)) (.int .i64 41) (.agg #[.int .i64 126,.int .i64 8,.bool false,.bool false])).run cZ (W.alloc (fZ 1)) = .ok () (W.alloc (fZ 2)):=
 dX W 131 3 129 (gJ.take 1) 41 _ underlying131 underlying3 (by decide +kernel)
theorem cVx(W:Cj):(Instr.mapUpdate 131 (.map (some W.heap.size)) (.int .i64 44) (.agg #[.int .i64 127,.int .i64 1,.bool false,.bool true])).run cZ (W.alloc (fZ 2)) = .ok () (W.alloc (fZ 3)):=
 dX W 131 3 129 (gJ.take 2) 44 _ underlying131 underlying3 (by decide +kernel)
theorem cVy(W:Cj):(Instr.mapUpdate 131 (.map (some W.heap.size)) (.int .i64 45) (.agg #[.int .i64 127,.int .i64 1,.bool false,.bool false])).run cZ (W.alloc (fZ 3)) = .ok () (W.alloc (fZ 4)):=
 dX W 131 3 129 (gJ.take 3) 45 _ underlying131 underlying3 (by decide +kernel)
theorem cVz(W:Cj):(Instr.mapUpdate 131 (.map (some W.heap.size)) (.int .i64 46) (.agg #[.int .i64 127,.int .i64 2,.bool false,.bool true])).run cZ (W.alloc (fZ 4)) = .ok () (W.alloc (fZ 5)):=
 dX W 131 3 129 (gJ.take 4) 46 _ underlying131 underlying3 (by decide +kernel)
theorem cWa(W:Cj):(Instr.mapUpdate 131 (.map (some W.heap.size)) (.int .i64 47) (.agg #[.int .i64 127,.int .i64 2,.bool false,.bool false])).run cZ (W.alloc (fZ 5)) = .ok () (W.alloc (fZ 6)):=
 dX W 131 3 129 (gJ.take 5) 47 _ underlying131 underlying3 (by decide +kernel)
theorem cWb(W:Cj):(Instr.mapUpdate 131 (.map (some W.heap.size)) (.int .i64 48) (.agg #[.int .i64 126,.int .i64 1,.bool false,.bool true])).run cZ (W.alloc (fZ 6)) = .ok () (W.alloc (fZ 7)):=
 dX W 131 3 129 (gJ.take 6) 48 _ underlying131 underlying3 (by decide +kernel)
theorem cWc(W:Cj):(Instr.mapUpdate 131 (.map (some W.heap.size)) (.int .i64 49) (.agg #[.int .i64 126,.int .i64 1,.bool false,.bool false])).run cZ (W.alloc (fZ 7)) = .ok () (W.alloc (fZ 8)):=
 dX W 131 3 129 (gJ.take 7) 49 _ underlying131 underlying3 (by decide +kernel)
theorem cWd(W:Cj):(Instr.mapUpdate 131 (.map (some W.heap.size)) (.int .i64 50) (.agg #[.int .i64 126,.int .i64 2,.bool false,.bool true])).run cZ (W.alloc (fZ 8)) = .ok () (W.alloc (fZ 9)):=
 dX W 131 3 129 (gJ.take 8) 50 _ underlying131 underlying3 (by decide +kernel)
theorem cWe(W:Cj):(Instr.mapUpdate 131 (.map (some W.heap.size)) (.int .i64 51) (.agg #[.int .i64 126,.int .i64 2,.bool false,.bool false])).run cZ (W.alloc (fZ 9)) = .ok () (W.alloc (fZ 10)):=
 dX W 131 3 129 (gJ.take 9) 51 _ underlying131 underlying3 (by decide +kernel)
theorem cKl(W:Cj):(Instr.mapUpdate 131 (.map (some W.heap.size)) (.int .i64 52) (.agg #[.int .i64 126,.int .i64 4,.bool false,.bool true])).run cZ (W.alloc (fZ 10)) = .ok () (W.alloc (fZ 11)):=
 dX W 131 3 129 (gJ.take 10) 52 _ underlying131 underlying3 (by decide +kernel)
theorem cKm(W:Cj):(Instr.mapUpdate 131 (.map (some W.heap.size)) (.int .i64 53) (.agg #[.int .i64 126,.int .i64 4,.bool false,.bool false])).run cZ (W.alloc (fZ 11)) = .ok () (W.alloc (fZ 12)):=
 dX W 131 3 129 (gJ.take 11) 53 _ underlying131 underlying3 (by decide +kernel)
theorem cKn(W:Cj):(Instr.mapUpdate 131 (.map (some W.heap.size)) (.int .i64 54) (.agg #[.int .i64 127,.int .i64 4,.bool true,.bool false])).run cZ (W.alloc (fZ 12)) = .ok () (W.alloc (fZ 13)):=
 dX W 131 3 129 (gJ.take 12) 54 _ underlying131 underlying3 (by decide +kernel)
theorem cKo(W:Cj):(Instr.mapUpdate 131 (.map (some W.heap.size)) (.int .i64 55) (.agg #[.int .i64 126,.int .i64 8,.bool true,.bool false])).run cZ (W.alloc (fZ 13)) = .ok () (W.alloc (fZ 14)):=
 dX W 131 3 129 (gJ.take 13) 55 _ underlying131 underlying3 (by decide +kernel)
theorem cKp(W:Cj):(Instr.mapUpdate 131 (.map (some W.heap.size)) (.int .i64 58) (.agg #[.int .i64 127,.int .i64 1,.bool true,.bool false])).run cZ (W.alloc (fZ 14)) = .ok () (W.alloc (fZ 15)):=
 dX W 131 3 129 (gJ.take 14) 58 _ underlying131 underlying3 (by decide +kernel)
theorem cKq(W:Cj):(Instr.mapUpdate 131 (.map (some W.heap.size)) (.int .i64 59) (.agg #[.int .i64 127,.int .i64 2,.bool true,.bool false])).run cZ (W.alloc (fZ 15)) = .ok () (W.alloc (fZ 16)):=
 dX W 131 3 129 (gJ.take 15) 59 _ underlying131 underlying3 (by decide +kernel)
theorem cKr(W:Cj):(Instr.mapUpdate 131 (.map (some W.heap.size)) (.int .i64 60) (.agg #[.int .i64 126,.int .i64 1,.bool true,.bool false])).run cZ (W.alloc (fZ 16)) = .ok () (W.alloc (fZ 17)):=
 dX W 131 3 129 (gJ.take 16) 60 _ underlying131 underlying3 (by decide +kernel)
theorem cKs(W:Cj):(Instr.mapUpdate 131 (.map (some W.heap.size)) (.int .i64 61) (.agg #[.int .i64 126,.int .i64 2,.bool true,.bool false])).run cZ (W.alloc (fZ 17)) = .ok () (W.alloc (fZ 18)):=
 dX W 131 3 129 (gJ.take 17) 61 _ underlying131 underlying3 (by decide +kernel)
theorem cKt(W:Cj):(Instr.mapUpdate 131 (.map (some W.heap.size)) (.int .i64 62) (.agg #[.int .i64 126,.int .i64 4,.bool true,.bool false])).run cZ (W.alloc (fZ 18)) = .ok () (W.alloc (fZ 19)):=
 dX W 131 3 129 (gJ.take 18) 62 _ underlying131 underlying3 (by decide +kernel)
theorem fY(w:Cj):Calls cZ 70 #[] w fun e w'=>e = .returned (.map (some w.heap.size))/\w.alloc (fZ 19)=w':=by
 have aa:∀ (t:Cz) (w:Cj),(Instr.makeMap t none).run cZ w = .ok (.map (some w.heap.size)) (w.alloc (fZ 0)):=fun _ _=>rfl;have i0:=cVv;have i1:=cVw;have i2:=cVx;have i3:=cVy;have i4:=cVz;have i5:=cWa;have i6:=cWb;have i7:=cWc;have i8:=cWd;have i9:=cWe;have ad:=cKl;have ae:=cKm;have i12:=cKn;have af:=cKo;have ag:=cKp;have ah:=cKq;have i16:=cKr;have ai:=cKs;have aj:=cKt;go_in;go_wp2;go_ret;exact⟨rfl,rfl⟩
theorem bXi(w:Cj):(zeroValue 129).run cZ w = .ok (aWu 0 0 false false) w:=by kernel_rfl
theorem aQz(h:acc op=none)(W:Cj):(Instr.lookup 131 (.map (some W.heap.size)) (.int .i64 op) true).run cZ (W.alloc (fZ 19)) = .ok (.tuple #[.agg #[.int .i64 0,.int .i64 0,.bool false,.bool false],.bool false]) (W.alloc (fZ 19)):=by
 have:=gW (P:=cZ) W 131 3 129 _ (gJ.take 19) op underlying131 underlying3 bXi;rw[show gJ.take 19=gJ from rfl,bZb h]at this;exact this
theorem nW{k:Int}{a:Bool}(h:acc op=some (k,wd,st,a))(W:Cj):(Instr.lookup 131 (.map (some W.heap.size)) (.int .i64 op) true).run cZ (W.alloc (fZ 19)) = .ok (.tuple #[.agg #[.int .i64 k,.int .i64 wd,.bool st,.bool a],.bool true]) (W.alloc (fZ 19)):=by
 have:=gW (P:=cZ) W 131 3 129 _ (gJ.take 19) op underlying131 underlying3 bXi;obtain⟨j,b⟩:=bJt h;rw[show gJ.take 19=gJ from rfl,b]at this;exact this
def eJ(op:Int):Cq:=match acc op with
 | some (k,wd,st,_)=>.tuple #[.int .i64 k,.int .i64 wd,.bool st,.bool true]
 | none=>.tuple #[.int .i64 0,.int .i64 0,.bool false,.bool false]
theorem aXa{fn:Func}{t u v x:Tmp}(h:fn.results=#[.tmp t,.tmp u,.tmp v,.tmp x])(tmps:Array Cq)(P:Ck)(w:Cj):
  (results fn tmps).run P w = .ok (.tuple #[tmps.getD t undef,tmps.getD u undef,tmps.getD v undef,tmps.getD x undef]) w:=by simp[results,h]
theorem gY(op:Int)(w:Cj):Calls cZ 53 #[.int .i64 op] w fun e w'=>e = .returned (eJ op)/\Cx w.heap.size w w':=by
 have b:Cx w.heap.size w (w.alloc (fZ 19)):=(AJ _ _).alloc (Aq _) _
 cases h:acc op with
 | none=>
  have a:=cQ (show eJ op = .tuple #[.int .i64 0,.int .i64 0,.bool false,.bool false] by simp[eJ,h]);have c:=aQz h;clear h;go_in;go_wp2_with fail;refine(fY _).mono ?_;rintro e d ⟨rfl,rfl⟩;go_wp2_with fail;go_quiet (fail);go_wp2;refine bodyPost_ret (aXa rfl _ _ _) rfl ⟨?_,?_⟩
  ·rw[a.out];rfl
  ·exact dV (b.alloc (by simp) _) _
 | some r=>
  obtain⟨k,wd,st,sg⟩:=r;have a:=cQ (show eJ op = .tuple #[.int .i64 k,.int .i64 wd,.bool st,.bool true] by simp[eJ,h]);have c:=nW h;clear h;go_in;go_wp2_with fail;refine(fY _).mono ?_;rintro e d ⟨rfl,rfl⟩;go_wp2_with fail;go_quiet (fail);go_wp2;refine bodyPost_ret (aXa rfl _ _ _) rfl ⟨?_,?_⟩
  ·rw[a.out];rfl
  ·exact dV (b.alloc (by simp) _) _
end Go.Proofs.YtabibkpfgmolkaaDoor

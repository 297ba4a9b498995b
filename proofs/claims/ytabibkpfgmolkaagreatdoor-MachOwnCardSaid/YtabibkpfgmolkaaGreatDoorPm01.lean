/- Lemmas for the claim, part 1. Conditions: none. -/
import Derived.BigQuiet
import Derived.Deep.Slices
import Derived.Lib.Hide
import Derived.Sort.Grow
import Derived.Test.YtabibkpfgmolkaaGreatDoorProg
import Derived.WalkLawsBesides
import Derived.WalkSpells
set_option maxRecDepth 100000
set_option maxHeartbeats 16000000
set_option linter.unusedVariables false
set_option linter.unusedSimpArgs false
open Go.Lib renaming hid→fQ
open Go.Proofs.Tryz renaming prog→fZ
open Go.Proofs.Tryz
open Go.RowKit
open Nat renaming le_refl→Aj,eq_zero_or_pos→AY,mul_one→Ac,zero_mul→Ah,mul_le_mul_right→Bx,le_trans→Bw,zero_add→By,sub_self→BJ,mod_eq_of_lt→BK,add_mul→BY,min_eq_left→Bc,add_zero→Bh,mul_pos→Cj
open List renaming getElem?_eq_getElem→Aq,getElem?_append_right→Az,map_cons→Ak,eq_nil_of_length_eq_zero→Av,getElem?_eq_none→Aw,getElem?_map→Ay,getElem?_append_left→AJ,flatten_cons→AX,mem_of_find?_eq_some→Aa,ext_getElem?→Ae,map_nil→Af,take_of_length_le→Ag,mem_append→Bj,getElem?_modify→Bq,flatten_append→Bk,getElem?_take→Bv,map_toArray→BQ,getElem_mem→BX,length_take→BZ,cons_append→BV,flatten_nil→BW,length_map→Ba,map_append→Bb,append_nil→Bd,find?_some→Be,replicate→Bf,mem_cons→Bg,range→Cq
open Go.RowKit.Below renaming refl→Ax
open Go.World renaming ownsRow_nil→AQ,cell?→Bi
open Option renaming map_eq_some_iff→AZ,map_eq_none_iff→Ai
open Array renaming getElem?_setIfInBounds→AK,toList_modify→AV,toList_push→Ad
open Go.Addr renaming add_lit→AW
open UInt8 renaming ofNat→Ab
open Go.Value renaming int→Bz
open Go renaming World→Cx,Value→Cz,Calls→Cv,TypeId→Cw,Program→Cy
open Go.RowKit renaming Below→Ck
namespace Go.Proofs.YtabibkpfgmolkaaGreatDoor
theorem fX {α:Sort _}(a:α):∃ b,a=b:=⟨a,rfl⟩
variable {w w':Cx}{e t:Cw}{op a:Int}{n k b base g size B c p:Nat}{v:Cz}{A:Option Addr}{st:Bool}
def Src(w:Cx)(A:Option Addr)(n:Nat)(a:List Cz):Prop:=
 a.length=n/\(0<n->∃ b o,A=some ⟨b,o,none⟩/\b<w.heap.size/\∀ j u,a[j]? = some u->w.cell? ⟨b,o+j,none⟩=some u)
theorem Src.nil(w:Cx)(A:Option Addr):Src w A 0 []:=⟨rfl,fun h=>absurd h (by omega)⟩
theorem Src.below{a:List Cz}(h:Src w A n a)(c:Ck B w w')(hB:w.heap.size<=B):Src w' A n a:=
 ⟨h.1,fun hn=>by
  obtain⟨b,o,e,d,hc⟩:=h.2 hn
  exact⟨b,o,e,Nat.lt_of_lt_of_le d c.size,fun j u f=>(c.cell (by show b<B;omega)).trans (hc j u f)⟩⟩
theorem Src.at_{o:Nat}{s:Option Nat}{a:List Cz}(h:Src w (some ⟨b,o,s⟩) n a)(c:k<n):
  w.cell? ⟨b,o+k,none⟩=some (a[k]'(by rw[h.1];exact c)):=by
 obtain⟨b',o',e,_,hc⟩:=h.2 (by omega);injection e with e;injection e with d e2;subst d;subst e2;exact hc k _ (Aq (by rw[h.1];exact c))
theorem Src.addr{a:List Cz}(h:Src w A n a)(hn:0<n):∃ b o,A=some ⟨b,o,none⟩/\b<w.heap.size:=by
 obtain⟨b,o,e,c,_⟩:=h.2 hn;exact⟨b,o,e,c⟩
theorem Src.fQd{a:List Cz}(h:w.ownsRow base e 1 (.slice A n c) n a):Src w A n a:=by
 refine⟨by simpa using h.1,fun hn=>?_⟩;rcases h.2 with⟨h1,h2⟩ | ⟨g,cap,cur,h1,_,hg,_,_,_,_⟩
 ·omega
 ·have b:A=some ⟨g,0,none⟩:=(by injection h1);subst b;refine⟨g,0,rfl,(Array.getElem?_eq_some_iff.1 hg).1,fun j u d=>?_⟩;have:=h.cells (g:=g) rfl j u d
  rwa[AW]at this
theorem iW{a:List Cz}(h:w.ownsRow base e size v n a)(b:Ck B w w')(hB:w.heap.size<=B):w'.ownsRow base e size v n a:=by
 refine⟨h.1,?_⟩;rcases h.2 with h2 | ⟨g,cap,cur,h1,h2,hg,r⟩
 ·exact .inl h2
 ·refine .inr ⟨g,cap,cur,h1,h2,?_,r⟩;rw[b.block g (by have:=(Array.getElem?_eq_some_iff.1 hg).1;omega)];exact hg
theorem jQ{a:Nat}{b:List Cz}(h:w.ownsRow base e size v n b)(c:a<=base):w.ownsRow a e size v n b:=by
 refine⟨h.1,?_⟩;rcases h.2 with h2 | ⟨g,cap,cur,h1,h2,r⟩
 ·exact .inl h2
 ·exact .inr ⟨g,cap,cur,h1,Bw c h2,r⟩
theorem fJ{a:List Cz}(h:w.ownsRow base e size v n a):
  ∃ A c,v = .slice A n c/\n<=c:=by
 rcases h.2 with⟨h1,h2⟩ | ⟨g,cap,cur,h1,_,_,b,_⟩
 ·subst h2;exact⟨none,0,h1,Aj _⟩
 ·exact⟨_,_,h1,b⟩
theorem bXb{P:Cy}{ops:Array Oper}{rest:List Oper}{o:Oper}{a:Act}{Q:Exit->Act->Cx->Prop}(w:Cx)(C:o.guard=none)(s x:Operand)(t:Cw)
  (D:o.op = .call { callee:=.builtin .append,args:=#[s,x],argTypes:=#[t,t] })
  (base:Nat) (e:Cw) (z:Cz) (bytes:Nat) (k:P.underlying t=some (.slice e)) (hinfo:(P.info? e).map (fun i=>(i.zero,i.size,i.bytes))=some (some z,1,bytes)) (E:z.cells.size=1)
  (v:Cz) (n:Nat) (f:List Cz) (hs:a.eval s=v) (l:w.ownsRow base e 1 v n f)
  (A:Option Addr) (m c:Nat) (news:List Cz) (F:a.eval x = .slice A m c) (d:Src w A m news) (h1:∀ u∈news,u.oneCell'=true)
  (G:n+m<=maxLen) (hbytes:(n+m)*bytes<=140737488355328) (hbase:base<=w.heap.size)
  (h:∀ v' w',w'.ownsRow base e 1 v' (n+m) (f++news)->w.grownBy w' v.ownBlock->wpList P ops Q rest (a.put o.dst v') w'):wpList P ops Q (o :: rest) a w:=by
 obtain⟨i,hi,H,I,J⟩:=info_parts hinfo
 have key:∃ v' w',(Builtin.append_ #[t,t] o.type #[v,.slice A m c]).run P w = .ok v' w'/\w'.ownsRow base e 1 v' (n+m) (f++news)/\w.grownBy w' v.ownBlock:=by
  rcases A with _ | L
  ·have y:m=0:=by
    rcases AY m with p | p
    ·exact p
    ·obtain⟨b,o,M,_⟩:=d.2 p;cases M
   have N:news = []:=Av (by rw[d.1,y]);subst N;subst y;refine⟨v,w,?_,by simpa using l,World.grownBy.refl w _⟩;rcases l.2 with⟨rfl,rfl⟩ | ⟨g,cap,cur,rfl,_,_,O,_⟩
   ·simp[Builtin.append_,run_underlying k,sizeOf,typeInfo,hi,Builtin.lenOf,Builtin.firstCells]
   ·simp[Builtin.append_,run_underlying k,sizeOf,typeInfo,hi,Builtin.lenOf,Builtin.firstCells,O,storeCells]
  ·obtain⟨v',w',q,h2,r,_⟩:=run_append_own (P:=P) w base t o.type e i z 1 bytes k hi H I J E (by omega) v n f l L m c news (by simpa using d.1)
    (fun j u B=>by
     have hj:=(List.getElem?_eq_some_iff.1 B).1;obtain⟨b,o,e',_,hc⟩:=d.2 (by have:=d.1;omega);injection e' with e';subst e';rw[AW]
     exact hc j u B) h1 G hbytes hbase
   exact⟨v',w',q,h2,r⟩
 obtain⟨v',w',q,h2,r⟩:=key;refine wpList_plain C fun K R=>?_;unfold Oper.wp execOp;simp only[D,resolve,invoke,builtin,Sem.run_bind,Sem.run_pure,Result.andThen_ok,BQ,Ak,Af,hs,F,q];exact R _ _ (h v' w' h2 r)
theorem aJd{a:Cx}{b:List Cz}(h:Ck B a w)(hg:w.grownBy w' v.ownBlock)(c:w.ownsRow base e size v n b)(d:B<=base)(hs:B<=w.heap.size):Ck B a w':=
 h.grown hg hs (fun k f=>Bw d (c.lt k f).1)
def bys(l:List Nat):List Cz:=l.map fun c:Nat=>.int .u8 (c:Int)
theorem aQy(l:List Nat):(bys l).length=l.length:=by simp[bys]
theorem aQh(l:List Nat):∀ u∈bys l,u.oneCell'=true:=by
 intro u a;obtain⟨_,_,rfl⟩:=List.mem_map.1 a;rfl
theorem cXh(a b:List Nat):bys (a++b)=bys a++bys b:=by simp[bys]
theorem cXi{l:List Nat}(h:k<(bys l).length):(bys l)[k] = .int .u8 ((l[k]'(by simpa[bys]using h):Nat):Int):=by simp[bys]
theorem bZp(l:List Nat)(k c:Nat):(bys l).set k (.int .u8 (c:Int))=bys (l.set k c):=by
 unfold bys;rw[List.map_set]
def AllB(l:List Nat):Prop:=∀ c∈l,c<256
theorem AllB.get{l:List Nat}(h:AllB l)(a:k<l.length):l[k]<256:=h _ (BX a)
def bVx(l:List Nat):ByteArray:=⟨(l.map Ab).toArray⟩
theorem bQa(l:List Nat):(bVx l).toList=l.map Ab:=by
 unfold bVx;rw[ByteArray.toList_mk]
theorem aVw:∀ (a b:List Nat),AllB a->AllB b->a.map Ab=b.map Ab->a=b
 | [],[],_,_,_=>rfl
 | [],y :: b,_,_,h=>by simp at h
 | x :: a,[],_,_,h=>by simp at h
 | x :: a,y :: b,ha,d,h=>by
  simp only[Ak,List.cons.injEq]at h;obtain⟨h1,h2⟩:=h;have hx:x<256:=ha x (by simp);have hy:y<256:=d y (by simp);have e:=congrArg UInt8.toNat h1;simp only[UInt8.toNat_ofNat']at e;rw[aVw a b (fun c hc=>ha c (by simp[hc])) (fun c hc=>d c (by simp[hc])) h2];rw[show x=y from by omega]
theorem dYp{a b:List Nat}(ha:AllB a)(c:AllB b):((bVx a).toList == (bVx b).toList)=decide (a=b):=by
 rw[bQa,bQa,Bool.eq_iff_iff];simp only[beq_iff_eq,decide_eq_true_eq];exact⟨aVw a b ha c,fun h=>by rw[h]⟩
theorem bVy{P:Cy}(w:Cx)(src dst e:Cw)(hs:P.underlying src=some (.slice e))(he:P.underlying e=some (.int .u8))(hd:P.underlying dst=some .string)
  (A:Option Addr) (n c:Nat) (l:List Nat) (h:Src w A n (bys l)) (g:AllB l):(convert src dst (.slice A n c)).run P w = .ok (.string (bVx l)) w:=by
 have hn:l.length=n:=(by rw[<-h.1,aQy]);rcases A with _ | i
 ·have d:n=0:=by
   rcases AY n with d | d
   ·exact d
   ·obtain⟨b,o,a,_⟩:=h.2 d;cases a
  have:l = []:=Av (by omega);subst this;rw[run_convert_bytes_nil w src e hs he n c dst hd];rfl
 ·have f:=run_convert_bytes_back (P:=P) w src dst e i c (l.map Ab) hs he hd (fun j m=>by
   have p:j<n:=(by simp at m;omega);obtain⟨b,o,a,_,hc⟩:=h.2 (by omega);injection a with a;subst a;rw[AW,hc j _ (Aq (by rw[h.1];exact p)),cXi];have:=g.get (k:=j) (by omega);simp
   omega)
  rw[Ba,hn]at f;exact f
theorem aWa{x:Addr}(h:w.cell? x=some v):x.spot=none/\x.block<w.heap.size:=by
 unfold Bi at h
 split at h
 ·rename_i a
  split at h
  ·cases h
  ·rename_i hs;exact⟨by simpa using hs,(Array.getElem?_eq_some_iff.1 a).1⟩
 ·cases h
theorem zQ{P:Cy}{ops:Array Oper}{rest:List Oper}{o:Oper}{a:Act}{Q:Exit->Act->Cx->Prop}(w:Cx)(b:o.guard=none)(s x:Operand)(t:Cw)
  (d:o.op = .call { callee:=.builtin .append,args:=#[s,x],argTypes:=#[t,t] })
  (e:Cw) (z:Cz) (bytes:Nat) (f:P.underlying t=some (.slice e)) (hinfo:(P.info? e).map (fun i=>(i.zero,i.size,i.bytes))=some (some z,1,bytes)) (g:z.cells.size=1)
  (hs:a.eval s = .slice none 0 0)
  (A:Option Addr) (m c:Nat) (news:List Cz) (j:a.eval x = .slice A m c) (k:Src w A m news) (h1:∀ u∈news,u.oneCell'=true)
  (ae:m<=maxLen) (hbytes:m*bytes<=140737488355328)
  (h:∀ v' w',w'.ownsRow w.heap.size e 1 v' m news->Ck w.heap.size w w'->wpList P ops Q rest (a.put o.dst v') w'):wpList P ops Q (o :: rest) a w:=
 bXb w b s x t d w.heap.size e z bytes f hinfo g (.slice none 0 0) 0 [] hs (AQ _ _ _ _) A m c news j k h1 (by omega) (by rw[By];exact hbytes) (Aj _) fun v' w' h2 l=>
  h v' w' (by simpa using h2) (aJd (Ax _ _) l (AQ w w.heap.size e 1) (Aj _) (Aj _))
theorem aXh{P:Cy}{ops:Array Oper}{rest:List Oper}{o:Oper}{a:Act}{Q:Exit->Act->Cx->Prop}(w:Cx)(f:o.guard=none)(s x:Operand)(t:Cw)
  (g:o.op = .call { callee:=.builtin .append,args:=#[s,x],argTypes:=#[t,t] })
  (base:Nat) (e:Cw) (z:Cz) (bytes:Nat) (j:P.underlying t=some (.slice e)) (hinfo:(P.info? e).map (fun i=>(i.zero,i.size,i.bytes))=some (some z,1,bytes)) (k:z.cells.size=1)
  (v:Cz) (n:Nat) (b:List Cz) (hs:a.eval s=v) (d:w.ownsRow base e 1 v n b)
  (A:Option Addr) (m c:Nat) (news:List Cz) (l:a.eval x = .slice A m c) (p:Src w A m news) (h1:∀ u∈news,u.oneCell'=true)
  (q:n+m<=maxLen) (hbytes:(n+m)*bytes<=140737488355328) (hbase:base<=w.heap.size)
  (h:∀ v' w',w'.ownsRow base e 1 v' (n+m) (b++news)->Ck base w w'->wpList P ops Q rest (a.put o.dst v') w'):wpList P ops Q (o :: rest) a w:=
 bXb w f s x t g base e z bytes j hinfo k v n b hs d A m c news l p h1 q hbytes hbase fun v' w' h2 r=>
  h v' w' h2 (aJd (Ax _ _) r d (Aj _) hbase)
def Blk(w:Cx)(g:Nat)(e:Cw)(cs:Array Cz):Prop:=w.heap[g]? = some (.cells cs e (0,0))
theorem Blk.lt{cs:Array Cz}(h:Blk w g e cs):g<w.heap.size:=(Array.getElem?_eq_some_iff.1 h).1
theorem Blk.new(w:Cx)(e:Cw)(cs:Array Cz):Blk (w.alloc (.cells cs e)) w.heap.size e cs:=heap_alloc_new w _
theorem Blk.below{cs:Array Cz}(h:Blk w g e cs)(a:Ck B w w')(b:g<B):Blk w' g e cs:=(a.block g b).trans h
theorem Blk.cell{w:Cx}{g:Nat}{e:Cw}{cs:Array Cz}(h:Blk w g e cs)(i:Nat):w.cell? ⟨g,i,none⟩=cs[i]?:=cell_of_row w g i cs e (0,0) h
theorem Blk.src{cs:Array Cz}(h:Blk w g e cs)(n:Nat)(hn:n<=cs.size):Src w (some ⟨g,0,none⟩) n (cs.toList.take n):=by
 refine⟨by simp;omega,fun _=>⟨g,0,rfl,h.lt,fun j u a=>?_⟩⟩;rw[By,h.cell];rw[Bv]at a
 split at a
 ·simpa using a
 ·cases a
theorem cZd{W a:Cx}(c:Ck W.heap.size W a):(∀ b o,b<W.heap.size->a.cell? ⟨b,o,none⟩=W.cell? ⟨b,o,none⟩)/\(∀ b o,b<W.heap.size->a.frozen? ⟨b,o,none⟩=W.frozen? ⟨b,o,none⟩):=
 ⟨fun b _ h=>c.cell (p:=⟨b,_,none⟩) h,fun b _ h=>c.frozen (p:=⟨b,_,none⟩) h⟩
theorem fV{a:Cx}(h:Ck B a w)(n:Nat):Ck B a (w.drewN n):=⟨h.os,h.tape,h.output,h.size,h.block⟩
theorem dYq(k:IntKind)(x:Int):∀ u ∈ [Bz k x],u.oneCell'=true:=by
 intro u a;obtain rfl:=List.mem_singleton.1 a;rfl
theorem lQ{a:List Cz}(h:w.ownsRow p e 1 v n a)(hn:1<=n):∃ g c,v = .slice (some ⟨g,0,none⟩) n c/\g<w.heap.size/\p<=g/\n<=c:=by
 rcases h.2 with⟨_,h⟩ | ⟨g',aa,cur,rfl,h1,h2,b,r⟩
 ·omega
 ·exact⟨_,_,rfl,(Array.getElem?_eq_some_iff.1 h2).1,h1,b⟩
theorem aVe{a:Nat}{d:List Cz}(h:w.ownsRow p e 1 (.slice (some ⟨b,0,none⟩) a c) a d)(hk:k<a):∃ v,w.cell? ⟨b,k,none⟩=some v:=by
 have hl:=h.1;rw[h.cellAt k (by omega)];exact⟨_,Aq (by omega)⟩
theorem Src.take{w:Cx}{A:Option Addr}{n i:Nat}{c:List Cz}(h:Src w A n c)(hi:i<=n):Src w A i (c.take i):=by
 refine⟨by rw[BZ,h.1];omega,fun h0=>?_⟩;obtain⟨b,o,e,d,hc⟩:=h.2 (by omega);refine⟨b,o,e,d,fun j u a=>hc j u ?_⟩;rw[Bv]at a
 split at a
 ·exact a
 ·cases a
theorem Src.drop{w:Cx}{b o n i:Nat}{a:List Cz}(h:Src w (some ⟨b,o,none⟩) n a)(hi:i<=n):Src w (some ⟨b,o+i,none⟩) (n - i) (a.drop i):=by
 refine⟨by rw[List.length_drop,h.1],fun h0=>?_⟩;obtain⟨b',o',e,c,hc⟩:=h.2 (by omega);injection e with e;injection e with d e2;subst d;subst e2;refine⟨b,o+i,rfl,c,fun j u f=>?_⟩;rw[Nat.add_assoc];exact hc (i+j) u (by rw[<-f,List.getElem?_drop])
theorem cKf(h:(Lit.int .u8 a).wf=true):0<=a/\a<256:=by
 simp[Lit.wf,IntKind.min,IntKind.max,IntKind.bits,IntKind.signed]at h;omega
theorem bXc(h:(Lit.int .u64 a).wf=true):0<=a/\a<18446744073709551616:=by
 simp[Lit.wf,IntKind.min,IntKind.max,IntKind.bits,IntKind.signed]at h;omega
theorem bXd(h:(Lit.int .i64 a).wf=true): -9223372036854775808<=a/\a<=9223372036854775807:=by
 simp[Lit.wf,IntKind.min,IntKind.max,IntKind.bits,IntKind.signed]at h;omega
theorem pZ(h:n<18446744073709551616):IntKind.u64.wrap (n:Int)=(n:Int):=by
 rw[IntKind.wrap_u64];omega
theorem aKj{a:Nat}(ha:a<18446744073709551616)(hb:b<18446744073709551616):bits .or .u64 (a:Int) (b:Int)=((a ||| b:Nat):Int):=by
 have hx:a ||| b<2 ^ 64:=Nat.or_lt_two_pow (by omega) (by omega);show IntKind.u64.wrap ((BitVec.ofInt 64 (a:Int) ||| BitVec.ofInt 64 (b:Int)).toNat:Int)=_;rw[BitVec.toNat_or,BitVec.ofInt_natCast,BitVec.ofInt_natCast,BitVec.toNat_ofNat,BitVec.toNat_ofNat,BK (by omega),BK (by omega)];exact pZ (by omega)
def aXi:Nat->List (Int×Cz)->List MapEntry
 | _,[]=>[]
 | i,(k,v) :: r=>{ key:=.int .i64 k,val:=v,born:=i } :: aXi (i+1) r
theorem bVz:∀ (i:Nat) (a b:List (Int×Cz)),aXi i (a++b)=aXi i a++aXi (i+a.length) b
 | i,[],b=>by simp[aXi]
 | i,(k,v) :: a,b=>by
  simp only[BV,aXi,bVz (i+1) a b,List.length_cons];rw[show i+1+a.length=i+(a.length+1)from by omega]
def kJ(op:Int):List (Int×Cz)->Nat->Option (Nat×Cz)
 | [],_=>none
 | (k,v) :: r,j=>if op=k then some (j,v)else kJ op r (j+1)
theorem aJe(op:Int):∀ (l:List (Int×Cz)) (i j:Nat),Instr.findNow (.int .i64) (.int .i64 op) (aXi i l) j=some (kJ op l j)
 | [],_,_=>rfl
 | (k,v) :: r,i,j=>by
  simp only[aXi,Instr.findNow,Instr.sameNow,kJ,if_true];by_cases h:op=k
  ·simp[h]
  ·have:(op == k)=false:=(by simp[h]);rw[this];simp only[if_neg h];exact aJe op r (i+1) (j+1)
def lit(l:List (Int×Cz)):Obj:=.map (aXi 0 l).toArray l.length
theorem aJf{P:Cy}(w:Cx)(b:Bool)(n:Nat)(t:Cw)(k:IntKind)(x:Int)(h:P.underlying t=some (.int .i64)):(Instr.checkKey b (n+1) t (.int k x)).run P w = .ok () w:=by
 simp[Instr.checkKey,run_underlying h]
theorem bZq{P:Cy}{r:Nat}{a:Array MapEntry}{clock:Nat}(b:w.heap[r]? = some (.map a clock)):(getObj r).run P w = .ok (.map a clock) w:=by
 simp[getObj,Sem.run,b]
theorem bZr{P:Cy}{r:Nat}{a:Array MapEntry}{clock:Nat}(o:Obj)(b:w.heap[r]? = some (.map a clock)):(setObj r o).run P w = .ok () { w with heap:=w.heap.setIfInBounds r o }:=by
 simp[setObj,Sem.run,b]
theorem bQk{P:Cy}{b:Cw}{d:TypeDesc}{k:Cz}{l:List MapEntry}{a:Option (Nat×Cz)}(hd:P.underlying b=some d)(h:Instr.findNow d k l 0=some a):(Instr.findKey b k l).run P w = .ok a w:=by
 simp[Instr.findKey,run_underlying hd,h]
theorem cKg(W:Cx)(o a:Obj):({ W.alloc o with heap:=(W.alloc o).heap.setIfInBounds W.heap.size a }:Cx)=W.alloc a:=by
 show({ ({ W with heap:=W.heap.push o }:Cx)with heap:=(W.heap.push o).setIfInBounds W.heap.size a }:Cx)={ W with heap:=W.heap.push a }
 have e:(W.heap.push o).setIfInBounds W.heap.size a=W.heap.push a:=by
  apply Array.ext_getElem?;intro i;simp only[AK,Array.getElem?_push,Array.size_push];by_cases h:W.heap.size=i
  ·subst h;simp
  ·rw[if_neg h,if_neg (by omega),if_neg (by omega)]
 rw[e]
theorem iV{P:Cy}(W:Cx)(t a g:Cw)(l:List (Int×Cz))(k:Int)(v:Cz)(h:P.underlying t=some (.map a g))(b:P.underlying a=some (.int .i64))(hn:kJ k l 0=none):
  (Instr.mapUpdate t (.map (some W.heap.size)) (.int .i64 k) v).run P (W.alloc (lit l)) = .ok () (W.alloc (lit (l ++ [(k,v)]))):=by
 have c:(W.alloc (lit l)).heap[W.heap.size]? = some (.map (aXi 0 l).toArray l.length):=heap_alloc_new W _;have h1:=bZq (P:=P) c;have h2:=aJf (P:=P) (W.alloc (lit l)) false 9999 a .i64 k b;have d:=bQk (P:=P) (w:=W.alloc (lit l)) b (aJe k l 0 0);rw[hn]at d;have f:=bZr (P:=P) (.map ((aXi 0 l).toArray.push { key:=.int .i64 k,val:=v,born:=l.length }) (l.length+1)) c;rw[cKg]at f
 have e:lit (l ++ [(k,v)]) = .map ((aXi 0 l).toArray.push { key:=.int .i64 k,val:=v,born:=l.length }) (l.length+1):=by
  unfold lit;rw[bVz];simp[aXi]
 rw[e];unfold Instr.mapUpdate;simp only[Sem.run_bind,run_underlying h,Result.andThen_ok,h1,h2,d,f]
theorem pV{P:Cy}(W:Cx)(t a c:Cw)(z:Cz)(l:List (Int×Cz))(k:Int)(e:P.underlying t=some (.map a c))(d:P.underlying a=some (.int .i64))(f:∀ w,(zeroValue c).run P w = .ok z w):
  (Instr.lookup t (.map (some W.heap.size)) (.int .i64 k) true).run P (W.alloc (lit l)) = .ok (.tuple #[((kJ k l 0).map (·.2)).getD z,.bool (kJ k l 0).isSome]) (W.alloc (lit l)):=by
 have g:(W.alloc (lit l)).heap[W.heap.size]? = some (.map (aXi 0 l).toArray l.length):=heap_alloc_new W _;have h1:=bZq (P:=P) g;have h2:=fun b=>aJf (P:=P) (W.alloc (lit l)) b 9999 a .i64 k d;have h:=bQk (P:=P) (w:=W.alloc (lit l)) d (aJe k l 0 0);unfold Instr.lookup;simp only[Sem.run_bind,run_underlying e,Result.andThen_ok,h1,Sem.run_pure,h2,h]
 cases kJ k l 0 with
 | none=>simp[f,Result.andThen]
 | some p=>simp[Sem.run_pure]
theorem Blk.alloc{w:Cx}{g:Nat}{e:Cw}{cs:Array Cz}(h:Blk w g e cs)(o:Obj):Blk (w.alloc o) g e cs:=h.below ((Ax w.heap.size _).alloc (Aj _) _) h.lt
theorem Blk.newAt(w:Cx){N:Nat}(e:Cw)(cs:Array Cz)(h:w.heap.size=N):Blk (w.alloc (.cells cs e)) N e cs:=by
 subst h;exact Blk.new w e cs
theorem Blk.drew{w:Cx}{g:Nat}{e:Cw}{cs:Array Cz}(h:Blk w g e cs):Blk w.drew g e cs:=h
theorem Blk.drewN{w:Cx}{g:Nat}{e:Cw}{cs:Array Cz}(h:Blk w g e cs)(n:Nat):Blk (w.drewN n) g e cs:=h
theorem Blk.own{cs:Array Cz}(h:Blk w g e cs)(a:base<=g)(hn:cs.size=n)(b:n<=maxLen):w.ownsRow base e 1 (.slice (some ⟨g,0,none⟩) n n) n cs.toList:=by
 subst hn;exact⟨by simp,.inr ⟨g,cs.size,cs,rfl,a,h,Aj _,b,by simp,by rw[Ac];exact Ag (by simp)⟩⟩
theorem Blk.fQb{cs:Array Cz}(h:Blk w g e cs)(hn:cs.size=n):Src w (some ⟨g,0,none⟩) n cs.toList:=by
 have:=h.src n (by omega)
 rwa[Ag (by simp;omega)]at this
theorem pJ{a:List Cz}(h:w.ownsRow base e size v n a)(o:Obj):(w.alloc o).ownsRow base e size v n a:=iW h ((Ax w.heap.size _).alloc (Aj _) _) (Aj _)
theorem oY{P:Cy}{ops:Array Oper}{rest:List Oper}{o:Oper}{a:Act}{Q:Exit->Act->Cx->Prop}(w:Cx)(E:o.guard=none)(s x:Operand)(t:Cw)
  (F:o.op = .call { callee:=.builtin .append,args:=#[s,x],argTypes:=#[t,t] })
  (base:Nat) (e:Cw) (z:Cz) (size bytes:Nat) (k:P.underlying t=some (.slice e)) (hinfo:(P.info? e).map (fun i=>(i.zero,i.size,i.bytes))=some (some z,size,bytes)) (G:z.cells.size=size) (C:0<size)
  (v:Cz) (n:Nat) (f:List Cz) (hs:a.eval s=v) (l:w.ownsRow base e size v n f)
  (A:Option Addr) (m c:Nat) (news:List Cz) (H:a.eval x = .slice A m c) (d:Src w A (m*size) news) (h1:∀ u∈news,u.oneCell'=true)
  (I:n+m<=maxLen) (hbytes:(n+m)*bytes<=140737488355328) (hbase:base<=w.heap.size)
  (h:∀ v' w',w'.ownsRow base e size v' (n+m) (f++news)->w.grownBy w' v.ownBlock->(v'.ownBlock=v.ownBlock\/v'.ownBlock=some w.heap.size)->(v' = .slice none 0 0↔v = .slice none 0 0/\m=0)->wpList P ops Q rest (a.put o.dst v') w'):wpList P ops Q (o :: rest) a w:=by
 obtain⟨i,hi,J,L,M⟩:=info_parts hinfo
 have key:∃ v' w',(Builtin.append_ #[t,t] o.type #[v,.slice A m c]).run P w = .ok v' w'/\w'.ownsRow base e size v' (n+m) (f++news)/\w.grownBy w' v.ownBlock/\(v'.ownBlock=v.ownBlock\/v'.ownBlock=some w.heap.size)/\(v' = .slice none 0 0↔v = .slice none 0 0/\m=0):=by
  rcases A with _ | N
  ·have O:m=0:=by
    rcases AY m with p | p
    ·exact p
    ·obtain⟨b,o,R,_⟩:=d.2 (Cj p C);cases R
   subst O;have S:news = []:=Av (by rw[d.1,Ah]);subst S;refine⟨v,w,?_,by simpa using l,World.grownBy.refl w _,.inl rfl,by simp⟩;rcases l.2 with⟨rfl,rfl⟩ | ⟨g,cap,cur,rfl,_,_,T,_⟩
   ·simp[Builtin.append_,run_underlying k,sizeOf,typeInfo,hi,Builtin.lenOf,Builtin.firstCells]
   ·simp[Builtin.append_,run_underlying k,sizeOf,typeInfo,hi,Builtin.lenOf,Builtin.firstCells,T,storeCells]
  ·obtain⟨v',w',q,h2,r,y,B⟩:=run_append_own_at (P:=P) w base t o.type e i z size bytes k hi J L M G C v n f l N m c news d.1
    (fun j u D=>by
     have hj:=(List.getElem?_eq_some_iff.1 D).1;obtain⟨b,o,e',_,hc⟩:=d.2 (by have:=d.1;omega);injection e' with e';subst e';rw[AW]
     exact hc j u D) h1 I hbytes hbase
   exact⟨v',w',q,h2,r,B,y⟩
 obtain⟨v',w',q,h2,r,y,B⟩:=key;refine wpList_plain E fun K U=>?_;unfold Oper.wp execOp;simp only[F,resolve,invoke,builtin,Sem.run_bind,Sem.run_pure,Result.andThen_ok,BQ,Ak,Af,hs,H,q];exact U _ _ (h v' w' h2 r y B)
theorem Blk.grown{cs:Array Cz}{r:Option Nat}(h:Blk w g e cs)(hg:w.grownBy w' r)(a:r≠some g):Blk w' g e cs:=by
 unfold Blk;rw[hg.block g h.lt (fun e=>a e.symm)];exact h
theorem wV{a:Cx}{r:Option Nat}(h:Ck B a w)(hg:w.grownBy w' r)(hs:B<=w.heap.size)(b:∀ k,r=some k->B<=k):Ck B a w':=h.grown hg hs b
abbrev KV:=List (Int×Cz)
def bQl:KV->Int->Cz->KV
 | [],k,v=>[(k,v)]
 | (a,x) :: r,k,v=>if k=a then(a,v) :: r else(a,x) :: bQl r k v
def EM(a:List MapEntry)(m:KV):Prop:=a.map (fun e=>(e.key,e.val))=m.map fun p=>(Bz .i64 p.1,p.2)
theorem EM.cons{e:MapEntry}{a:List MapEntry}{m:KV}(h:EM (e :: a) m):∃ k v r,m=(k,v) :: r/\e.key = .int .i64 k/\e.val=v/\EM a r:=by
 cases m with
 | nil=>simp[EM]at h
 | cons p r=>
  obtain⟨k,v⟩:=p;simp only[EM,Ak,List.cons.injEq,Prod.mk.injEq]at h;exact⟨k,v,r,rfl,h.1.1,h.1.2,h.2⟩
theorem EM.mk{e:MapEntry}{a:List MapEntry}{k:Int}{v:Cz}{r:KV}(h1:e.key = .int .i64 k)(h2:e.val=v)(h:EM a r):EM (e :: a) ((k,v) :: r):=by
 simp only[EM,Ak,List.cons.injEq,Prod.mk.injEq]at h ⊢;exact⟨⟨h1,h2⟩,h⟩
theorem cXj(k:Int):∀ (b:List MapEntry) (m:KV) (j:Nat),EM b m->Instr.findNow (.int .i64) (.int .i64 k) b j=some (kJ k m j)
 | [],m,j,h=>by
  cases m with
  | nil=>rfl
  | cons p r=>simp[EM]at h
 | e :: b,m,j,h=>by
  obtain⟨a,v,r,rfl,h1,h2,d⟩:=h.cons;simp only[Instr.findNow,h1,Instr.sameNow,if_true,kJ];by_cases c:k=a
  ·simp[c,h2]
  ·have:(k == a)=false:=(by simp[c]);rw[this];simp only[if_neg c];exact cXj k b r (j+1) d
theorem bJm{k:Int}:∀ {m:KV} {j:Nat},kJ k m j=none->∀ v,bQl m k v=m ++ [(k,v)]
 | [],_,_,v=>rfl
 | (a,x) :: r,j,h,v=>by
  simp only[kJ]at h;by_cases b:k=a
  ·simp[b]at h
  ·simp only[if_neg b]at h;simp only[bQl,if_neg b,BV,bJm h v]
theorem cKh{k:Int}{v:Cz}:∀ {b:List MapEntry} {m:KV} {j i:Nat} {x:Cz},EM b m->kJ k m j=some (i,x) ->
  j<=i/\(∃ e,b[i - j]? = some e/\e.key = .int .i64 k)/\EM (b.modify (i - j) fun e=>{ e with key:=.int .i64 k,val:=v }) (bQl m k v)
 | [],m,j,i,x,h,hf=>by
  cases m with
  | nil=>simp[kJ]at hf
  | cons p r=>simp[EM]at h
 | e :: b,m,j,i,x,h,hf=>by
  obtain⟨a,y,r,rfl,h1,h2,d⟩:=h.cons;simp only[kJ]at hf;by_cases c:k=a
  ·subst c;simp only[if_true,Option.some.injEq,Prod.mk.injEq]at hf;obtain⟨rfl,rfl⟩:=hf;refine⟨Aj _,⟨e,by simp,h1⟩,?_⟩;simp only[BJ,bQl,if_true];exact EM.mk rfl rfl d
  ·simp only[if_neg c]at hf;obtain⟨k1,⟨e',k2,f⟩,g⟩:=cKh (v:=v) d hf;have hi:i - j=(i - (j+1))+1:=(by omega);refine⟨by omega,⟨e',by rw[hi];simpa using k2,f⟩,?_⟩;rw[hi];simp only[bQl,if_neg c];exact EM.mk h1 h2 g
def IM(w:Cx)(b:Nat)(m:KV):Prop:=
 ∃ a clock,w.heap[b]? = some (.map a clock)/\EM a.toList m/\(a.toList.map (·.born)).Nodup/\∀ e∈a.toList,e.born<clock
theorem IM.lt{m:KV}(h:IM w b m):b<w.heap.size:=by
 obtain⟨es,clock,a,_⟩:=h;exact(Array.getElem?_eq_some_iff.1 a).1
theorem bJn(o:Obj)(_:b<w.heap.size):w.grownBy { w with heap:=w.heap.setIfInBounds b o } (some b):=
 ⟨rfl,rfl,rfl,by simp,fun k hk a=>by
  simp only[AK]
  rw[if_neg (fun e=>a (by rw[e]))]⟩
theorem IM.put(c:b<w.heap.size)(a:Array MapEntry)(clock:Nat){m:KV}(h1:EM a.toList m)(h2:(a.toList.map (·.born)).Nodup)(d:∀ e∈a.toList,e.born<clock):IM { w with heap:=w.heap.setIfInBounds b (.map a clock) } b m:=
 ⟨a,clock,by simp[c],h1,h2,d⟩
theorem eVj{P:Cy}(w:Cx)(k:Int):(Instr.keyThatStays (.int .i64 k) (.int .i64 k)).run P w = .ok (.int .i64 k) w:=by
 simp[Instr.keyThatStays,Instr.sameBits]
theorem IM.update{P:Cy}{m:KV}(h:IM w b m){n z:Cw}(A:P.underlying t=some (.map n z))(s:P.underlying n=some (.int .i64))(k:Int)(v:Cz):
  ∃ w',(Instr.mapUpdate t (.map (some b)) (.int .i64 k) v).run P w = .ok () w'/\IM w' b (bQl m k v)/\w.grownBy w' (some b)/\w'.heap.size=w.heap.size:=by
 have l:=h.lt;obtain⟨d,clock,o,he,hn,hc⟩:=h;have h1:=bZq (P:=P) o;have h2:=fun c=>aJf (P:=P) w c 9999 n .i64 k s;have B:=bQk (P:=P) (w:=w) s (cXj k d.toList m 0 he);unfold Instr.mapUpdate;simp only[Sem.run_bind,run_underlying A,Result.andThen_ok,h1,h2,B]
 cases hf:kJ k m 0 with
 | none=>
  have q:=bZr (P:=P) (.map (d.push { key:=.int .i64 k,val:=v,born:=clock }) (clock+1)) o;refine⟨_,q,IM.put l _ _ ?_ ?_ ?_,bJn _ l,by simp⟩
  ·rw[bJm hf v];simp only[EM,Ad,Bb,Ak,Af]at he ⊢;rw[he]
  ·simp only[Ad,Bb,Ak,Af];rw[List.nodup_append];refine⟨hn,by simp,fun a ha c C=>?_⟩;obtain⟨e,g,rfl⟩:=List.mem_map.1 ha;simp at C;have:=hc e g;omega
  ·intro e g;simp only[Ad,Bj,List.mem_singleton]at g;rcases g with h | h
   ·have:=hc e h;omega
   ·subst h;simp
 | some p=>
  obtain⟨i,x⟩:=p;obtain⟨k1,⟨e0,k2,D⟩,u⟩:=cKh (v:=v) he hf;simp only[Nat.sub_zero]at k2 u
  have E:((d[i]?).map (·.key)).getD (.int .i64 k) = .int .i64 k:=by
   have:d[i]? = some e0:=(by simpa using k2);rw[this]
   simpa using D
  have q:=bZr (P:=P) (.map (d.modify i fun e=>{ e with key:=.int .i64 k,val:=v }) clock) o
  have F:(Instr.keyThatStays (((d[i]?).map (·.key)).getD (.int .i64 k)) (.int .i64 k) >>= fun key=>setObj b (.map (d.modify i fun e=>{ e with key,val:=v }) clock)).run P w = .ok () { w with heap:=w.heap.setIfInBounds b (.map (d.modify i fun e=>{ e with key:=.int .i64 k,val:=v }) clock) }:=by
   rw[E,Sem.run_bind,eVj,Result.andThen_ok,q]
  refine⟨_,F,IM.put l _ _ ?_ ?_ ?_,bJn _ l,by simp⟩
  ·simpa[AV]using u
  ·have e:((d.modify i fun e=>{ e with key:=.int .i64 k,val:=v }).toList.map (·.born))=d.toList.map (·.born):=by
    rw[AV];apply Ae;intro j;simp only[Ay,Bq];by_cases f:i=j
    ·subst f;cases d.toList[i]? <;> simp
    ·simp[f]
   rw[e];exact hn
  ·intro e g;rw[AV]at g;obtain⟨j,f⟩:=List.mem_iff_getElem?.1 g;rw[Bq]at f
   cases r:d.toList[j]? with
   | none=>rw[r]at f;simp at f
   | some G=>
    rw[r]at f;have:=hc G (List.mem_of_getElem? r);by_cases y:i=j
    ·simp[y]at f;rw[<-f];exact this
    ·simp[y]at f;rw[<-f];exact this
section
open Go.ChangeMaps
end
theorem kQ{u:Cz}{b:List Cz}(h:w.ownsRow p e size v n b)(hg:v.ownBlock≠some g):(w.setCell ⟨g,k,none⟩ u).ownsRow p e size v n b:=by
 refine⟨h.1,?_⟩;rcases h.2 with h2 | ⟨a,cap,cur,rfl,h2,c,r⟩
 ·exact .inl h2
 ·refine .inr ⟨a,cap,cur,rfl,h2,?_,r⟩;have d:a≠g:=fun e=>hg (by simp[Value.ownBlock,e]);rw[heap_setCell_other w ⟨g,k,none⟩ a u d];exact c
theorem aJx{G:Nat}{cs:Array Cz}{u:Cz}(h:Blk w G e cs)(hg:G≠g):Blk (w.setCell ⟨g,k,none⟩ u) G e cs:=by
 unfold Blk;rw[heap_setCell_other w ⟨g,k,none⟩ G u hg];exact h
section
open Go.Sort
def i64s(l:List Int):List Cz:=l.map (Bz .i64)
theorem dJo(l:List Int):(i64s l).length=l.length:=by simp[i64s]
theorem dYr{l:List Int}(h:k<l.length):(i64s l)[k]'(by simpa[i64s]using h) = .int .i64 l[k]:=by simp[i64s]
theorem bJo(l:List Int)(n:Nat):(i64s l).take n=i64s (l.take n):=by simp[i64s,List.map_take]
theorem dJp(l:List Int):∀ u∈i64s l,u.oneCell'=true:=by
 intro u a;obtain⟨_,_,rfl⟩:=List.mem_map.1 a;rfl
theorem Src.setCell{w:Cx}{A:Option Addr}{n:Nat}{c:List Cz}(h:Src w A n c){p:Addr}(v:Cz)(hp:∀ a,A=some a->a.block≠p.block):Src (w.setCell p v) A n c:=by
 refine⟨h.1,fun hn=>?_⟩;obtain⟨b,o,e,d,hc⟩:=h.2 hn;refine⟨b,o,e,by simpa using d,fun j u f=>?_⟩;rw[<-hc j u f];have:=heap_setCell_other w p b v (hp _ e);unfold Bi;rw[this]
theorem dJq{a:List Cz}(h:w.ownsRow base e size (.slice A n c) n a)(b:k<=n)(d:A≠none):w.ownsRow base e size (.slice A k c) k (a.take (k*size)):=by
 rcases h.2 with⟨h1,_⟩ | ⟨g,cap,cur,h1,f,hg,hn,i,j,l⟩
 ·injection h1 with h1;exact absurd h1 d
 ·injection h1 with h1 h2 m;subst h1;subst m;refine⟨?_,.inr ⟨g,c,cur,rfl,f,hg,by omega,i,j,?_⟩⟩
  ·rw[BZ,h.1];exact Bc (Bx _ b)
  ·rw[<-l,List.take_take,Bc (Bx _ b)]
end
def Ints(w:Cx)(v:Cz)(l:List Int):Prop:=∃ A c,v = .slice A l.length c/\Src w A l.length (i64s l)/\l.length<=c/\(A=none->c=0)/\(l.length*8<=140737488351232/\c<=9223372036854775807)
def xJ(l:List Bool):List Cz:=l.map Value.bool
theorem bJp{l:List Bool}(h:k<l.length):(xJ l)[k]'(by simpa[xJ]using h) = .bool l[k]:=by simp[xJ]
def Bools(w:Cx)(v:Cz)(l:List Bool):Prop:=∃ A c,v = .slice A l.length c/\Src w A l.length (xJ l)/\l.length<=c/\(A=none->c=0)/\(l.length<=140737488351232/\c<=9223372036854775807)
def Structs{α:Type}(k:Nat)(R:Cx->List Cz->α->Prop)(w:Cx)(v:Cz)(l:List α):Prop:=
 ∃ (A:Option Addr) (c:Nat) (vs:List (List Cz)),v = .slice A l.length c/\l.length<=c/\(A=none->c=0)/\(l.length<=140737488351232/\c<=9223372036854775807)/\vs.length=l.length/\(∀ r∈vs,r.length=k)/\(∀ (i:Nat) (r:List Cz) (x:α),vs[i]? = some r->l[i]? = some x->R w r x)/\Src w A (l.length*k) vs.flatten
theorem aXj{k:Nat}:∀ {vs:List (List Cz)} {i j:Nat} {r:List Cz} {u:Cz},(∀ r∈vs,r.length=k)->vs[i]? = some r->r[j]? = some u->vs.flatten[i*k+j]? = some u
 | [],i,j,r,u,_,h,_=>by simp at h
 | s :: vs,0,j,r,u,b,h,a=>by
  simp at h;subst h;simp only[AX,Ah,By];rw[AJ (List.getElem?_eq_some_iff.1 a).1];exact a
 | s :: vs,i+1,j,r,u,b,h,a=>by
  simp at h;have hs:s.length=k:=b s (by simp);have c:=aXj (vs:=vs) (fun r d=>b r (by simp[d])) h a;rw[AX,Az (by rw[hs,BY];omega),hs];rw[show(i+1)*k+j - k=i*k+j by rw[BY];omega];exact c
theorem Ints.below{w w':Cx}{B:Nat}{v:Cz}{l:List Int}(h:Ints w v l)(a:Ck B w w')(b:w.heap.size<=B):Ints w' v l:=by
 obtain⟨A,c,e,hs,r⟩:=h;exact⟨A,c,e,hs.below a b,r⟩
theorem Bools.below{w w':Cx}{B:Nat}{v:Cz}{l:List Bool}(h:Bools w v l)(a:Ck B w w')(b:w.heap.size<=B):Bools w' v l:=by
 obtain⟨A,c,e,hs,r⟩:=h;exact⟨A,c,e,hs.below a b,r⟩
theorem Structs.below{α:Type}{k:Nat}{R:Cx->List Cz->α->Prop}{w w':Cx}{B:Nat}{v:Cz}{l:List α}(h:Structs k R w v l)(a:Ck B w w')(b:w.heap.size<=B)
  (d:∀ r x,R w r x->R w' r x):Structs k R w' v l:=by
 obtain⟨A,c,vs,e,h1,h2,f,g,j,m,hs⟩:=h;exact⟨A,c,vs,e,h1,h2,f,g,j,fun i r x q1 n=>d r x (m i r x q1 n),hs.below a b⟩
theorem Structs.at{α:Type}{R:Cx->List Cz->α->Prop}{l:List α}(h:Structs k R w v l)(g:0<k){i:Nat}{x:α}(a:l[i]? = some x):
  ∃ b o c r,v = .slice (some ⟨b,o,none⟩) l.length c/\b<w.heap.size/\r.length=k/\R w r x/\∀ j u,r[j]? = some u->w.cell? ⟨b,o+(i*k+j),none⟩=some u:=by
 obtain⟨A,c,vs,e,h1,h2,h3,h4,d,m,hs⟩:=h;have hi:i<l.length:=(List.getElem?_eq_some_iff.1 a).1;obtain⟨b,o,rfl,n,hc⟩:=hs.2 (Cj (by omega) g);have f:vs[i]? = some (vs[i]'(by omega)):=Aq (by omega);exact⟨b,o,c,_,e,n,d _ (BX _),m i _ x f a,fun j u p=>hc _ u (aXj d f p)⟩
theorem Structs.len{α:Type}{R:Cx->List Cz->α->Prop}{l:List α}(h:Structs k R w v l):∃ A c,v = .slice A l.length c/\l.length<=c/\l.length<=140737488351232/\c<=9223372036854775807:=by
 obtain⟨A,c,vs,e,h1,h2,a,_⟩:=h;exact⟨A,c,e,h1,a⟩
theorem Ints.nil(w:Cx):Ints w (.slice none 0 0) []:=⟨none,0,rfl,Src.nil _ _,Aj _,fun _=>rfl,by simp⟩
structure SigD where
 inn:List Int
 out:List Int
structure EnvD where
 sigs:List SigD
 imports:Int
 globals:List Int
 muts:List Bool
 mem:Bool
structure CodeD where
 op:Int
 n:Nat
 args:List Int
 outs:List Int
 to:List Int
def CodeD.ok(c:CodeD):Prop:=c.n<18446744073709551616 /\ -9223372036854775808<=c.op/\c.op<=9223372036854775807
structure RowD where
 sig:SigD
 places:Int
 params:List Int
 code:List CodeD
def SigC(w:Cx)(r:List Cz)(s:SigD):Prop:=∃ a b,r = [a,b]/\Ints w a s.inn/\Ints w b s.out
def CodeC(w:Cx)(r:List Cz)(c:CodeD):Prop:=∃ a b d,r = [.int .i64 c.op,.int .u64 (c.n:Int),a,b,d]/\c.ok/\Ints w a c.args/\Ints w b c.outs/\Ints w d c.to
def eWr(w:Cx)(r:List Cz)(e:EnvD):Prop:=∃ a b d,r = [a,.int .i64 e.imports,b,d,.bool e.mem]/\Structs 2 SigC w a e.sigs/\Ints w b e.globals/\Bools w d e.muts
def RowC(w:Cx)(r:List Cz)(x:RowD):Prop:=∃ a b p d,r = [a,b,.int .i64 x.places,p,d]/\Ints w a x.sig.inn/\Ints w b x.sig.out/\Ints w p x.params/\Structs 5 CodeC w d x.code
theorem SigC.below{w w':Cx}{B:Nat}{r:List Cz}{s:SigD}(h:SigC w r s)(c:Ck B w w')(d:w.heap.size<=B):SigC w' r s:=by
 obtain⟨a,b,e,h1,h2⟩:=h;exact⟨a,b,e,h1.below c d,h2.below c d⟩
theorem CodeC.below{w w':Cx}{B:Nat}{r:List Cz}{c:CodeD}(h:CodeC w r c)(f:Ck B w w')(g:w.heap.size<=B):CodeC w' r c:=by
 obtain⟨a,b,d,e,i,h1,h2,j⟩:=h;exact⟨a,b,d,e,i,h1.below f g,h2.below f g,j.below f g⟩
theorem RowC.below{w w':Cx}{B:Nat}{r:List Cz}{x:RowD}(h:RowC w r x)(c:Ck B w w')(e:w.heap.size<=B):RowC w' r x:=by
 obtain⟨a,b,p,d,e',h1,h2,f,g⟩:=h;exact⟨a,b,p,d,e',h1.below c e,h2.below c e,f.below c e,g.below c e (fun r x q=>q.below c e)⟩
section
open Go.ChangeShapes Go.WideShapes Go.Deep
section
variable {H:Type} {enc:Cw×Cz->H} {P:Cy} {w:Cx}
def aVf(P:Cy)(t:Cw)(d:DataW H):Prop:=∀ n∈d.weights P t,n<=reachBytes
def qY(enc:Cw×Cz->H)(P:Cy)(w:Cx){α:Type}(t:Cw)(R:Cx->List Cz->α->Prop):Prop:=
 ∀ fuel cs x,DataW.trod enc P w 0 (fun _=>true) true fuel t cs=some x->aVf P t x.1->∃ a:α,R w cs a
theorem aJy{k:IntKind}(b:P.underlying t=some (.int k)):qY enc P w t (fun _ cs (a:Int)=>cs = [.int k a]/\(Lit.int k a).wf=true):=by
 intro fuel cs x h _;obtain⟨n,e,_,c⟩:=DataW.trod_int b h;exact⟨n,e,c⟩
theorem aXu{t:Cw}:∀ {l:List (DataW H)} {d:DataW H},d∈l->∀ n∈d.weights P t,n∈DataW.weightsAll P t l
 | [],d,h,_,_=>by simp at h
 | e :: l,d,h,n,hn=>by
  simp only[DataW.weightsAll,Bj];rcases List.mem_cons.1 h with h | h
  ·subst h;exact .inl hn
  ·exact .inr (aXu h n hn)
theorem cKi{a:Addr}{cs:List Cz}(h:w.cells? 0 a k=some cs):cs.length=k/\∀ j,j<k->w.cell? (a.add j)=cs[j]?:=by
 obtain⟨_,h1,h2⟩:=World.cells?_some h;exact⟨h1,h2⟩
theorem bQb{α:Type}{k:Nat}{R:Cx->List Cz->α->Prop}{a:Addr}{m:Nat}(g:0<k)(hc:∀ i,i<m->∃ (cs:List Cz) (x:α),cs.length=k/\(∀ j,j<k->w.cell? (a.add (i*k+j))=cs[j]?)/\R w cs x):
  ∀ len,len<=m->∃ (l:List α) (vs:List (List Cz)),l.length=len/\vs.length=len/\(∀ r∈vs,r.length=k)/\(∀ (i:Nat) (r:List Cz) (x:α),vs[i]? = some r->l[i]? = some x->R w r x)/\Src w (some a) (len*k) vs.flatten
 | 0,_=>⟨[],[],rfl,rfl,by simp,by simp,by rw[Ah];exact Src.nil _ _⟩
 | len+1,h=>by
  obtain⟨l,vs,h1,h2,q,s,n⟩:=bQb g hc len (by omega);obtain⟨cs,x,c1,t,v⟩:=hc len (by omega);obtain⟨aj,x0,d1,z,_⟩:=hc 0 (by omega);have o:=z 0 g;rw[show a.add (0*k+0)=a by simp[Addr.add],Aq (by omega)]at o;obtain⟨hs,A⟩:=aWa o;obtain⟨ab,f,B⟩:=a;have C:B=none:=hs;subst C;have p:vs.flatten.length=len*k:=(by have:=n.1;exact this);refine⟨l ++ [x],vs ++ [cs],by simp[h1],by simp[h2],fun r b=>?_,fun i r y q1 d=>?_,?_⟩
  ·rcases List.mem_append.1 b with b | b
   ·exact q r b
   ·simp at b;rw[b];exact c1
  ·by_cases hi:i<len
   ·rw[AJ (by omega)]at q1 d;exact s i r y q1 d
   ·have D:i=len:=by
     have:=(List.getElem?_eq_some_iff.1 q1).1;simp[h2]at this;omega
    subst D;rw[Az (by omega),h2,BJ]at q1;rw[Az (by omega),h1,BJ]at d;simp at q1 d;subst q1;subst d;exact v
  ·refine⟨by simp only[Bk,List.length_append,p,AX,BW,Bd,c1];rw[BY];omega,fun _=>⟨ab,f,rfl,A,fun j u c=>?_⟩⟩;simp only[Bk,AX,BW,Bd]at c;by_cases hj:j<len*k
   ·rw[AJ (by omega)]at c;obtain⟨b',o',e,_,E⟩:=n.2 (by omega);injection e with e;injection e with F e2;subst F;subst e2;exact E j u c
   ·rw[Az (by omega),p]at c;have G:j - len*k<k:=(by have:=(List.getElem?_eq_some_iff.1 c).1;omega);have:=t (j - len*k) G;rw[AW,c,show f+(len*k+(j - len*k))=f+j by omega]at this;exact this
theorem vZ{α:Type}{R:Cx->List Cz->α->Prop}(b:P.underlying t=some (.slice e))(p:P.cellsOf e=k)(r:0<k)(s:1<=P.bytesOf e)(u:qY enc P w e R):
  qY enc P w t (fun w cs (l:List α)=>∃ v,cs = [v]/\Structs k R w v l/\∀ A n c,v = .slice A n c->c*P.bytesOf e<=reachBytes):=by
 intro fuel cs x h f;rcases open_slice b h with⟨rfl,_⟩ | ⟨a,len,cap,m,n,D,Pl,rfl,_,z,hm,B,C,hi⟩
 ·exact⟨[],_,rfl,⟨none,0,[],rfl,Aj _,fun _=>rfl,by simp,rfl,by simp,by simp,by rw[List.length_nil,Ah];exact Src.nil _ _⟩,fun A n c e=>by injection e with _ _ e;subst e;simp⟩
 ·have an:m=cap:=(by simpa using B);have hd:x.1=_:=congrArg Prod.fst C
  have E:∀ d,(d∈(Cq len).map D\/d∈(Cq (m - len)).map fun j=>D (len+j))->aVf P e d:=fun d F q hq=>by
   refine f q ?_;rw[hd];simp only[DataW.weights,b,Bg,Bj];rcases F with h1 | h1
   ·exact .inr (.inl (aXu h1 q hq))
   ·exact .inr (.inr (aXu h1 q hq))
  have g:cap*P.bytesOf e<=reachBytes:=by
   refine f _ ?_;rw[hd];simp only[DataW.weights,b,Bg,Ba,List.length_range]
   left
   rw[show len+(m - len)=cap by omega]
  have ae:cap<=140737488351232:=by have:=Bw (Nat.mul_le_mul_left cap s) g;rw[Ac]at this;exact this
  obtain⟨l,vs,h1,h2,G,H,I⟩:=bQb (w:=w) (R:=R) (a:=a) (m:=m) r (fun i J=>by
   obtain⟨o,q1,K⟩:=hi i J;rw[p]at q1
   obtain⟨y,L⟩:=u n o _ K (E _ (by
    by_cases M:i<len
    ·exact .inl (List.mem_map.2 ⟨i,by simpa using M,rfl⟩)
    ·exact .inr (List.mem_map.2 ⟨i - len,by simp;omega,by show D (len+(i - len))=D i;rw[show len+(i - len)=i by omega]⟩)))
   obtain⟨c1,N⟩:=cKi q1
   exact⟨o,y,c1,fun j O=>by rw[<-N j O,Go.Deep.add_add],L⟩) len (by omega)
  subst h1;exact⟨l,_,rfl,⟨some a,cap,vs,rfl,z,(fun e=>by cases e),⟨by omega,by omega⟩,h2,G,H,I⟩,fun A n c e=>by injection e with _ _ e;subst e;exact g⟩
theorem cZe(d:P.underlying t=some (.slice e))(he:P.underlying e=some (.int .i64))(f:P.cellsOf e=1)(g:P.bytesOf e=8):
  qY enc P w t (fun w cs (l:List Int)=>∃ v,cs = [v]/\Ints w v l):=by
 intro fuel cs x h k;obtain⟨l,v,rfl,⟨A,c,vs,rfl,h1,h2,h3,h4,m,n,b⟩,o⟩:=vZ (enc:=enc) (w:=w) d f (by omega) (by omega) (aJy he) fuel cs x h k;have a:=o _ _ _ rfl;rw[g]at a;refine⟨l,_,rfl,A,c,rfl,?_,h1,h2,by have p:c*8<=140737488351232:=a;omega,by have p:c*8<=140737488351232:=a;omega⟩
 have q:vs.flatten=i64s l:=by
  apply Ae;intro i;by_cases hi:i<l.length
  ·have hv:vs[i]? = some (vs[i]'(by omega)):=Aq (by omega);have r:=(n i _ _ hv (Aq hi)).1;have:=aXj (j:=0) m hv (by rw[r];rfl);rw[Ac,Bh]at this;rw[this];simp[i64s,Ay,Aq hi]
  ·have s:=b.1;rw[Aw (by rw[s];omega),Aw (by simp[i64s];omega)]
 rw[<-q]
 simpa using b
theorem bXe(c:P.underlying t=some .bool):qY enc P w t (fun _ cs (a:Bool)=>cs = [.bool a]):=by
 intro fuel cs x h _;obtain⟨b,e,_⟩:=DataW.trod_bool c h;exact⟨b,e⟩
theorem cQc(b:P.underlying t=some (.slice e))(he:P.underlying e=some .bool)(d:P.cellsOf e=1)(f:1<=P.bytesOf e):
  qY enc P w t (fun w cs (l:List Bool)=>∃ v,cs = [v]/\Bools w v l):=by
 intro fuel cs x h g;obtain⟨l,v,rfl,⟨A,c,vs,rfl,h1,h2,k,h4,m,n,a⟩,_⟩:=vZ (enc:=enc) (w:=w) b d (by omega) f (bXe he) fuel cs x h g;refine⟨l,_,rfl,A,c,rfl,?_,h1,h2,k⟩
 have o:vs.flatten=xJ l:=by
  apply Ae;intro i;by_cases hi:i<l.length
  ·have hv:vs[i]? = some (vs[i]'(by omega)):=Aq (by omega);have p:=n i _ _ hv (Aq hi);have:=aXj (j:=0) m hv (by rw[p];rfl);rw[Ac,Bh]at this;rw[this];simp[xJ,Ay,Aq hi]
  ·have q:=a.1;rw[Aw (by rw[q];omega),Aw (by simp[xJ];omega)]
 rw[<-o]
 simpa using a
theorem cQd{fs:Array Field}{fuel:Nat}{cs:List Cz}{x:DataW H×List MemPlace}(b:P.underlying t=some (.struct fs))(h:DataW.trod enc P w 0 (fun _=>true) true fuel t cs=some x)(c:aVf P t x.1)
  {α:Type} {R:Cx->List Cz->α->Prop} (i:Nat) {f:Field} (hf:fs[i]? = some f) (e:qY enc P w f.type R):cs.length=P.cellsOf t/\∃ a,R w ((cs.drop f.offset).take (P.cellsOf f.type)) a:=by
 obtain⟨g,n,_,k,l,ad,hg⟩:=DataW.trod_struct b h;have hi:i<fs.size:=(Array.getElem?_eq_some_iff.1 hf).1;have h1:=hg i f hf;rw[Aq (by omega)]at h1;refine⟨l,e n _ _ h1 (fun q hq=>c q ?_)⟩;rw[show x.1=_ from congrArg Prod.fst k];simp only[DataW.weights,b];refine DataW.weights_mem_each (j:=i) (t:=f.type) (d:=(g[i]'(by omega)).1) ?_ ?_ q hq
 ·rw[Ay];have:fs.toList[i]? = some f:=(by simpa using hf);rw[this];rfl
 ·rw[Ay,Aq (by omega)];rfl
theorem lJ{fs:Array Field}{fuel:Nat}{cs:List Cz}{x:DataW H×List MemPlace}(b:P.underlying t=some (.struct fs))(h:DataW.trod enc P w 0 (fun _=>true) true fuel t cs=some x)(c:aVf P t x.1)
  {α:Type} {R:Cx->List Cz->α->Prop} (i o k e:Nat) {f:Field} (hf:fs[i]? = some f) (d:qY enc P w e R) (he:f.type=e) (g:f.offset=o) (j:P.cellsOf e=k):∃ a,R w ((cs.drop o).take k) a:=by
 subst he;subst g;subst j;exact(cQd b h c i hf d).2
end
end
theorem bVd(z:Cz)(n:Nat):madeCells #[z] n=(Bf n z).toArray:=by
 apply Array.ext';simp[toList_madeCells_one]
theorem bXf{P:Cy}(t e:Cw)(z:Cz)(bytes:Nat)(b:P.underlying t=some (.slice e))(hinfo:(P.info? e).map (fun i=>(i.zero,i.size,i.bytes))=some (some z,1,bytes))(c:z.cells=#[z])(n:Nat)(hb:bytes*n<=281474976710656)(hm:n<=9223372036854775807):
  ∀ u:Cx,(Instr.makeSlice t (.int .i64 (n:Int)) (.int .i64 (n:Int))).run P u = .ok (.slice (some ⟨u.heap.size,0,none⟩) n n) (u.alloc (.cells (Bf n z).toArray e)):=by
 intro u;obtain⟨a,hi,d,f,g⟩:=info_parts hinfo
 have j:(a.bytes:Int)*(n:Int)<=281474976710656:=by
  rw[g];have h:((bytes*n:Nat):Int)<=281474976710656:=(by omega)
  rwa[Int.natCast_mul]at h
 have h:=run_make (P:=P) u t e a z b hi d .i64 .i64 (n:Int) (n:Int) (by omega) (Int.le_refl _) j (by omega);simp only[Int.toNat_natCast]at h;rw[h,f,Ac,c,bVd]
section
open Go.ChangeMaps
end
def tX:List (Int×Int×Int×Int):=[(69,1,0,127),(70,10,1,127),(80,1,0,126),(81,10,1,126),(103,3,2,127),(106,15,3,127),(121,3,2,126),(124,15,3,126),(167,1,4,126),(172,2,5,127),(192,2,6,127),(194,3,6,126)]
def inG(op:Int)(g:Int×Int×Int×Int):Bool:=decide (g.1<=op) && decide (op - g.1<g.2.1)
def fW(op:Int):Option (Int×Int×Int×Int):=tX.find? (inG op)
def gV(g:Int×Int×Int×Int):Cz:=.agg #[.int .i64 g.1,.int .i64 g.2.1,.int .i64 g.2.2.1,.int .i64 g.2.2.2]
def tZ:Array Cz:=(tX.flatMap fun g=>[Bz .i64 g.1,.int .i64 g.2.1,.int .i64 g.2.2.1,.int .i64 g.2.2.2]).toArray
theorem eZk:∀ i,i<12->∃ a b c d,tX[i]? = some (a,b,c,d)/\tZ[i*4]? = some (.int .i64 a)/\tZ[i*4+1]? = some (.int .i64 b)/\tZ[i*4+2]? = some (.int .i64 c)/\tZ[i*4+3]? = some (.int .i64 d)/\69<=a/\a<=194/\1<=b/\b<=15:=by
 intro i hi;have h:i=0\/i=1\/i=2\/i=3\/i=4\/i=5\/i=6\/i=7\/i=8\/i=9\/i=10\/i=11:=(by omega);rcases h with rfl | rfl | rfl | rfl | rfl | rfl | rfl | rfl | rfl | rfl | rfl | rfl <;> exact⟨_,_,_,_,rfl,rfl,rfl,rfl,rfl,by decide,by decide,by decide,by decide⟩
theorem pW{g:Int×Int×Int×Int}(hN:∀ j,j<k->∀ g,tX[j]? = some g->inG op g=false)(hg:tX[k]? = some g)(h:inG op g=true):fW op=some g:=by
 rw[fW,List.find?_eq_some_iff_getElem];obtain⟨a,e⟩:=List.getElem?_eq_some_iff.1 hg;exact⟨h,k,a,e,fun j b=>by simp[hN j b _ (Aq (by omega))]⟩
theorem bXg(hN:∀ j,j<12->∀ g,tX[j]? = some g->inG op g=false):fW op=none:=by
 rw[fW,List.find?_eq_none];intro g hg;obtain⟨j,a,e⟩:=List.mem_iff_getElem.1 hg;simp[hN j (by simpa[tX]using a) g (by rw[<-e];exact Aq a)]
theorem cZf(w:Cx):Cv fZ 146 #[] w fun e w'=>e = .returned (.slice (some ⟨w.heap.size,0,none⟩) 12 12)/\w.alloc (.cells tZ 181)=w':=by
 go_in;go_wp2;go_ret;exact⟨rfl,rfl⟩
def dYg(w0:Cx)(G:Nat)(op:Int)(a:Nat)(i:Cz)(wr:Cx):Prop:=
 ∃ k:Nat,k<=12/\i = .int .i64 k/\Hid (∀ j,j<k->∀ g,tX[j]? = some g->inG op g=false)/\Hid (Blk wr G 181 tZ)/\Hid (Blk wr a 181 #[.int .i64 0,.int .i64 0,.int .i64 0,.int .i64 0])/\Hid (Ck w0.heap.size w0 wr)
theorem cXk{wr:Cx}{G:Nat}{g:Int×Int×Int×Int}{o:Obj}(h:Hid (∀ j,j<k->∀ g,tX[j]? = some g->inG op g=false))(c:Hid (Blk wr G 181 tZ))(d:Hid (Blk wr b 181 #[.int .i64 0,.int .i64 0,.int .i64 0,.int .i64 0]))(f:Hid (Ck w.heap.size w wr))
  (hg:tX[k]? = some g) (hn:inG op g=false) (hk:k<12):dYg w G op b (.int .i64 ((k:Int)+1)) (wr.alloc o)/\13 - (intOf (.int .i64 ((k:Int)+1))).toNat<13 - (intOf (.int .i64 (k:Int))).toNat:=by
 refine⟨⟨k+1,by omega,by simp,fQ (fun j hj x a=>?_),fQ (c.out.below ((Ax wr.heap.size _).alloc (Aj _) _) c.out.lt),fQ (d.out.below ((Ax wr.heap.size _).alloc (Aj _) _) d.out.lt),fQ (f.out.alloc f.out.size _)⟩,by simp[intOf];omega⟩;by_cases e:j=k
 ·subst e;rw[hg]at a;injection a with a;rw[<-a];exact hn
 ·exact h.out j (by omega) x a
def aQi(op:Int):Cz:=match fW op with
 | none=>.tuple #[.agg #[.int .i64 0,.int .i64 0,.int .i64 0,.int .i64 0],.int .i64 0,.bool false]
 | some g=>.tuple #[gV g,.int .i64 (op - g.1),.bool true]
theorem aXv(op:Int)(w:Cx)(h1 : -9223372036854775808<=op)(h2:op<=9223372036854775807):Cv fZ 122 #[.int .i64 op] w fun e w'=>e = .returned (aQi op)/\Ck w.heap.size w w':=by
 go_in;go_wp2_with fail;refine(cZf _).mono ?_;rintro e w1 ⟨rfl,rfl⟩;go_wp2_with fail;have u:=fQ (show Ck w.heap.size w ((w.alloc (.cells #[.int .i64 0,.int .i64 0,.int .i64 0,.int .i64 0] 181)).alloc (.cells tZ 181))from((Ax _ _).alloc (Aj _) _).alloc (by simp) _)
 have x:=fQ (show Blk ((w.alloc (.cells #[.int .i64 0,.int .i64 0,.int .i64 0,.int .i64 0] 181)).alloc (.cells tZ 181)) w.heap.size 181 #[.int .i64 0,.int .i64 0,.int .i64 0,.int .i64 0]from
  (Blk.new w 181 _).below ((Ax (w.heap.size+1) _).alloc (by simp) _) (by omega))
 have y:=fQ (show Blk ((w.alloc (.cells #[.int .i64 0,.int .i64 0,.int .i64 0,.int .i64 0] 181)).alloc (.cells tZ 181)) (w.heap.size+1) 181 tZ from by
  have:=Blk.new (w.alloc (.cells #[.int .i64 0,.int .i64 0,.int .i64 0,.int .i64 0] 181)) 181 tZ
  simpa using this)
 go_loopw [9] (fun i wr=>dYg w (w.heap.size+1) op w.heap.size i wr) (fun i _=>13 - (intOf i).toNat)
 case atStart=>exact⟨0,by omega,rfl,fQ (fun j hj=>by omega),y,x,u⟩
 case round=>
  clear u x y;obtain⟨k,hk,rfl,o,g,f,q⟩:=hrel;by_cases s:k<12
  ·have ah:decide ((k:Int)<12)=true:=(by simp;omega);obtain⟨a,b,c,d,hg,e0,z,e2,A,al,an,ao,aq⟩:=eZk k s;have c0:=(g.out.cell (k*4)).trans e0;have c1:=(g.out.cell (k*4+1)).trans z;have c2:=(g.out.cell (k*4+2)).trans e2;have c3:=(g.out.cell (k*4+3)).trans A;have t:=fQ hg;have ar:w.heap.size+1<wr.heap.size:=g.out.lt;have B:w.heap.size<wr.heap.size:=(by omega);have h:=f.out.cell 0;have l:=f.out.cell 1;have m:=f.out.cell 2;have n:=f.out.cell 3;simp at h l m n;have C:=frozen_of_row wr w.heap.size 0 _ _ f.out;have D:=frozen_of_row wr w.heap.size 1 _ _ f.out;have E:=frozen_of_row wr w.heap.size 2 _ _ f.out;have F:=frozen_of_row wr w.heap.size 3 _ _ f.out;clear e0 z e2 A hg;by_cases q1:a<=op
   ·have G:decide (a<=op)=true:=(by simpa using q1);by_cases r:op - a<b
    ·have H:decide (op - a<b)=true:=(by simpa using r);go_wp2_with fail;go_region;go_wp2;refine bodyPost_ret (v:=.tuple #[.agg #[.int .i64 a,.int .i64 b,.int .i64 c,.int .i64 d],.int .i64 (op - a),.bool true]) (by simp[results,results122,go_sem,B,h,l,m,n]) rfl ⟨?_,?_⟩
     ·rw[aQi,pW o.out t.out (by simp[inG,q1,r])];rfl
     ·exact(((((q.out.setCell (p:=⟨w.heap.size,0,none⟩) (Aj _) _).setCell (p:=⟨w.heap.size,1,none⟩) (Aj _) _).setCell (p:=⟨w.heap.size,2,none⟩) (Aj _) _).setCell (p:=⟨w.heap.size,3,none⟩) (Aj _) _).alloc (by simp;omega) _).drew
    ·have H:decide (op - a<b)=false:=(by simpa using r);go_wp2;exact cXk o g f q t.out (by simp[inG,r]) s
   ·have G:decide (a<=op)=false:=(by simpa using q1);go_wp2;exact cXk o g f q t.out (by simp[inG,q1]) s
  ·obtain rfl:k=12:=(by omega);have h:=f.out.cell 0;have l:=f.out.cell 1;have m:=f.out.cell 2;have n:=f.out.cell 3;simp at h l m n;have C:=frozen_of_row wr w.heap.size 0 _ _ f.out;have D:=frozen_of_row wr w.heap.size 1 _ _ f.out;have E:=frozen_of_row wr w.heap.size 2 _ _ f.out;have F:=frozen_of_row wr w.heap.size 3 _ _ f.out;go_wp2;refine bodyPost_ret (v:=.tuple #[.agg #[.int .i64 0,.int .i64 0,.int .i64 0,.int .i64 0],.int .i64 0,.bool false]) (by simp[results,results122,go_sem,h,l,m,n]) rfl ⟨?_,?_⟩
   ·rw[aQi,bXg o.out]
   ·exact(((q.out.setCell (p:=⟨w.heap.size,0,none⟩) (Aj _) _).setCell (p:=⟨w.heap.size,1,none⟩) (Aj _) _).setCell (p:=⟨w.heap.size,2,none⟩) (Aj _) _).setCell (p:=⟨w.heap.size,3,none⟩) (Aj _) _
def fY(op:Int):List Int:=match fW op with
 | none=>[]
 | some (_,_,c,d)=>if c=1\/c=3 then[d,d]else[d]
def lY(op:Int):Int:=match fW op with
 | none=>0
 | some (_,_,c,d)=>if c=0\/c=1\/c=4 then 127 else if c=5 then 126 else d
def aYf(l:List Int):List Cz:=l.map (Bz .i64)
theorem aQr{b c d:Int}(h:fW op=some (a,b,c,d)):(c=0\/c=1\/c=2\/c=3\/c=4\/c=5\/c=6)/\(d=126\/d=127)/\69<=a/\a<=op/\op - a<b/\b<=15/\a<=194:=by
 have e:=Aa h;have hp:=Be h;have f:∀ g∈tX,(g.2.2.1=0\/g.2.2.1=1\/g.2.2.1=2\/g.2.2.1=3\/g.2.2.1=4\/g.2.2.1=5\/g.2.2.1=6)/\(g.2.2.2=126\/g.2.2.2=127)/\69<=g.1/\g.2.1<=15/\g.1<=194:=(by decide);obtain⟨h1,h2,i,j,k⟩:=f _ e;simp[inG]at hp;exact⟨h1,h2,i,hp.1,hp.2,j,k⟩
def b01(b:Bool):Int:=if b then 1 else 0
def iX(t:Int)(n:Nat):Bool:=decide (t=126\/(t=127/\n<4294967296))
theorem bQm:(fZ.info? 3).map (fun i=>(i.zero,i.size,i.bytes))=some (some (.int .i64 0),1,8):=by kernel_rfl
theorem bZs(b:Bool)(w:Cx):Cv fZ 124 #[.bool b] w fun e w'=>e = .returned (.int .u64 (b01 b))/\w=w':=by
 cases b with
 | true=>
  go_in;go_wp2;go_ret;exact⟨rfl,rfl⟩
 | false=>
  go_in;go_wp2;go_ret;exact⟨rfl,rfl⟩
def aXw(k:Int):Bool:=decide (3<=k/\k<=6)
theorem uW(k:Int)(w:Cx):Cv fZ 155 #[.int .i64 k] w fun e w'=>e = .returned (.bool (aXw k))/\w=w':=by
 by_cases h1:3<=k
 ·have b:decide (3<=k)=true:=(by simpa using h1);have a:=fQ (show aXw k=decide (k<=6) by simp[aXw,h1]);clear h1;go_in;go_wp2;go_ret;rw[a.out];exact⟨rfl,rfl⟩
 ·have b:decide (3<=k)=false:=(by simpa using h1);have a:=fQ (show aXw k=false by simp[aXw,h1]);clear h1;go_in;go_wp2;go_ret;rw[a.out];exact⟨rfl,rfl⟩
theorem bQn(t:Int)(n:Nat)(w:Cx)(hn:n<18446744073709551616):Cv fZ 25 #[.int .i64 t,.int .u64 n] w fun e w'=>e = .returned (.bool (iX t n))/\w=w':=by
 by_cases h2:t=127
 ·have b:(t == 127)=true:=(by simp[h2]);have a:=fQ (show iX t n=((n:Int) / 4294967296 == 0) by rw[Bool.eq_iff_iff];simp[iX,h2];omega);clear h2;go_in;go_wp2;go_ret;rw[a.out];exact⟨rfl,rfl⟩
 ·have b:(t == 127)=false:=(by simp[h2]);by_cases h1:t=126
  ·have c:(t == 126)=true:=(by simp[h1]);have a:=fQ (show iX t n=true by simp[iX,h1]);clear h1 h2;go_in;go_wp2;go_ret;rw[a.out];exact⟨rfl,rfl⟩
  ·have c:(t == 126)=false:=(by simp[h1]);have a:=fQ (show iX t n=false by simp[iX,h1,h2]);clear h1 h2;go_in;go_wp2;go_ret;rw[a.out];exact⟨rfl,rfl⟩
def pY(op:Int)(w:Cx)(e:Ending)(w':Cx):Prop:=
 ∃ A c,e = .returned (.tuple #[.slice A (fY op).length c,.int .i64 (lY op),.bool (fW op).isSome])/\w'.ownsRow w.heap.size 3 1 (.slice A (fY op).length c) (fY op).length (aYf (fY op))/\Ck w.heap.size w w'
theorem aJa(op:Int)(w:Cx)(h1 : -9223372036854775808<=op)(h2:op<=9223372036854775807):Cv fZ 93 #[.int .i64 op] w (pY op w):=by
 cases hg:fW op with
 | none=>
  have j:=fQ (show aQi op = .tuple #[.agg #[.int .i64 0,.int .i64 0,.int .i64 0,.int .i64 0],.int .i64 0,.bool false] by simp[aQi,hg]);have k:=fQ (show fY op = [] by simp[fY,hg]);have l:=fQ (show lY op=0 by simp[lY,hg]);have m:=fQ (show(fW op).isSome=false by simp[hg]);clear hg;go_in;go_wp2_with fail;refine(aXv op _ h1 h2).mono ?_;rintro e i ⟨rfl,h⟩;rw[j.out];have f:=fQ h;clear h;go_wp2;go_ret3;unfold pY;rw[k.out,l.out,m.out];exact⟨none,0,rfl,AQ _ _ _ _,f.out.alloc f.out.size _⟩
 | some g=>
  obtain⟨a,b,c,d⟩:=g;have j:=fQ (show aQi op = .tuple #[.agg #[.int .i64 a,.int .i64 b,.int .i64 c,.int .i64 d],.int .i64 (op - a),.bool true] by simp[aQi,hg,gV]);have k:=fQ (show fY op=if c=1\/c=3 then[d,d]else[d] by simp[fY,hg]);have l:=fQ (show lY op=if c=0\/c=1\/c=4 then 127 else if c=5 then 126 else d by simp[lY,hg]);have m:=fQ (show(fW op).isSome=true by simp[hg]);obtain⟨hc,_,_,_,_,_,_⟩:=aQr hg;clear hg;have r:(c=1\/c=3)\/(c=0\/c=2\/c=4\/c=5\/c=6):=(by omega);clear hc;rcases r with hc | hc
  ·rcases hc with rfl | rfl
   all_goals
    go_in;go_wp2_with fail;refine(aXv op _ h1 h2).mono ?_;rintro e i ⟨rfl,h⟩;rw[j.out];have f:=fQ h;clear h;go_wp2_with fail;go_region;go_wp2_with (at_builtin;refine aXh _ rfl (.tmp 28) (.tmp 31) 23 rfl (i.heap.size+1) 3 (.int .i64 0) 8 underlying23 bQm rfl (.slice (some ⟨i.heap.size+1,0,none⟩) 1 1) 1 [.int .i64 d] rfl ?_ (some ⟨i.heap.size+1+1,0,none⟩) 1 1 [.int .i64 d] rfl ?_ (dYq _ _) (by unfold maxLen;omega) (by omega) ?_ ?_)
    ·exact Blk.own (n:=1) (cs:=#[.int .i64 d]) (((Blk.newAt _ _ _ (by simp)).alloc _).drew) (Aj _) rfl (by unfold maxLen;omega)
    ·exact Blk.fQb (cs:=#[.int .i64 d]) (Blk.newAt _ _ _ (by simp)).drew rfl
    ·simp
    rintro v w2 o q;have s:=q.cell (p:=⟨i.heap.size,2,none⟩) (by simp);simp at s;have t:=fQ (jQ o (by have:=f.out.size;omega:w.heap.size<=i.heap.size+1));have u:=fQ (show Ck w.heap.size w w2 from((((f.out.alloc f.out.size _).alloc (by have:=f.out.size;simp;omega) _).alloc (by have:=f.out.size;simp;omega) _).drew).trans (q.mono (by have:=f.out.size;omega)));obtain⟨A2,c2,rfl,_⟩:=fJ o;clear o q;go_wp2;go_ret3;unfold pY;rw[k.out,l.out,m.out];exact⟨_,_,rfl,t.out,u.out⟩
  ·rcases hc with rfl | rfl | rfl | rfl | rfl
   all_goals
    go_in;go_wp2_with fail;refine(aXv op _ h1 h2).mono ?_;rintro e i ⟨rfl,h⟩;rw[j.out];have f:=fQ h;clear h;go_wp2_with fail;go_region;go_wp2;go_ret3;unfold pY;rw[k.out,l.out,m.out];exact⟨_,_,rfl,Blk.own (n:=1) (cs:=#[.int .i64 d]) (Blk.newAt _ _ _ (by simp)).drew (by have:=f.out.size;omega) rfl (by unfold maxLen;omega),((f.out.alloc f.out.size _).alloc (by have:=f.out.size;simp;omega) _).drew⟩
theorem yK(d:Int):(w.alloc (.cells #[.int .i64 d,.int .i64 d] 3)).ownsRow w.heap.size 3 1 (.slice (some ⟨w.heap.size,0,none⟩) 1 2) 1 (aYf [d]):=
 ⟨by simp[aYf],.inr ⟨w.heap.size,2,#[.int .i64 d,.int .i64 d],rfl,Aj _,Blk.new w 3 _,by omega,by unfold maxLen;omega,by simp,by simp[aYf]⟩⟩
def inB(op a b:Int):Bool:=decide (a<=op/\op<=b)
theorem inT{b:Int}(h1:a<=op)(h2:op<=b):inB op a b=true:=by simp[inB,h1,h2]
theorem inF{b:Int}(h:op<a\/b<op):inB op a b=false:=by simp[inB];omega
theorem eqF(h:op<a\/a<op):(op == a)=false:=by simp;omega
theorem eqT(h1:a<=op)(h2:op<=a):(op == a)=true:=by simp;omega
theorem iY(op a b:Int)(w:Cx):Cv fZ 139 #[.int .i64 op,.int .i64 a,.int .i64 b] w fun e w'=>e = .returned (.bool (inB op a b))/\w=w':=by
 by_cases h1:a<=op
 ·have d:decide (a<=op)=true:=(by simpa using h1);have c:=fQ (show inB op a b=decide (op<=b) by simp[inB,h1]);clear h1;go_in;go_wp2;go_ret;rw[c.out];exact⟨rfl,rfl⟩
 ·have d:decide (a<=op)=false:=(by simpa using h1);have c:=fQ (show inB op a b=false by simp[inB,h1]);clear h1;go_in;go_wp2;go_ret;rw[c.out];exact⟨rfl,rfl⟩
theorem qV(op:Int):(fW op=none/\(op<69\/90<op)/\(op<103\/138<op)/\(op<167\/167<op)/\(op<172\/173<op)/\(op<192\/196<op))\/(fW op=some (69,1,0,127)/\69<=op/\op<=69)\/(fW op=some (70,10,1,127)/\70<=op/\op<=79)\/(fW op=some (80,1,0,126)/\80<=op/\op<=80)\/(fW op=some (81,10,1,126)/\81<=op/\op<=90)\/(fW op=some (103,3,2,127)/\103<=op/\op<=105)\/(fW op=some (106,15,3,127)/\106<=op/\op<=120)\/(fW op=some (121,3,2,126)/\121<=op/\op<=123)\/(fW op=some (124,15,3,126)/\124<=op/\op<=138)\/(fW op=some (167,1,4,126)/\167<=op/\op<=167)\/(fW op=some (172,2,5,127)/\172<=op/\op<=173)\/(fW op=some (192,2,6,127)/\192<=op/\op<=193)\/(fW op=some (194,3,6,126)/\194<=op/\op<=196):=by
 have key:∀ g:Int×Int×Int×Int,inG op g=decide (g.1<=op/\op - g.1<g.2.1):=fun g=>by simp[inG]
 by_cases d:69<=op/\op<=69
 ·refine .inr (.inl ⟨pW (k:=0) (fun j c x a=>?_) (show tX[0]? = some (69,1,0,127)from rfl) (by rw[key];simp;omega),d.1,d.2⟩);omega
 by_cases h1:70<=op/\op<=79
 ·refine .inr (.inr (.inl ⟨pW (k:=1) (fun j c x a=>?_) (show tX[1]? = some (70,10,1,127)from rfl) (by rw[key];simp;omega),h1.1,h1.2⟩));have b:j=0:=(by omega);rcases b with rfl <;> (injection a with a;subst a;rw[key];simp;omega)
 by_cases h2:80<=op/\op<=80
 ·refine .inr (.inr (.inr (.inl ⟨pW (k:=2) (fun j c x a=>?_) (show tX[2]? = some (80,1,0,126)from rfl) (by rw[key];simp;omega),h2.1,h2.2⟩)));have b:j=0\/j=1:=(by omega);rcases b with rfl | rfl <;> (injection a with a;subst a;rw[key];simp;omega)
 by_cases e:81<=op/\op<=90
 ·refine .inr (.inr (.inr (.inr (.inl ⟨pW (k:=3) (fun j c x a=>?_) (show tX[3]? = some (81,10,1,126)from rfl) (by rw[key];simp;omega),e.1,e.2⟩))));have b:j=0\/j=1\/j=2:=(by omega);rcases b with rfl | rfl | rfl <;> (injection a with a;subst a;rw[key];simp;omega)
 by_cases f:103<=op/\op<=105
 ·refine .inr (.inr (.inr (.inr (.inr (.inl ⟨pW (k:=4) (fun j c x a=>?_) (show tX[4]? = some (103,3,2,127)from rfl) (by rw[key];simp;omega),f.1,f.2⟩)))));have b:j=0\/j=1\/j=2\/j=3:=(by omega);rcases b with rfl | rfl | rfl | rfl <;> (injection a with a;subst a;rw[key];simp;omega)
 by_cases h:106<=op/\op<=120
 ·refine .inr (.inr (.inr (.inr (.inr (.inr (.inl ⟨pW (k:=5) (fun j c x a=>?_) (show tX[5]? = some (106,15,3,127)from rfl) (by rw[key];simp;omega),h.1,h.2⟩))))));have b:j=0\/j=1\/j=2\/j=3\/j=4:=(by omega);rcases b with rfl | rfl | rfl | rfl | rfl <;> (injection a with a;subst a;rw[key];simp;omega)
 by_cases i:121<=op/\op<=123
 ·refine .inr (.inr (.inr (.inr (.inr (.inr (.inr (.inl ⟨pW (k:=6) (fun j c x a=>?_) (show tX[6]? = some (121,3,2,126)from rfl) (by rw[key];simp;omega),i.1,i.2⟩)))))));have b:j=0\/j=1\/j=2\/j=3\/j=4\/j=5:=(by omega);rcases b with rfl | rfl | rfl | rfl | rfl | rfl <;> (injection a with a;subst a;rw[key];simp;omega)
 by_cases l:124<=op/\op<=138
 ·refine .inr (.inr (.inr (.inr (.inr (.inr (.inr (.inr (.inl ⟨pW (k:=7) (fun j c x a=>?_) (show tX[7]? = some (124,15,3,126)from rfl) (by rw[key];simp;omega),l.1,l.2⟩))))))));have b:j=0\/j=1\/j=2\/j=3\/j=4\/j=5\/j=6:=(by omega);rcases b with rfl | rfl | rfl | rfl | rfl | rfl | rfl <;> (injection a with a;subst a;rw[key];simp;omega)
 by_cases m:167<=op/\op<=167
 ·refine .inr (.inr (.inr (.inr (.inr (.inr (.inr (.inr (.inr (.inl ⟨pW (k:=8) (fun j c x a=>?_) (show tX[8]? = some (167,1,4,126)from rfl) (by rw[key];simp;omega),m.1,m.2⟩)))))))));have b:j=0\/j=1\/j=2\/j=3\/j=4\/j=5\/j=6\/j=7:=(by omega);rcases b with rfl | rfl | rfl | rfl | rfl | rfl | rfl | rfl <;> (injection a with a;subst a;rw[key];simp;omega)
 by_cases n:172<=op/\op<=173
 ·refine .inr (.inr (.inr (.inr (.inr (.inr (.inr (.inr (.inr (.inr (.inl ⟨pW (k:=9) (fun j c x a=>?_) (show tX[9]? = some (172,2,5,127)from rfl) (by rw[key];simp;omega),n.1,n.2⟩))))))))));have b:j=0\/j=1\/j=2\/j=3\/j=4\/j=5\/j=6\/j=7\/j=8:=(by omega);rcases b with rfl | rfl | rfl | rfl | rfl | rfl | rfl | rfl | rfl <;> (injection a with a;subst a;rw[key];simp;omega)
 by_cases o:192<=op/\op<=193
 ·refine .inr (.inr (.inr (.inr (.inr (.inr (.inr (.inr (.inr (.inr (.inr (.inl ⟨pW (k:=10) (fun j c x a=>?_) (show tX[10]? = some (192,2,6,127)from rfl) (by rw[key];simp;omega),o.1,o.2⟩)))))))))));have b:j=0\/j=1\/j=2\/j=3\/j=4\/j=5\/j=6\/j=7\/j=8\/j=9:=(by omega);rcases b with rfl | rfl | rfl | rfl | rfl | rfl | rfl | rfl | rfl | rfl <;> (injection a with a;subst a;rw[key];simp;omega)
 by_cases p:194<=op/\op<=196
 ·refine .inr (.inr (.inr (.inr (.inr (.inr (.inr (.inr (.inr (.inr (.inr (.inr (⟨pW (k:=11) (fun j c x a=>?_) (show tX[11]? = some (194,3,6,126)from rfl) (by rw[key];simp;omega),p.1,p.2⟩))))))))))));have b:j=0\/j=1\/j=2\/j=3\/j=4\/j=5\/j=6\/j=7\/j=8\/j=9\/j=10:=(by omega);rcases b with rfl | rfl | rfl | rfl | rfl | rfl | rfl | rfl | rfl | rfl | rfl <;> (injection a with a;subst a;rw[key];simp;omega)
 refine .inl ⟨bXg (fun j c x a=>?_),by omega,by omega,by omega,by omega,by omega⟩;have b:j=0\/j=1\/j=2\/j=3\/j=4\/j=5\/j=6\/j=7\/j=8\/j=9\/j=10\/j=11:=(by omega);rcases b with rfl | rfl | rfl | rfl | rfl | rfl | rfl | rfl | rfl | rfl | rfl | rfl <;> (injection a with a;subst a;rw[key];simp;omega)
def ofV(op:Int):Int:=match fW op with
 | none=>0
 | some g=>g.2.2.2
theorem vV(op:Int)(w:Cx):Cv fZ 160 #[.int .i64 op] w fun e w'=>e = .returned (.int .i64 (ofV op))/\w=w':=by
 rcases qV op with⟨hg,b,c,p,q,r⟩ | ⟨hg,b,c⟩ | ⟨hg,b,c⟩ | ⟨hg,b,c⟩ | ⟨hg,b,c⟩ | ⟨hg,b,c⟩ | ⟨hg,b,c⟩ | ⟨hg,b,c⟩ | ⟨hg,b,c⟩ | ⟨hg,b,c⟩ | ⟨hg,b,c⟩ | ⟨hg,b,c⟩ | ⟨hg,b,c⟩
 ·have a:=fQ (show ofV op=0 by simp[ofV,hg]);have d:inB op 69 79=false:=inF (by omega);have f:inB op 103 120=false:=inF (by omega);have k:(op == 172)=false:=eqF (by omega);have l:(op == 173)=false:=eqF (by omega);have m:(op == 192)=false:=eqF (by omega);have n:(op == 193)=false:=eqF (by omega);have g:inB op 80 90=false:=inF (by omega);have h:inB op 121 138=false:=inF (by omega);have o:(op == 167)=false:=eqF (by omega);have i:inB op 194 196=false:=inF (by omega);clear hg b c p q r;go_in;go_wp2_with (go_at_call 139;refine(iY _ _ _ _).mono ?_;rintro e j ⟨rfl,rfl⟩);go_ret;rw[a.out];exact⟨rfl,rfl⟩
 ·have a:=fQ (show ofV op=127 by simp[ofV,hg]);have d:inB op 69 79=true:=inT (by omega) (by omega);have f:inB op 103 120=false:=inF (by omega);have k:(op == 172)=false:=eqF (by omega);have l:(op == 173)=false:=eqF (by omega);have m:(op == 192)=false:=eqF (by omega);have n:(op == 193)=false:=eqF (by omega);have g:inB op 80 90=false:=inF (by omega);have h:inB op 121 138=false:=inF (by omega);have o:(op == 167)=false:=eqF (by omega);have i:inB op 194 196=false:=inF (by omega);clear hg b c;go_in;go_wp2_with (go_at_call 139;refine(iY _ _ _ _).mono ?_;rintro e j ⟨rfl,rfl⟩);go_ret;rw[a.out];exact⟨rfl,rfl⟩
 ·have a:=fQ (show ofV op=127 by simp[ofV,hg]);have d:inB op 69 79=true:=inT (by omega) (by omega);have f:inB op 103 120=false:=inF (by omega);have k:(op == 172)=false:=eqF (by omega);have l:(op == 173)=false:=eqF (by omega);have m:(op == 192)=false:=eqF (by omega);have n:(op == 193)=false:=eqF (by omega);have g:inB op 80 90=false:=inF (by omega);have h:inB op 121 138=false:=inF (by omega);have o:(op == 167)=false:=eqF (by omega);have i:inB op 194 196=false:=inF (by omega);clear hg b c;go_in;go_wp2_with (go_at_call 139;refine(iY _ _ _ _).mono ?_;rintro e j ⟨rfl,rfl⟩);go_ret;rw[a.out];exact⟨rfl,rfl⟩
 ·have a:=fQ (show ofV op=126 by simp[ofV,hg]);have d:inB op 69 79=false:=inF (by omega);have f:inB op 103 120=false:=inF (by omega);have k:(op == 172)=false:=eqF (by omega);have l:(op == 173)=false:=eqF (by omega);have m:(op == 192)=false:=eqF (by omega);have n:(op == 193)=false:=eqF (by omega);have g:inB op 80 90=true:=inT (by omega) (by omega);have h:inB op 121 138=false:=inF (by omega);have o:(op == 167)=false:=eqF (by omega);have i:inB op 194 196=false:=inF (by omega);clear hg b c;go_in;go_wp2_with (go_at_call 139;refine(iY _ _ _ _).mono ?_;rintro e j ⟨rfl,rfl⟩);go_ret;rw[a.out];exact⟨rfl,rfl⟩
 ·have a:=fQ (show ofV op=126 by simp[ofV,hg]);have d:inB op 69 79=false:=inF (by omega);have f:inB op 103 120=false:=inF (by omega);have k:(op == 172)=false:=eqF (by omega);have l:(op == 173)=false:=eqF (by omega);have m:(op == 192)=false:=eqF (by omega);have n:(op == 193)=false:=eqF (by omega);have g:inB op 80 90=true:=inT (by omega) (by omega);have h:inB op 121 138=false:=inF (by omega);have o:(op == 167)=false:=eqF (by omega);have i:inB op 194 196=false:=inF (by omega);clear hg b c;go_in;go_wp2_with (go_at_call 139;refine(iY _ _ _ _).mono ?_;rintro e j ⟨rfl,rfl⟩);go_ret;rw[a.out];exact⟨rfl,rfl⟩
 ·have a:=fQ (show ofV op=127 by simp[ofV,hg]);have d:inB op 69 79=false:=inF (by omega);have f:inB op 103 120=true:=inT (by omega) (by omega);have k:(op == 172)=false:=eqF (by omega);have l:(op == 173)=false:=eqF (by omega);have m:(op == 192)=false:=eqF (by omega);have n:(op == 193)=false:=eqF (by omega);have g:inB op 80 90=false:=inF (by omega);have h:inB op 121 138=false:=inF (by omega);have o:(op == 167)=false:=eqF (by omega);have i:inB op 194 196=false:=inF (by omega);clear hg b c;go_in;go_wp2_with (go_at_call 139;refine(iY _ _ _ _).mono ?_;rintro e j ⟨rfl,rfl⟩);go_ret;rw[a.out];exact⟨rfl,rfl⟩
 ·have a:=fQ (show ofV op=127 by simp[ofV,hg]);have d:inB op 69 79=false:=inF (by omega);have f:inB op 103 120=true:=inT (by omega) (by omega);have k:(op == 172)=false:=eqF (by omega);have l:(op == 173)=false:=eqF (by omega);have m:(op == 192)=false:=eqF (by omega);have n:(op == 193)=false:=eqF (by omega);have g:inB op 80 90=false:=inF (by omega);have h:inB op 121 138=false:=inF (by omega);have o:(op == 167)=false:=eqF (by omega);have i:inB op 194 196=false:=inF (by omega);clear hg b c;go_in;go_wp2_with (go_at_call 139;refine(iY _ _ _ _).mono ?_;rintro e j ⟨rfl,rfl⟩);go_ret;rw[a.out];exact⟨rfl,rfl⟩
 ·have a:=fQ (show ofV op=126 by simp[ofV,hg]);have d:inB op 69 79=false:=inF (by omega);have f:inB op 103 120=false:=inF (by omega);have k:(op == 172)=false:=eqF (by omega);have l:(op == 173)=false:=eqF (by omega);have m:(op == 192)=false:=eqF (by omega);have n:(op == 193)=false:=eqF (by omega);have g:inB op 80 90=false:=inF (by omega);have h:inB op 121 138=true:=inT (by omega) (by omega);have o:(op == 167)=false:=eqF (by omega);have i:inB op 194 196=false:=inF (by omega);clear hg b c;go_in;go_wp2_with (go_at_call 139;refine(iY _ _ _ _).mono ?_;rintro e j ⟨rfl,rfl⟩);go_ret;rw[a.out];exact⟨rfl,rfl⟩
 ·have a:=fQ (show ofV op=126 by simp[ofV,hg]);have d:inB op 69 79=false:=inF (by omega);have f:inB op 103 120=false:=inF (by omega);have k:(op == 172)=false:=eqF (by omega);have l:(op == 173)=false:=eqF (by omega);have m:(op == 192)=false:=eqF (by omega);have n:(op == 193)=false:=eqF (by omega);have g:inB op 80 90=false:=inF (by omega);have h:inB op 121 138=true:=inT (by omega) (by omega);have o:(op == 167)=false:=eqF (by omega);have i:inB op 194 196=false:=inF (by omega);clear hg b c;go_in;go_wp2_with (go_at_call 139;refine(iY _ _ _ _).mono ?_;rintro e j ⟨rfl,rfl⟩);go_ret;rw[a.out];exact⟨rfl,rfl⟩
 ·have a:=fQ (show ofV op=126 by simp[ofV,hg]);have d:inB op 69 79=false:=inF (by omega);have f:inB op 103 120=false:=inF (by omega);have k:(op == 172)=false:=eqF (by omega);have l:(op == 173)=false:=eqF (by omega);have m:(op == 192)=false:=eqF (by omega);have n:(op == 193)=false:=eqF (by omega);have g:inB op 80 90=false:=inF (by omega);have h:inB op 121 138=false:=inF (by omega);have o:(op == 167)=true:=eqT (by omega) (by omega);have i:inB op 194 196=false:=inF (by omega);clear hg b c;go_in;go_wp2_with (go_at_call 139;refine(iY _ _ _ _).mono ?_;rintro e j ⟨rfl,rfl⟩);go_ret;rw[a.out];exact⟨rfl,rfl⟩
 ·rcases(show op=172\/op=173 by omega)with rfl | rfl
  ·have a:=fQ (show ofV 172=127 by simp[ofV,hg]);clear hg b c;have d:inB 172 69 79=false:=(by decide);have f:inB 172 103 120=false:=(by decide);have g:inB 172 80 90=false:=(by decide);have h:inB 172 121 138=false:=(by decide);have i:inB 172 194 196=false:=(by decide);go_in;go_wp2_with (go_at_call 139;refine(iY _ _ _ _).mono ?_;rintro e j ⟨rfl,rfl⟩);go_ret;rw[a.out];exact⟨rfl,rfl⟩
  ·have a:=fQ (show ofV 173=127 by simp[ofV,hg]);clear hg b c;have d:inB 173 69 79=false:=(by decide);have f:inB 173 103 120=false:=(by decide);have g:inB 173 80 90=false:=(by decide);have h:inB 173 121 138=false:=(by decide);have i:inB 173 194 196=false:=(by decide);go_in;go_wp2_with (go_at_call 139;refine(iY _ _ _ _).mono ?_;rintro e j ⟨rfl,rfl⟩);go_ret;rw[a.out];exact⟨rfl,rfl⟩
 ·rcases(show op=192\/op=193 by omega)with rfl | rfl
  ·have a:=fQ (show ofV 192=127 by simp[ofV,hg]);clear hg b c;have d:inB 192 69 79=false:=(by decide);have f:inB 192 103 120=false:=(by decide);have g:inB 192 80 90=false:=(by decide);have h:inB 192 121 138=false:=(by decide);have i:inB 192 194 196=false:=(by decide);go_in;go_wp2_with (go_at_call 139;refine(iY _ _ _ _).mono ?_;rintro e j ⟨rfl,rfl⟩);go_ret;rw[a.out];exact⟨rfl,rfl⟩
  ·have a:=fQ (show ofV 193=127 by simp[ofV,hg]);clear hg b c;have d:inB 193 69 79=false:=(by decide);have f:inB 193 103 120=false:=(by decide);have g:inB 193 80 90=false:=(by decide);have h:inB 193 121 138=false:=(by decide);have i:inB 193 194 196=false:=(by decide);go_in;go_wp2_with (go_at_call 139;refine(iY _ _ _ _).mono ?_;rintro e j ⟨rfl,rfl⟩);go_ret;rw[a.out];exact⟨rfl,rfl⟩
 ·have a:=fQ (show ofV op=126 by simp[ofV,hg]);have d:inB op 69 79=false:=inF (by omega);have f:inB op 103 120=false:=inF (by omega);have k:(op == 172)=false:=eqF (by omega);have l:(op == 173)=false:=eqF (by omega);have m:(op == 192)=false:=eqF (by omega);have n:(op == 193)=false:=eqF (by omega);have g:inB op 80 90=false:=inF (by omega);have h:inB op 121 138=false:=inF (by omega);have o:(op == 167)=false:=eqF (by omega);have i:inB op 194 196=true:=inT (by omega) (by omega);clear hg b c;go_in;go_wp2_with (go_at_call 139;refine(iY _ _ _ _).mono ?_;rintro e j ⟨rfl,rfl⟩);go_ret;rw[a.out];exact⟨rfl,rfl⟩
def unB(op:Int):Bool:=match fW op with
 | none=>false
 | some g=>decide (g.2.2.1≠1/\g.2.2.1≠3)
theorem qW(op:Int)(w:Cx)(hs:fW op≠none):Cv fZ 161 #[.int .i64 op] w fun e w'=>e = .returned (.bool (unB op))/\w=w':=by
 rcases qV op with⟨hg,a,b,z3,z4,z5⟩ | ⟨hg,a,b⟩ | ⟨hg,a,b⟩ | ⟨hg,a,b⟩ | ⟨hg,a,b⟩ | ⟨hg,a,b⟩ | ⟨hg,a,b⟩ | ⟨hg,a,b⟩ | ⟨hg,a,b⟩ | ⟨hg,a,b⟩ | ⟨hg,a,b⟩ | ⟨hg,a,b⟩ | ⟨hg,a,b⟩
 ·exact absurd hg hs
 ·have c:=fQ (show unB op=true by simp[unB,hg]);have d:(op == 69)=true:=eqT (by omega) (by omega);have f:(op == 80)=false:=eqF (by omega);have g:inB op 103 105=false:=inF (by omega);have h:inB op 121 123=false:=inF (by omega);have i:decide (167<=op)=false:=(by simp;omega);clear hs hg a b;go_in;go_wp2_with (go_at_call 139;refine(iY _ _ _ _).mono ?_;rintro e j ⟨rfl,rfl⟩);go_ret;rw[c.out];exact⟨rfl,rfl⟩
 ·have c:=fQ (show unB op=false by simp[unB,hg]);have d:(op == 69)=false:=eqF (by omega);have f:(op == 80)=false:=eqF (by omega);have g:inB op 103 105=false:=inF (by omega);have h:inB op 121 123=false:=inF (by omega);have i:decide (167<=op)=false:=(by simp;omega);clear hs hg a b;go_in;go_wp2_with (go_at_call 139;refine(iY _ _ _ _).mono ?_;rintro e j ⟨rfl,rfl⟩);go_ret;rw[c.out];exact⟨rfl,rfl⟩
 ·have c:=fQ (show unB op=true by simp[unB,hg]);have d:(op == 69)=false:=eqF (by omega);have f:(op == 80)=true:=eqT (by omega) (by omega);have g:inB op 103 105=false:=inF (by omega);have h:inB op 121 123=false:=inF (by omega);have i:decide (167<=op)=false:=(by simp;omega);clear hs hg a b;go_in;go_wp2_with (go_at_call 139;refine(iY _ _ _ _).mono ?_;rintro e j ⟨rfl,rfl⟩);go_ret;rw[c.out];exact⟨rfl,rfl⟩
 ·have c:=fQ (show unB op=false by simp[unB,hg]);have d:(op == 69)=false:=eqF (by omega);have f:(op == 80)=false:=eqF (by omega);have g:inB op 103 105=false:=inF (by omega);have h:inB op 121 123=false:=inF (by omega);have i:decide (167<=op)=false:=(by simp;omega);clear hs hg a b;go_in;go_wp2_with (go_at_call 139;refine(iY _ _ _ _).mono ?_;rintro e j ⟨rfl,rfl⟩);go_ret;rw[c.out];exact⟨rfl,rfl⟩
 ·have c:=fQ (show unB op=true by simp[unB,hg]);have d:(op == 69)=false:=eqF (by omega);have f:(op == 80)=false:=eqF (by omega);have g:inB op 103 105=true:=inT (by omega) (by omega);have h:inB op 121 123=false:=inF (by omega);have i:decide (167<=op)=false:=(by simp;omega);clear hs hg a b;go_in;go_wp2_with (go_at_call 139;refine(iY _ _ _ _).mono ?_;rintro e j ⟨rfl,rfl⟩);go_ret;rw[c.out];exact⟨rfl,rfl⟩
 ·have c:=fQ (show unB op=false by simp[unB,hg]);have d:(op == 69)=false:=eqF (by omega);have f:(op == 80)=false:=eqF (by omega);have g:inB op 103 105=false:=inF (by omega);have h:inB op 121 123=false:=inF (by omega);have i:decide (167<=op)=false:=(by simp;omega);clear hs hg a b;go_in;go_wp2_with (go_at_call 139;refine(iY _ _ _ _).mono ?_;rintro e j ⟨rfl,rfl⟩);go_ret;rw[c.out];exact⟨rfl,rfl⟩
 ·have c:=fQ (show unB op=true by simp[unB,hg]);have d:(op == 69)=false:=eqF (by omega);have f:(op == 80)=false:=eqF (by omega);have g:inB op 103 105=false:=inF (by omega);have h:inB op 121 123=true:=inT (by omega) (by omega);have i:decide (167<=op)=false:=(by simp;omega);clear hs hg a b;go_in;go_wp2_with (go_at_call 139;refine(iY _ _ _ _).mono ?_;rintro e j ⟨rfl,rfl⟩);go_ret;rw[c.out];exact⟨rfl,rfl⟩
 ·have c:=fQ (show unB op=false by simp[unB,hg]);have d:(op == 69)=false:=eqF (by omega);have f:(op == 80)=false:=eqF (by omega);have g:inB op 103 105=false:=inF (by omega);have h:inB op 121 123=false:=inF (by omega);have i:decide (167<=op)=false:=(by simp;omega);clear hs hg a b;go_in;go_wp2_with (go_at_call 139;refine(iY _ _ _ _).mono ?_;rintro e j ⟨rfl,rfl⟩);go_ret;rw[c.out];exact⟨rfl,rfl⟩
 ·have c:=fQ (show unB op=true by simp[unB,hg]);have d:(op == 69)=false:=eqF (by omega);have f:(op == 80)=false:=eqF (by omega);have g:inB op 103 105=false:=inF (by omega);have h:inB op 121 123=false:=inF (by omega);have i:decide (167<=op)=true:=(by simp;omega);clear hs hg a b;go_in;go_wp2_with (go_at_call 139;refine(iY _ _ _ _).mono ?_;rintro e j ⟨rfl,rfl⟩);go_ret;rw[c.out];exact⟨rfl,rfl⟩
 ·have c:=fQ (show unB op=true by simp[unB,hg]);have d:(op == 69)=false:=eqF (by omega);have f:(op == 80)=false:=eqF (by omega);have g:inB op 103 105=false:=inF (by omega);have h:inB op 121 123=false:=inF (by omega);have i:decide (167<=op)=true:=(by simp;omega);clear hs hg a b;go_in;go_wp2_with (go_at_call 139;refine(iY _ _ _ _).mono ?_;rintro e j ⟨rfl,rfl⟩);go_ret;rw[c.out];exact⟨rfl,rfl⟩
 ·have c:=fQ (show unB op=true by simp[unB,hg]);have d:(op == 69)=false:=eqF (by omega);have f:(op == 80)=false:=eqF (by omega);have g:inB op 103 105=false:=inF (by omega);have h:inB op 121 123=false:=inF (by omega);have i:decide (167<=op)=true:=(by simp;omega);clear hs hg a b;go_in;go_wp2_with (go_at_call 139;refine(iY _ _ _ _).mono ?_;rintro e j ⟨rfl,rfl⟩);go_ret;rw[c.out];exact⟨rfl,rfl⟩
 ·have c:=fQ (show unB op=true by simp[unB,hg]);have d:(op == 69)=false:=eqF (by omega);have f:(op == 80)=false:=eqF (by omega);have g:inB op 103 105=false:=inF (by omega);have h:inB op 121 123=false:=inF (by omega);have i:decide (167<=op)=true:=(by simp;omega);clear hs hg a b;go_in;go_wp2_with (go_at_call 139;refine(iY _ _ _ _).mono ?_;rintro e j ⟨rfl,rfl⟩);go_ret;rw[c.out];exact⟨rfl,rfl⟩
theorem kK(op:Int)(w:Cx):Cv fZ 135 #[.int .i64 op] w (pY op w):=by
 rcases qV op with⟨hg,g,h,p,q,r⟩ | ⟨hg,g,h⟩ | ⟨hg,g,h⟩ | ⟨hg,g,h⟩ | ⟨hg,g,h⟩ | ⟨hg,g,h⟩ | ⟨hg,g,h⟩ | ⟨hg,g,h⟩ | ⟨hg,g,h⟩ | ⟨hg,g,h⟩ | ⟨hg,g,h⟩ | ⟨hg,g,h⟩ | ⟨hg,g,h⟩
 ·have b:=fQ (show ofV op=0 by simp[ofV,hg]);have c:=fQ (show fY op = [] by simp[fY,hg]);have d:=fQ (show lY op=0 by simp[lY,hg]);have f:=fQ (show(fW op).isSome=false by simp[hg]);clear hg g h p q r;go_in;go_wp2_with fail;refine(vV op _).mono ?_;rintro e a ⟨rfl,rfl⟩;rw[b.out];go_wp2;go_ret3;unfold pY;rw[c.out,d.out,f.out];exact⟨none,0,rfl,AQ _ _ _ _,Ax _ _⟩
 ·have b:=fQ (show ofV op=127 by simp[ofV,hg]);have i:=fQ (show unB op=true by simp[unB,hg]);have c:=fQ (show fY op = [127] by simp[fY,hg]);have d:=fQ (show lY op=127 by simp[lY,hg]);have f:=fQ (show(fW op).isSome=true by simp[hg]);have j:=fQ (show fW op≠none by simp[hg]);have k:inB op 69 90=true:=inT (by omega) (by omega);have l:(op == 167)=false:=eqF (by omega);have m:(op == 172)=false:=eqF (by omega);have o:(op == 173)=false:=eqF (by omega);clear hg g h;go_in;go_wp2_with fail;refine(vV op _).mono ?_;rintro e a ⟨rfl,rfl⟩;rw[b.out];go_wp2_with fail;refine(qW op _ j.out).mono ?_;rintro e a ⟨rfl,rfl⟩;rw[i.out];go_wp2_with (go_at_call 139;refine(iY _ _ _ _).mono ?_;rintro e a ⟨rfl,rfl⟩);go_ret3;unfold pY;rw[c.out,d.out,f.out];exact⟨_,_,rfl,yK 127,(Ax _ _).alloc (Aj _) _⟩
 ·have b:=fQ (show ofV op=127 by simp[ofV,hg]);have i:=fQ (show unB op=false by simp[unB,hg]);have c:=fQ (show fY op = [127,127] by simp[fY,hg]);have d:=fQ (show lY op=127 by simp[lY,hg]);have f:=fQ (show(fW op).isSome=true by simp[hg]);have j:=fQ (show fW op≠none by simp[hg]);have k:inB op 69 90=true:=inT (by omega) (by omega);have l:(op == 167)=false:=eqF (by omega);have m:(op == 172)=false:=eqF (by omega);have o:(op == 173)=false:=eqF (by omega);clear hg g h;go_in;go_wp2_with fail;refine(vV op _).mono ?_;rintro e a ⟨rfl,rfl⟩;rw[b.out];go_wp2_with fail;refine(qW op _ j.out).mono ?_;rintro e a ⟨rfl,rfl⟩;rw[i.out];go_wp2_with (go_at_call 139;refine(iY _ _ _ _).mono ?_;rintro e a ⟨rfl,rfl⟩);go_ret3;unfold pY;rw[c.out,d.out,f.out];exact⟨_,_,rfl,Blk.own (n:=2) (cs:=#[.int .i64 127,.int .i64 127]) (Blk.newAt _ _ _ rfl) (Aj _) rfl (by unfold maxLen;omega),(Ax _ _).alloc (Aj _) _⟩
 ·have b:=fQ (show ofV op=126 by simp[ofV,hg]);have i:=fQ (show unB op=true by simp[unB,hg]);have c:=fQ (show fY op = [126] by simp[fY,hg]);have d:=fQ (show lY op=127 by simp[lY,hg]);have f:=fQ (show(fW op).isSome=true by simp[hg]);have j:=fQ (show fW op≠none by simp[hg]);have k:inB op 69 90=true:=inT (by omega) (by omega);have l:(op == 167)=false:=eqF (by omega);have m:(op == 172)=false:=eqF (by omega);have o:(op == 173)=false:=eqF (by omega);clear hg g h;go_in;go_wp2_with fail;refine(vV op _).mono ?_;rintro e a ⟨rfl,rfl⟩;rw[b.out];go_wp2_with fail;refine(qW op _ j.out).mono ?_;rintro e a ⟨rfl,rfl⟩;rw[i.out];go_wp2_with (go_at_call 139;refine(iY _ _ _ _).mono ?_;rintro e a ⟨rfl,rfl⟩);go_ret3;unfold pY;rw[c.out,d.out,f.out];exact⟨_,_,rfl,yK 126,(Ax _ _).alloc (Aj _) _⟩
 ·have b:=fQ (show ofV op=126 by simp[ofV,hg]);have i:=fQ (show unB op=false by simp[unB,hg]);have c:=fQ (show fY op = [126,126] by simp[fY,hg]);have d:=fQ (show lY op=127 by simp[lY,hg]);have f:=fQ (show(fW op).isSome=true by simp[hg]);have j:=fQ (show fW op≠none by simp[hg]);have k:inB op 69 90=true:=inT (by omega) (by omega);have l:(op == 167)=false:=eqF (by omega);have m:(op == 172)=false:=eqF (by omega);have o:(op == 173)=false:=eqF (by omega);clear hg g h;go_in;go_wp2_with fail;refine(vV op _).mono ?_;rintro e a ⟨rfl,rfl⟩;rw[b.out];go_wp2_with fail;refine(qW op _ j.out).mono ?_;rintro e a ⟨rfl,rfl⟩;rw[i.out];go_wp2_with (go_at_call 139;refine(iY _ _ _ _).mono ?_;rintro e a ⟨rfl,rfl⟩);go_ret3;unfold pY;rw[c.out,d.out,f.out];exact⟨_,_,rfl,Blk.own (n:=2) (cs:=#[.int .i64 126,.int .i64 126]) (Blk.newAt _ _ _ rfl) (Aj _) rfl (by unfold maxLen;omega),(Ax _ _).alloc (Aj _) _⟩
 ·have b:=fQ (show ofV op=127 by simp[ofV,hg]);have i:=fQ (show unB op=true by simp[unB,hg]);have c:=fQ (show fY op = [127] by simp[fY,hg]);have d:=fQ (show lY op=127 by simp[lY,hg]);have f:=fQ (show(fW op).isSome=true by simp[hg]);have j:=fQ (show fW op≠none by simp[hg]);have k:inB op 69 90=false:=inF (by omega);have l:(op == 167)=false:=eqF (by omega);have m:(op == 172)=false:=eqF (by omega);have o:(op == 173)=false:=eqF (by omega);clear hg g h;go_in;go_wp2_with fail;refine(vV op _).mono ?_;rintro e a ⟨rfl,rfl⟩;rw[b.out];go_wp2_with fail;refine(qW op _ j.out).mono ?_;rintro e a ⟨rfl,rfl⟩;rw[i.out];go_wp2_with (go_at_call 139;refine(iY _ _ _ _).mono ?_;rintro e a ⟨rfl,rfl⟩);go_ret3;unfold pY;rw[c.out,d.out,f.out];exact⟨_,_,rfl,yK 127,(Ax _ _).alloc (Aj _) _⟩
 ·have b:=fQ (show ofV op=127 by simp[ofV,hg]);have i:=fQ (show unB op=false by simp[unB,hg]);have c:=fQ (show fY op = [127,127] by simp[fY,hg]);have d:=fQ (show lY op=127 by simp[lY,hg]);have f:=fQ (show(fW op).isSome=true by simp[hg]);have j:=fQ (show fW op≠none by simp[hg]);have k:inB op 69 90=false:=inF (by omega);have l:(op == 167)=false:=eqF (by omega);have m:(op == 172)=false:=eqF (by omega);have o:(op == 173)=false:=eqF (by omega);clear hg g h;go_in;go_wp2_with fail;refine(vV op _).mono ?_;rintro e a ⟨rfl,rfl⟩;rw[b.out];go_wp2_with fail;refine(qW op _ j.out).mono ?_;rintro e a ⟨rfl,rfl⟩;rw[i.out];go_wp2_with (go_at_call 139;refine(iY _ _ _ _).mono ?_;rintro e a ⟨rfl,rfl⟩);go_ret3;unfold pY;rw[c.out,d.out,f.out];exact⟨_,_,rfl,Blk.own (n:=2) (cs:=#[.int .i64 127,.int .i64 127]) (Blk.newAt _ _ _ rfl) (Aj _) rfl (by unfold maxLen;omega),(Ax _ _).alloc (Aj _) _⟩
 ·have b:=fQ (show ofV op=126 by simp[ofV,hg]);have i:=fQ (show unB op=true by simp[unB,hg]);have c:=fQ (show fY op = [126] by simp[fY,hg]);have d:=fQ (show lY op=126 by simp[lY,hg]);have f:=fQ (show(fW op).isSome=true by simp[hg]);have j:=fQ (show fW op≠none by simp[hg]);have k:inB op 69 90=false:=inF (by omega);have l:(op == 167)=false:=eqF (by omega);have m:(op == 172)=false:=eqF (by omega);have o:(op == 173)=false:=eqF (by omega);clear hg g h;go_in;go_wp2_with fail;refine(vV op _).mono ?_;rintro e a ⟨rfl,rfl⟩;rw[b.out];go_wp2_with fail;refine(qW op _ j.out).mono ?_;rintro e a ⟨rfl,rfl⟩;rw[i.out];go_wp2_with (go_at_call 139;refine(iY _ _ _ _).mono ?_;rintro e a ⟨rfl,rfl⟩);go_ret3;unfold pY;rw[c.out,d.out,f.out];exact⟨_,_,rfl,yK 126,(Ax _ _).alloc (Aj _) _⟩
 ·have b:=fQ (show ofV op=126 by simp[ofV,hg]);have i:=fQ (show unB op=false by simp[unB,hg]);have c:=fQ (show fY op = [126,126] by simp[fY,hg]);have d:=fQ (show lY op=126 by simp[lY,hg]);have f:=fQ (show(fW op).isSome=true by simp[hg]);have j:=fQ (show fW op≠none by simp[hg]);have k:inB op 69 90=false:=inF (by omega);have l:(op == 167)=false:=eqF (by omega);have m:(op == 172)=false:=eqF (by omega);have o:(op == 173)=false:=eqF (by omega);clear hg g h;go_in;go_wp2_with fail;refine(vV op _).mono ?_;rintro e a ⟨rfl,rfl⟩;rw[b.out];go_wp2_with fail;refine(qW op _ j.out).mono ?_;rintro e a ⟨rfl,rfl⟩;rw[i.out];go_wp2_with (go_at_call 139;refine(iY _ _ _ _).mono ?_;rintro e a ⟨rfl,rfl⟩);go_ret3;unfold pY;rw[c.out,d.out,f.out];exact⟨_,_,rfl,Blk.own (n:=2) (cs:=#[.int .i64 126,.int .i64 126]) (Blk.newAt _ _ _ rfl) (Aj _) rfl (by unfold maxLen;omega),(Ax _ _).alloc (Aj _) _⟩
 ·have b:=fQ (show ofV op=126 by simp[ofV,hg]);have i:=fQ (show unB op=true by simp[unB,hg]);have c:=fQ (show fY op = [126] by simp[fY,hg]);have d:=fQ (show lY op=127 by simp[lY,hg]);have f:=fQ (show(fW op).isSome=true by simp[hg]);have j:=fQ (show fW op≠none by simp[hg]);have k:inB op 69 90=false:=inF (by omega);have l:(op == 167)=true:=eqT (by omega) (by omega);have m:(op == 172)=false:=eqF (by omega);have o:(op == 173)=false:=eqF (by omega);clear hg g h;go_in;go_wp2_with fail;refine(vV op _).mono ?_;rintro e a ⟨rfl,rfl⟩;rw[b.out];go_wp2_with fail;refine(qW op _ j.out).mono ?_;rintro e a ⟨rfl,rfl⟩;rw[i.out];go_wp2_with (go_at_call 139;refine(iY _ _ _ _).mono ?_;rintro e a ⟨rfl,rfl⟩);go_ret3;unfold pY;rw[c.out,d.out,f.out];exact⟨_,_,rfl,yK 126,(Ax _ _).alloc (Aj _) _⟩
 ·rcases(show op=172\/op=173 by omega)with rfl | rfl
  ·have b:=fQ (show ofV 172=127 by simp[ofV,hg]);have i:=fQ (show unB 172=true by simp[unB,hg]);have c:=fQ (show fY 172 = [127] by simp[fY,hg]);have d:=fQ (show lY 172=126 by simp[lY,hg]);have f:=fQ (show(fW 172).isSome=true by simp[hg]);have j:=fQ (show fW 172≠none by simp[hg]);have k:inB 172 69 90=false:=(by decide);clear hg g h;go_in;go_wp2_with fail;refine(vV 172 _).mono ?_;rintro e a ⟨rfl,rfl⟩;rw[b.out];go_wp2_with fail;refine(qW 172 _ j.out).mono ?_;rintro e a ⟨rfl,rfl⟩;rw[i.out];go_wp2_with (go_at_call 139;refine(iY _ _ _ _).mono ?_;rintro e a ⟨rfl,rfl⟩);go_ret3;unfold pY;rw[c.out,d.out,f.out];exact⟨_,_,rfl,yK 127,(Ax _ _).alloc (Aj _) _⟩
  ·have b:=fQ (show ofV 173=127 by simp[ofV,hg]);have i:=fQ (show unB 173=true by simp[unB,hg]);have c:=fQ (show fY 173 = [127] by simp[fY,hg]);have d:=fQ (show lY 173=126 by simp[lY,hg]);have f:=fQ (show(fW 173).isSome=true by simp[hg]);have j:=fQ (show fW 173≠none by simp[hg]);have k:inB 173 69 90=false:=(by decide);clear hg g h;go_in;go_wp2_with fail;refine(vV 173 _).mono ?_;rintro e a ⟨rfl,rfl⟩;rw[b.out];go_wp2_with fail;refine(qW 173 _ j.out).mono ?_;rintro e a ⟨rfl,rfl⟩;rw[i.out];go_wp2_with (go_at_call 139;refine(iY _ _ _ _).mono ?_;rintro e a ⟨rfl,rfl⟩);go_ret3;unfold pY;rw[c.out,d.out,f.out];exact⟨_,_,rfl,yK 127,(Ax _ _).alloc (Aj _) _⟩
 ·have b:=fQ (show ofV op=127 by simp[ofV,hg]);have i:=fQ (show unB op=true by simp[unB,hg]);have c:=fQ (show fY op = [127] by simp[fY,hg]);have d:=fQ (show lY op=127 by simp[lY,hg]);have f:=fQ (show(fW op).isSome=true by simp[hg]);have j:=fQ (show fW op≠none by simp[hg]);have k:inB op 69 90=false:=inF (by omega);have l:(op == 167)=false:=eqF (by omega);have m:(op == 172)=false:=eqF (by omega);have o:(op == 173)=false:=eqF (by omega);clear hg g h;go_in;go_wp2_with fail;refine(vV op _).mono ?_;rintro e a ⟨rfl,rfl⟩;rw[b.out];go_wp2_with fail;refine(qW op _ j.out).mono ?_;rintro e a ⟨rfl,rfl⟩;rw[i.out];go_wp2_with (go_at_call 139;refine(iY _ _ _ _).mono ?_;rintro e a ⟨rfl,rfl⟩);go_ret3;unfold pY;rw[c.out,d.out,f.out];exact⟨_,_,rfl,yK 127,(Ax _ _).alloc (Aj _) _⟩
 ·have b:=fQ (show ofV op=126 by simp[ofV,hg]);have i:=fQ (show unB op=true by simp[unB,hg]);have c:=fQ (show fY op = [126] by simp[fY,hg]);have d:=fQ (show lY op=126 by simp[lY,hg]);have f:=fQ (show(fW op).isSome=true by simp[hg]);have j:=fQ (show fW op≠none by simp[hg]);have k:inB op 69 90=false:=inF (by omega);have l:(op == 167)=false:=eqF (by omega);have m:(op == 172)=false:=eqF (by omega);have o:(op == 173)=false:=eqF (by omega);clear hg g h;go_in;go_wp2_with fail;refine(vV op _).mono ?_;rintro e a ⟨rfl,rfl⟩;rw[b.out];go_wp2_with fail;refine(qW op _ j.out).mono ?_;rintro e a ⟨rfl,rfl⟩;rw[i.out];go_wp2_with (go_at_call 139;refine(iY _ _ _ _).mono ?_;rintro e a ⟨rfl,rfl⟩);go_ret3;unfold pY;rw[c.out,d.out,f.out];exact⟨_,_,rfl,yK 126,(Ax _ _).alloc (Aj _) _⟩
def bWa(k w:Int)(st a:Bool):Cz:=.agg #[.int .i64 k,.int .i64 w,.bool st,.bool a]
def aJz:List (Int×Int×Int×Bool×Bool):=[
 (40,127,4,false,false),
 (41,126,8,false,false),
 (44,127,1,false,true),
 (45,127,1,false,false),
 (46,127,2,false,true),
 (47,127,2,false,false),
 (48,126,1,false,true),
 (49,126,1,false,false),
 (50,126,2,false,true),
 (51,126,2,false,false),
 (52,126,4,false,true),
 (53,126,4,false,false),
 (54,127,4,true,false),
 (55,126,8,true,false),
 (58,127,1,true,false),
 (59,127,2,true,false),
 (60,126,1,true,false),
 (61,126,2,true,false),
 (62,126,4,true,false)]
def pX:List (Int×Cz):=aJz.map fun r=>(r.1,bWa r.2.1 r.2.2.1 r.2.2.2.1 r.2.2.2.2)
def acc(op:Int):Option (Int×Int×Bool×Bool):=(aJz.find? fun r=>decide (op=r.1)).map (·.2)
theorem aWb(op:Int):∀ (l:List (Int×Int×Int×Bool×Bool)) (j:Nat),
  (kJ op (l.map fun r=>(r.1,bWa r.2.1 r.2.2.1 r.2.2.2.1 r.2.2.2.2)) j).map (·.2)=(l.find? fun r=>decide (op=r.1)).map fun r=>bWa r.2.1 r.2.2.1 r.2.2.2.1 r.2.2.2.2
 | [],_=>rfl
 | r :: l,j=>by
  simp only[Ak,kJ,List.find?_cons];by_cases h:op=r.1
  ·simp[h]
  ·simp only[if_neg h,decide_eq_false h];exact aWb op l (j+1)
theorem cZg(h:acc op=none):kJ op pX 0=none:=by
 have h1:=aWb op aJz 0;unfold acc at h;rw[Ai]at h;rw[h,Option.map_none,Ai]at h1;exact h1
theorem cKj{k wd:Int}{a:Bool}(h:acc op=some (k,wd,st,a)):∃ j,kJ op pX 0=some (j,bWa k wd st a):=by
 have h1:=aWb op aJz 0;unfold acc at h;rw[AZ]at h;obtain⟨r,b,hv⟩:=h;rw[b,Option.map_some,AZ]at h1;obtain⟨p,hp,he⟩:=h1;refine⟨p.1,?_⟩;rw[hv]at he;show kJ op (aJz.map _) 0=_;rw[hp,<-he]
theorem lZ{k wd:Int}{b:Bool}(h:acc op=some (k,wd,st,b)):(k=127\/k=126)/\(wd=1\/wd=2\/wd=4\/wd=8)/\40<=op/\op<=62:=by
 unfold acc at h;rw[AZ]at h;obtain⟨r,a,hv⟩:=h;have c:=Aa a;have hp:=Be a;have d:∀ r∈aJz,(r.2.1=127\/r.2.1=126)/\(r.2.2.1=1\/r.2.2.1=2\/r.2.2.1=4\/r.2.2.1=8)/\40<=r.1/\r.1<=62:=(by decide);have:=d r c;rw[hv]at this;simp at hp;rw[hp];exact this
def nX(i:Nat):Obj:=lit (pX.take i)
theorem eWs(W:Cx):(Instr.mapUpdate 173 (.map (some W.heap.size)) (.int .i64 40) (.agg #[.int .i64 127,.int .i64 4,.bool false,.bool false])).run fZ (W.alloc (nX 0)) = .ok () (W.alloc (nX 1)):=
 iV W 173 3 171 (pX.take 0) 40 _ underlying173 underlying3 (by decide +kernel)
theorem eWt(W:Cx):(Instr.mapUpdate 173 (.map (some W.heap.size)) (.int .i64 41) (.agg #[.int .i64 126,.int .i64 8,.bool false,.bool false])).run fZ (W.alloc (nX 1)) = .ok () (W.alloc (nX 2)):=
 iV W 173 3 171 (pX.take 1) 41 _ underlying173 underlying3 (by decide +kernel)
theorem eWu(W:Cx):(Instr.mapUpdate 173 (.map (some W.heap.size)) (.int .i64 44) (.agg #[.int .i64 127,.int .i64 1,.bool false,.bool true])).run fZ (W.alloc (nX 2)) = .ok () (W.alloc (nX 3)):=
 iV W 173 3 171 (pX.take 2) 44 _ underlying173 underlying3 (by decide +kernel)
theorem eWv(W:Cx):(Instr.mapUpdate 173 (.map (some W.heap.size)) (.int .i64 45) (.agg #[.int .i64 127,.int .i64 1,.bool false,.bool false])).run fZ (W.alloc (nX 3)) = .ok () (W.alloc (nX 4)):=
 iV W 173 3 171 (pX.take 3) 45 _ underlying173 underlying3 (by decide +kernel)
theorem eWw(W:Cx):(Instr.mapUpdate 173 (.map (some W.heap.size)) (.int .i64 46) (.agg #[.int .i64 127,.int .i64 2,.bool false,.bool true])).run fZ (W.alloc (nX 4)) = .ok () (W.alloc (nX 5)):=
 iV W 173 3 171 (pX.take 4) 46 _ underlying173 underlying3 (by decide +kernel)
theorem eWx(W:Cx):(Instr.mapUpdate 173 (.map (some W.heap.size)) (.int .i64 47) (.agg #[.int .i64 127,.int .i64 2,.bool false,.bool false])).run fZ (W.alloc (nX 5)) = .ok () (W.alloc (nX 6)):=
 iV W 173 3 171 (pX.take 5) 47 _ underlying173 underlying3 (by decide +kernel)
theorem eWy(W:Cx):(Instr.mapUpdate 173 (.map (some W.heap.size)) (.int .i64 48) (.agg #[.int .i64 126,.int .i64 1,.bool false,.bool true])).run fZ (W.alloc (nX 6)) = .ok () (W.alloc (nX 7)):=
 iV W 173 3 171 (pX.take 6) 48 _ underlying173 underlying3 (by decide +kernel)
theorem eWz(W:Cx):(Instr.mapUpdate 173 (.map (some W.heap.size)) (.int .i64 49) (.agg #[.int .i64 126,.int .i64 1,.bool false,.bool false])).run fZ (W.alloc (nX 7)) = .ok () (W.alloc (nX 8)):=
 iV W 173 3 171 (pX.take 7) 49 _ underlying173 underlying3 (by decide +kernel)
theorem eYa(W:Cx):(Instr.mapUpdate 173 (.map (some W.heap.size)) (.int .i64 50) (.agg #[.int .i64 126,.int .i64 2,.bool false,.bool true])).run fZ (W.alloc (nX 8)) = .ok () (W.alloc (nX 9)):=
 iV W 173 3 171 (pX.take 8) 50 _ underlying173 underlying3 (by decide +kernel)
theorem eYb(W:Cx):(Instr.mapUpdate 173 (.map (some W.heap.size)) (.int .i64 51) (.agg #[.int .i64 126,.int .i64 2,.bool false,.bool false])).run fZ (W.alloc (nX 9)) = .ok () (W.alloc (nX 10)):=
 iV W 173 3 171 (pX.take 9) 51 _ underlying173 underlying3 (by decide +kernel)
theorem eVk(W:Cx):(Instr.mapUpdate 173 (.map (some W.heap.size)) (.int .i64 52) (.agg #[.int .i64 126,.int .i64 4,.bool false,.bool true])).run fZ (W.alloc (nX 10)) = .ok () (W.alloc (nX 11)):=
 iV W 173 3 171 (pX.take 10) 52 _ underlying173 underlying3 (by decide +kernel)
theorem eVl(W:Cx):(Instr.mapUpdate 173 (.map (some W.heap.size)) (.int .i64 53) (.agg #[.int .i64 126,.int .i64 4,.bool false,.bool false])).run fZ (W.alloc (nX 11)) = .ok () (W.alloc (nX 12)):=
 iV W 173 3 171 (pX.take 11) 53 _ underlying173 underlying3 (by decide +kernel)
theorem eVm(W:Cx):(Instr.mapUpdate 173 (.map (some W.heap.size)) (.int .i64 54) (.agg #[.int .i64 127,.int .i64 4,.bool true,.bool false])).run fZ (W.alloc (nX 12)) = .ok () (W.alloc (nX 13)):=
 iV W 173 3 171 (pX.take 12) 54 _ underlying173 underlying3 (by decide +kernel)
theorem eVn(W:Cx):(Instr.mapUpdate 173 (.map (some W.heap.size)) (.int .i64 55) (.agg #[.int .i64 126,.int .i64 8,.bool true,.bool false])).run fZ (W.alloc (nX 13)) = .ok () (W.alloc (nX 14)):=
 iV W 173 3 171 (pX.take 13) 55 _ underlying173 underlying3 (by decide +kernel)
theorem eVo(W:Cx):(Instr.mapUpdate 173 (.map (some W.heap.size)) (.int .i64 58) (.agg #[.int .i64 127,.int .i64 1,.bool true,.bool false])).run fZ (W.alloc (nX 14)) = .ok () (W.alloc (nX 15)):=
 iV W 173 3 171 (pX.take 14) 58 _ underlying173 underlying3 (by decide +kernel)
theorem eVp(W:Cx):(Instr.mapUpdate 173 (.map (some W.heap.size)) (.int .i64 59) (.agg #[.int .i64 127,.int .i64 2,.bool true,.bool false])).run fZ (W.alloc (nX 15)) = .ok () (W.alloc (nX 16)):=
 iV W 173 3 171 (pX.take 15) 59 _ underlying173 underlying3 (by decide +kernel)
theorem eVq(W:Cx):(Instr.mapUpdate 173 (.map (some W.heap.size)) (.int .i64 60) (.agg #[.int .i64 126,.int .i64 1,.bool true,.bool false])).run fZ (W.alloc (nX 16)) = .ok () (W.alloc (nX 17)):=
 iV W 173 3 171 (pX.take 16) 60 _ underlying173 underlying3 (by decide +kernel)
theorem eVr(W:Cx):(Instr.mapUpdate 173 (.map (some W.heap.size)) (.int .i64 61) (.agg #[.int .i64 126,.int .i64 2,.bool true,.bool false])).run fZ (W.alloc (nX 17)) = .ok () (W.alloc (nX 18)):=
 iV W 173 3 171 (pX.take 17) 61 _ underlying173 underlying3 (by decide +kernel)
theorem eVs(W:Cx):(Instr.mapUpdate 173 (.map (some W.heap.size)) (.int .i64 62) (.agg #[.int .i64 126,.int .i64 4,.bool true,.bool false])).run fZ (W.alloc (nX 18)) = .ok () (W.alloc (nX 19)):=
 iV W 173 3 171 (pX.take 18) 62 _ underlying173 underlying3 (by decide +kernel)
theorem oW(w:Cx):Cv fZ 119 #[] w fun e w'=>e = .returned (.map (some w.heap.size))/\w.alloc (nX 19)=w':=by
 have aa:∀ (t:Cw) (w:Cx),(Instr.makeMap t none).run fZ w = .ok (.map (some w.heap.size)) (w.alloc (nX 0)):=fun _ _=>rfl;have i0:=eWs;have i1:=eWt;have i2:=eWu;have i3:=eWv;have i4:=eWw;have i5:=eWx;have i6:=eWy;have i7:=eWz;have i8:=eYa;have i9:=eYb;have ad:=eVk;have ae:=eVl;have i12:=eVm;have af:=eVn;have ag:=eVo;have ah:=eVp;have i16:=eVq;have ai:=eVr;have aj:=eVs;go_in;go_wp2;go_ret;exact⟨rfl,rfl⟩
theorem cXl(w:Cx):(zeroValue 171).run fZ w = .ok (bWa 0 0 false false) w:=by kernel_rfl
theorem aWc(h:acc op=none)(W:Cx):(Instr.lookup 173 (.map (some W.heap.size)) (.int .i64 op) true).run fZ (W.alloc (nX 19)) = .ok (.tuple #[.agg #[.int .i64 0,.int .i64 0,.bool false,.bool false],.bool false]) (W.alloc (nX 19)):=by
 have:=pV (P:=fZ) W 173 3 171 _ (pX.take 19) op underlying173 underlying3 cXl;rw[show pX.take 19=pX from rfl,cZg h]at this;exact this
theorem yX{k wd:Int}{a:Bool}(h:acc op=some (k,wd,st,a))(W:Cx):(Instr.lookup 173 (.map (some W.heap.size)) (.int .i64 op) true).run fZ (W.alloc (nX 19)) = .ok (.tuple #[.agg #[.int .i64 k,.int .i64 wd,.bool st,.bool a],.bool true]) (W.alloc (nX 19)):=by
 have:=pV (P:=fZ) W 173 3 171 _ (pX.take 19) op underlying173 underlying3 cXl;obtain⟨j,b⟩:=cKj h;rw[show pX.take 19=pX from rfl,b]at this;exact this
def fK(op:Int):Cz:=match acc op with
 | some (k,wd,st,_)=>.tuple #[.int .i64 k,.int .i64 wd,.bool st,.bool true]
 | none=>.tuple #[.int .i64 0,.int .i64 0,.bool false,.bool false]
theorem kX{fn:Func}{t u v x:Tmp}(h:fn.results=#[.tmp t,.tmp u,.tmp v,.tmp x])(tmps:Array Cz)(P:Cy)(w:Cx):
  (results fn tmps).run P w = .ok (.tuple #[tmps.getD t undef,tmps.getD u undef,tmps.getD v undef,tmps.getD x undef]) w:=by simp[results,h]
theorem qQ(op:Int)(w:Cx):Cv fZ 88 #[.int .i64 op] w fun e w'=>e = .returned (fK op)/\Ck w.heap.size w w':=by
 have b:Ck w.heap.size w (w.alloc (nX 19)):=(Ax _ _).alloc (Aj _) _
 cases h:acc op with
 | none=>
  have a:=fQ (show fK op = .tuple #[.int .i64 0,.int .i64 0,.bool false,.bool false] by simp[fK,h]);have c:=aWc h;clear h;go_in;go_wp2_with fail;refine(oW _).mono ?_;rintro e d ⟨rfl,rfl⟩;go_wp2_with fail;go_quiet (fail);go_wp2;refine bodyPost_ret (kX rfl _ _ _) rfl ⟨?_,?_⟩
  ·rw[a.out];rfl
  ·exact fV (b.alloc (by simp) _) _
 | some r=>
  obtain⟨k,wd,st,sg⟩:=r;have a:=fQ (show fK op = .tuple #[.int .i64 k,.int .i64 wd,.bool st,.bool true] by simp[fK,h]);have c:=yX h;clear h;go_in;go_wp2_with fail;refine(oW _).mono ?_;rintro e d ⟨rfl,rfl⟩;go_wp2_with fail;go_quiet (fail);go_wp2;refine bodyPost_ret (kX rfl _ _ _) rfl ⟨?_,?_⟩
  ·rw[a.out];rfl
  ·exact fV (b.alloc (by simp) _) _
theorem cKk:acc 40=some (127,4,false,false):=by kernel_rfl
theorem cKl:acc 41=some (126,8,false,false):=by kernel_rfl
theorem cKm:acc 44=some (127,1,false,true):=by kernel_rfl
theorem cKn:acc 45=some (127,1,false,false):=by kernel_rfl
theorem cKo:acc 46=some (127,2,false,true):=by kernel_rfl
theorem cKp:acc 47=some (127,2,false,false):=by kernel_rfl
theorem cKq:acc 48=some (126,1,false,true):=by kernel_rfl
theorem cKr:acc 49=some (126,1,false,false):=by kernel_rfl
theorem cKs:acc 50=some (126,2,false,true):=by kernel_rfl
theorem cKt:acc 51=some (126,2,false,false):=by kernel_rfl
theorem cKu:acc 52=some (126,4,false,true):=by kernel_rfl
theorem cKv:acc 53=some (126,4,false,false):=by kernel_rfl
theorem cKw:acc 54=some (127,4,true,false):=by kernel_rfl
theorem cKx:acc 55=some (126,8,true,false):=by kernel_rfl
theorem cKy:acc 58=some (127,1,true,false):=by kernel_rfl
theorem cKz:acc 59=some (127,2,true,false):=by kernel_rfl
theorem cVa:acc 60=some (126,1,true,false):=by kernel_rfl
theorem cVb:acc 61=some (126,2,true,false):=by kernel_rfl
theorem cVc:acc 62=some (126,4,true,false):=by kernel_rfl
theorem bJq{Q:Int->Prop}(t:Q 40)(u:Q 41)(v:Q 44)(w:Q 45)(x:Q 46)(y:Q 47)(z:Q 48)(A:Q 49)(B:Q 50)(C:Q 51)(D:Q 52)(E:Q 53)(F:Q 54)(G:Q 55)(H:Q 58)(I:Q 59)(J:Q 60)(K:Q 61)(L:Q 62)(hn:∀ op,(op == 40)=false->(op == 41)=false->(op == 44)=false->(op == 45)=false->(op == 46)=false->(op == 47)=false->(op == 48)=false->(op == 49)=false->(op == 50)=false->(op == 51)=false->(op == 52)=false->(op == 53)=false->(op == 54)=false->(op == 55)=false->(op == 58)=false->(op == 59)=false->(op == 60)=false->(op == 61)=false->(op == 62)=false->Q op)(op:Int):Q op:=by
 by_cases a:op=40
 ·subst a;exact t
 by_cases b:op=41
 ·subst b;exact u
 by_cases c:op=44
 ·subst c;exact v
 by_cases d:op=45
 ·subst d;exact w
 by_cases e:op=46
 ·subst e;exact x
 by_cases f:op=47
 ·subst f;exact y
 by_cases g:op=48
 ·subst g;exact z
 by_cases h:op=49
 ·subst h;exact A
 by_cases i:op=50
 ·subst i;exact B
 by_cases j:op=51
 ·subst j;exact C
 by_cases k:op=52
 ·subst k;exact D
 by_cases l:op=53
 ·subst l;exact E
 by_cases m:op=54
 ·subst m;exact F
 by_cases n:op=55
 ·subst n;exact G
 by_cases o:op=58
 ·subst o;exact H
 by_cases p:op=59
 ·subst p;exact I
 by_cases q:op=60
 ·subst q;exact J
 by_cases r:op=61
 ·subst r;exact K
 by_cases s:op=62
 ·subst s;exact L
 exact hn op (beq_false_of_ne a) (beq_false_of_ne b) (beq_false_of_ne c) (beq_false_of_ne d) (beq_false_of_ne e) (beq_false_of_ne f) (beq_false_of_ne g) (beq_false_of_ne h) (beq_false_of_ne i) (beq_false_of_ne j) (beq_false_of_ne k) (beq_false_of_ne l) (beq_false_of_ne m) (beq_false_of_ne n) (beq_false_of_ne o) (beq_false_of_ne p) (beq_false_of_ne q) (beq_false_of_ne r) (beq_false_of_ne s)
theorem cXm(aa:(op == 40)=false)(ad:(op == 41)=false)(ae:(op == 44)=false)(af:(op == 45)=false)(ag:(op == 46)=false)(ah:(op == 47)=false)(ai:(op == 48)=false)(aj:(op == 49)=false)(ak:(op == 50)=false)(al:(op == 51)=false)(an:(op == 52)=false)(ao:(op == 53)=false)(aq:(op == 54)=false)(ar:(op == 55)=false)(au:(op == 58)=false)(aw:(op == 59)=false)(ax:(op == 60)=false)(ay:(op == 61)=false)(az:(op == 62)=false):acc op=none:=by
 simp only[beq_eq_false_iff_ne,ne_eq]at *;simp[acc,aJz, *]
theorem cVd(w:Cx):Cv fZ 113 #[.int .i64 40] w fun e w'=>e = .returned (.tuple #[.int .i64 127,.int .i64 4,.bool false,.bool true])/\w=w':=by
 go_in;go_wp2;refine bodyPost_ret (kX rfl _ _ _) rfl ⟨rfl,rfl⟩
theorem cVe(w:Cx):Cv fZ 113 #[.int .i64 41] w fun e w'=>e = .returned (.tuple #[.int .i64 126,.int .i64 8,.bool false,.bool true])/\w=w':=by
 go_in;go_wp2;refine bodyPost_ret (kX rfl _ _ _) rfl ⟨rfl,rfl⟩
theorem cVf(w:Cx):Cv fZ 113 #[.int .i64 44] w fun e w'=>e = .returned (.tuple #[.int .i64 127,.int .i64 1,.bool false,.bool true])/\w=w':=by
 go_in;go_wp2;refine bodyPost_ret (kX rfl _ _ _) rfl ⟨rfl,rfl⟩
theorem cVg(w:Cx):Cv fZ 113 #[.int .i64 45] w fun e w'=>e = .returned (.tuple #[.int .i64 127,.int .i64 1,.bool false,.bool true])/\w=w':=by
 go_in;go_wp2;refine bodyPost_ret (kX rfl _ _ _) rfl ⟨rfl,rfl⟩
theorem cVh(w:Cx):Cv fZ 113 #[.int .i64 46] w fun e w'=>e = .returned (.tuple #[.int .i64 127,.int .i64 2,.bool false,.bool true])/\w=w':=by
 go_in;go_wp2;refine bodyPost_ret (kX rfl _ _ _) rfl ⟨rfl,rfl⟩
theorem cVi(w:Cx):Cv fZ 113 #[.int .i64 47] w fun e w'=>e = .returned (.tuple #[.int .i64 127,.int .i64 2,.bool false,.bool true])/\w=w':=by
 go_in;go_wp2;refine bodyPost_ret (kX rfl _ _ _) rfl ⟨rfl,rfl⟩
theorem cVj(w:Cx):Cv fZ 113 #[.int .i64 48] w fun e w'=>e = .returned (.tuple #[.int .i64 126,.int .i64 1,.bool false,.bool true])/\w=w':=by
 go_in;go_wp2;refine bodyPost_ret (kX rfl _ _ _) rfl ⟨rfl,rfl⟩
theorem cVk(w:Cx):Cv fZ 113 #[.int .i64 49] w fun e w'=>e = .returned (.tuple #[.int .i64 126,.int .i64 1,.bool false,.bool true])/\w=w':=by
 go_in;go_wp2;refine bodyPost_ret (kX rfl _ _ _) rfl ⟨rfl,rfl⟩
theorem cVl(w:Cx):Cv fZ 113 #[.int .i64 50] w fun e w'=>e = .returned (.tuple #[.int .i64 126,.int .i64 2,.bool false,.bool true])/\w=w':=by
 go_in;go_wp2;refine bodyPost_ret (kX rfl _ _ _) rfl ⟨rfl,rfl⟩
theorem cVm(w:Cx):Cv fZ 113 #[.int .i64 51] w fun e w'=>e = .returned (.tuple #[.int .i64 126,.int .i64 2,.bool false,.bool true])/\w=w':=by
 go_in;go_wp2;refine bodyPost_ret (kX rfl _ _ _) rfl ⟨rfl,rfl⟩
theorem cVn(w:Cx):Cv fZ 113 #[.int .i64 52] w fun e w'=>e = .returned (.tuple #[.int .i64 126,.int .i64 4,.bool false,.bool true])/\w=w':=by
 go_in;go_wp2;refine bodyPost_ret (kX rfl _ _ _) rfl ⟨rfl,rfl⟩
theorem cVo(w:Cx):Cv fZ 113 #[.int .i64 53] w fun e w'=>e = .returned (.tuple #[.int .i64 126,.int .i64 4,.bool false,.bool true])/\w=w':=by
 go_in;go_wp2;refine bodyPost_ret (kX rfl _ _ _) rfl ⟨rfl,rfl⟩
theorem cVp(w:Cx):Cv fZ 113 #[.int .i64 54] w fun e w'=>e = .returned (.tuple #[.int .i64 127,.int .i64 4,.bool true,.bool true])/\w=w':=by
 go_in;go_wp2;refine bodyPost_ret (kX rfl _ _ _) rfl ⟨rfl,rfl⟩
theorem cVq(w:Cx):Cv fZ 113 #[.int .i64 55] w fun e w'=>e = .returned (.tuple #[.int .i64 126,.int .i64 8,.bool true,.bool true])/\w=w':=by
 go_in;go_wp2;refine bodyPost_ret (kX rfl _ _ _) rfl ⟨rfl,rfl⟩
theorem cVr(w:Cx):Cv fZ 113 #[.int .i64 58] w fun e w'=>e = .returned (.tuple #[.int .i64 127,.int .i64 1,.bool true,.bool true])/\w=w':=by
 go_in;go_wp2;refine bodyPost_ret (kX rfl _ _ _) rfl ⟨rfl,rfl⟩
theorem cVs(w:Cx):Cv fZ 113 #[.int .i64 59] w fun e w'=>e = .returned (.tuple #[.int .i64 127,.int .i64 2,.bool true,.bool true])/\w=w':=by
 go_in;go_wp2;refine bodyPost_ret (kX rfl _ _ _) rfl ⟨rfl,rfl⟩
theorem cVt(w:Cx):Cv fZ 113 #[.int .i64 60] w fun e w'=>e = .returned (.tuple #[.int .i64 126,.int .i64 1,.bool true,.bool true])/\w=w':=by
 go_in;go_wp2;refine bodyPost_ret (kX rfl _ _ _) rfl ⟨rfl,rfl⟩
theorem cVu(w:Cx):Cv fZ 113 #[.int .i64 61] w fun e w'=>e = .returned (.tuple #[.int .i64 126,.int .i64 2,.bool true,.bool true])/\w=w':=by
 go_in;go_wp2;refine bodyPost_ret (kX rfl _ _ _) rfl ⟨rfl,rfl⟩
theorem cVv(w:Cx):Cv fZ 113 #[.int .i64 62] w fun e w'=>e = .returned (.tuple #[.int .i64 126,.int .i64 4,.bool true,.bool true])/\w=w':=by
 go_in;go_wp2;refine bodyPost_ret (kX rfl _ _ _) rfl ⟨rfl,rfl⟩
theorem cZh(w:Cx)(aa:(op == 40)=false)(ad:(op == 41)=false)(ae:(op == 44)=false)(af:(op == 45)=false)(ag:(op == 46)=false)(ah:(op == 47)=false)(ai:(op == 48)=false)(aj:(op == 49)=false)(ak:(op == 50)=false)(al:(op == 51)=false)(an:(op == 52)=false)(ao:(op == 53)=false)(aq:(op == 54)=false)(ar:(op == 55)=false)(au:(op == 58)=false)(aw:(op == 59)=false)(ax:(op == 60)=false)(ay:(op == 61)=false)(az:(op == 62)=false):Cv fZ 113 #[.int .i64 op] w fun e w'=>e = .returned (.tuple #[.int .i64 0,.int .i64 0,.bool false,.bool false])/\w=w':=by
 go_in;go_wp2;refine bodyPost_ret (kX rfl _ _ _) rfl ⟨rfl,rfl⟩
theorem gX(op:Int)(w:Cx):Cv fZ 113 #[.int .i64 op] w fun e w'=>e = .returned (fK op)/\w=w':=by
 revert op
 refine bJq (by rw[fK,cKk];exact cVd w) (by rw[fK,cKl];exact cVe w) (by rw[fK,cKm];exact cVf w) (by rw[fK,cKn];exact cVg w) (by rw[fK,cKo];exact cVh w) (by rw[fK,cKp];exact cVi w) (by rw[fK,cKq];exact cVj w) (by rw[fK,cKr];exact cVk w) (by rw[fK,cKs];exact cVl w) (by rw[fK,cKt];exact cVm w) (by rw[fK,cKu];exact cVn w) (by rw[fK,cKv];exact cVo w) (by rw[fK,cKw];exact cVp w) (by rw[fK,cKx];exact cVq w) (by rw[fK,cKy];exact cVr w) (by rw[fK,cKz];exact cVs w) (by rw[fK,cVa];exact cVt w) (by rw[fK,cVb];exact cVu w) (by rw[fK,cVc];exact cVv w) ?_;intro op a b c d f g h i j k l m n o p q r s t;rw[fK,cXm a b c d f g h i j k l m n o p q r s t];exact cZh w a b c d f g h i j k l m n o p q r s t
def sgn(op:Int):Bool:=match acc op with
 | some (_,_,_,a)=>a
 | none=>false
theorem cZi{k wd:Int}{a:Bool}(h:acc op=some (k,wd,st,a))(w:Cx):Cv fZ 136 #[.int .i64 op] w fun e w'=>e = .returned (.bool a)/\w=w':=by
 have key:∀ op:Int,sgn op=(op == 44 || (op == 46 || (op == 48 || (op == 50 || op == 52)))):=by
  refine bJq (by rw[sgn,cKk];rfl) (by rw[sgn,cKl];rfl) (by rw[sgn,cKm];rfl) (by rw[sgn,cKn];rfl) (by rw[sgn,cKo];rfl) (by rw[sgn,cKp];rfl) (by rw[sgn,cKq];rfl) (by rw[sgn,cKr];rfl) (by rw[sgn,cKs];rfl) (by rw[sgn,cKt];rfl) (by rw[sgn,cKu];rfl) (by rw[sgn,cKv];rfl) (by rw[sgn,cKw];rfl) (by rw[sgn,cKx];rfl) (by rw[sgn,cKy];rfl) (by rw[sgn,cKz];rfl) (by rw[sgn,cVa];rfl) (by rw[sgn,cVb];rfl) (by rw[sgn,cVc];rfl) ?_;intro op i j b l c m d n f o g p q r s t u v x;rw[sgn,cXm i j b l c m d n f o g p q r s t u v x,b,c,d,f,g];rfl
 have y:=fQ (show a=(op == 44 || (op == 46 || (op == 48 || (op == 50 || op == 52)))) by rw[<-key op,sgn,h]);clear h key;go_in;go_wp2
 all_goals go_ret
 all_goals refine⟨?_,rfl⟩
 all_goals rw[y.out]
 all_goals (simp_all [Bool.or_assoc])
end Go.Proofs.YtabibkpfgmolkaaGreatDoor

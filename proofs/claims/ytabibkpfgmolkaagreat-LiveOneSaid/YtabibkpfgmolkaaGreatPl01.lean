/- Lemmas for the claim, part 1. Conditions: none. -/
import Derived.BigQuiet
import Derived.Deep.Slices
import Derived.Lib.Hide
import Derived.Sort.Grow
import Derived.WalkLawsBesides
import Derived.WalkSpells
set_option maxRecDepth 100000
set_option maxHeartbeats 16000000
set_option linter.unusedVariables false
set_option linter.unusedSimpArgs false
open Go.RowKit
open List renaming getElem?_eq_getElem→Aj,map_cons→Ax,eq_nil_of_length_eq_zero→Az,getElem?_append_right→Av,getElem?_eq_none→Aw,getElem?_map→AJ,getElem?_append_left→AX,map_append→AK,map_nil→AV,nodup_append→AW,ext_getElem?→AY,flatten_cons→Aa,mem_append→Ac,filter_eq_self→Ae,getElem?_take→Ai,cons_append→Bx,take_of_length_le→Bk,getElem?_modify→By,flatten_append→BZ,mem_cons→BK,mem_singleton→BY,map_toArray→Bd,getElem_mem→Be,length_take→Bf,flatten_nil→Bh,length_map→Cj,append_nil→Cx,replicate→Ck,range→CJ
open Nat renaming le_refl→Aq,eq_zero_or_pos→Ah,mul_one→Bq,le_trans→Bz,zero_mul→Bv,mul_le_mul_right→BJ,lt_of_lt_of_le→BV,zero_add→Bb,sub_self→Bc,mod_eq_of_lt→Bg,add_mul→Bi,min_eq_left→Cq,add_zero→Cv,mul_pos→Cw
open Array renaming getElem?_setIfInBounds→Ak,toList_push→Ay,toList_filter→AQ,getElem?_modify→Ab,toList_modify→Ad,getElem?_push→BQ,length_toList→BX,ext_getElem?→BW
open Go.World renaming grownBy_alloc→AZ,cell?→Bw,ownsRow_nil→Ba
open Go.Addr renaming add_lit→Af
open Go.Value renaming int→Ag,ownBlock→Cz,bool→Cy
open UInt8 renaming ofNat→Bj
open Go renaming World→CQ,Value→CX,TypeId→CK,Program→CV
open Go.RowKit renaming Below→CZ
namespace Go.Proofs.YtabibkpfgmolkaaGreat
theorem fX {α:Sort _}(a:α):∃ b,a=b:=⟨a,rfl⟩
variable {w w' a:CQ}{e t kt:CK}{n b base k g size B r c:Nat}{v:CX}{A:Option Addr}{l s:List Int}
def Src(w:CQ)(A:Option Addr)(n:Nat)(a:List CX):Prop:=
 a.length=n/\(0<n->∃ b o,A=some ⟨b,o,none⟩/\b<w.heap.size/\∀ j u,a[j]? = some u->w.cell? ⟨b,o+j,none⟩=some u)
theorem Src.nil(w:CQ)(A:Option Addr):Src w A 0 []:=⟨rfl,fun h=>absurd h (by omega)⟩
theorem Src.below{a:List CX}(h:Src w A n a)(hb:CZ B w w')(hB:w.heap.size<=B):Src w' A n a:=
 ⟨h.1,fun hn=>by
  obtain⟨b,o,e,c,hc⟩:=h.2 hn
  exact⟨b,o,e,BV c hb.size,fun j u d=>(hb.cell (by show b<B;omega)).trans (hc j u d)⟩⟩
theorem Src.at_{o:Nat}{s:Option Nat}{a:List CX}(h:Src w (some ⟨b,o,s⟩) n a)(c:k<n):
  w.cell? ⟨b,o+k,none⟩=some (a[k]'(by rw[h.1];exact c)):=by
 obtain⟨b',o',e,_,hc⟩:=h.2 (by omega);injection e with e;injection e with d e2;subst d;subst e2;exact hc k _ (Aj (by rw[h.1];exact c))
theorem Src.addr{a:List CX}(h:Src w A n a)(hn:0<n):∃ b o,A=some ⟨b,o,none⟩/\b<w.heap.size:=by
 obtain⟨b,o,e,c,_⟩:=h.2 hn;exact⟨b,o,e,c⟩
theorem Src.eXq{a:List CX}(h:w.ownsRow base e 1 (.slice A n c) n a):Src w A n a:=by
 refine⟨by simpa using h.1,fun hn=>?_⟩;rcases h.2 with⟨h1,h2⟩ | ⟨g,cap,cur,h1,_,hg,_,_,_,_⟩
 ·omega
 ·have b:A=some ⟨g,0,none⟩:=(by injection h1);subst b;refine⟨g,0,rfl,(Array.getElem?_eq_some_iff.1 hg).1,fun j u d=>?_⟩;have:=h.cells (g:=g) rfl j u d
  rwa[Af]at this
theorem oY{a:List CX}(h:w.ownsRow base e size v n a)(hb:CZ B w w')(hB:w.heap.size<=B):w'.ownsRow base e size v n a:=by
 refine⟨h.1,?_⟩;rcases h.2 with h2 | ⟨g,cap,cur,h1,h2,hg,r⟩
 ·exact .inl h2
 ·refine .inr ⟨g,cap,cur,h1,h2,?_,r⟩;rw[hb.block g (by have:=(Array.getElem?_eq_some_iff.1 hg).1;omega)];exact hg
theorem lZ{base':Nat}{a:List CX}(h:w.ownsRow base e size v n a)(hb:base'<=base):w.ownsRow base' e size v n a:=by
 refine⟨h.1,?_⟩;rcases h.2 with h2 | ⟨g,cap,cur,h1,h2,r⟩
 ·exact .inl h2
 ·exact .inr ⟨g,cap,cur,h1,Bz hb h2,r⟩
theorem gZ{a:List CX}(h:w.ownsRow base e size v n a):
  ∃ A c,v = .slice A n c/\n<=c:=by
 rcases h.2 with⟨h1,h2⟩ | ⟨g,cap,cur,h1,_,_,b,_⟩
 ·subst h2;exact⟨none,0,h1,Aq _⟩
 ·exact⟨_,_,h1,b⟩
theorem aWt{P:CV}{ops:Array Oper}{rest:List Oper}{o:Oper}{a:Act}{Q:Exit->Act->CQ->Prop}(w:CQ)(D:o.guard=none)(s x:Operand)(t:CK)
  (ho:o.op = .call { callee:=.builtin .append,args:=#[s,x],argTypes:=#[t,t] })
  (base:Nat) (e:CK) (z:CX) (bytes:Nat) (l:P.underlying t=some (.slice e)) (hinfo:(P.info? e).map (fun i=>(i.zero,i.size,i.bytes))=some (some z,1,bytes)) (E:z.cells.size=1)
  (v:CX) (n:Nat) (k:List CX) (hs:a.eval s=v) (p:w.ownsRow base e 1 v n k)
  (A:Option Addr) (m c:Nat) (news:List CX) (F:a.eval x = .slice A m c) (f:Src w A m news) (h1:∀ u∈news,u.oneCell'=true)
  (G:n+m<=maxLen) (hbytes:(n+m)*bytes<=140737488355328) (hbase:base<=w.heap.size)
  (h:∀ d w',w'.ownsRow base e 1 d (n+m) (k++news)->w.grownBy w' v.ownBlock->wpList P ops Q rest (a.put o.dst d) w'):wpList P ops Q (o :: rest) a w:=by
 obtain⟨i,hi,hz,hsz,H⟩:=info_parts hinfo
 have key:∃ d w',(Builtin.append_ #[t,t] o.type #[v,.slice A m c]).run P w = .ok d w'/\w'.ownsRow base e 1 d (n+m) (k++news)/\w.grownBy w' v.ownBlock:=by
  rcases A with _ | I
  ·have B:m=0:=by
    rcases Ah m with q | q
    ·exact q
    ·obtain⟨b,o,J,_⟩:=f.2 q;cases J
   have L:news = []:=Az (by rw[f.1,B]);subst L;subst B;refine⟨v,w,?_,by simpa using p,World.grownBy.refl w _⟩;rcases p.2 with⟨rfl,rfl⟩ | ⟨g,cap,cur,rfl,_,_,M,_⟩
   ·simp[Builtin.append_,run_underlying l,sizeOf,typeInfo,hi,Builtin.lenOf,Builtin.firstCells]
   ·simp[Builtin.append_,run_underlying l,sizeOf,typeInfo,hi,Builtin.lenOf,Builtin.firstCells,M,storeCells]
  ·obtain⟨d,w',r,h2,y,_⟩:=run_append_own (P:=P) w base t o.type e i z 1 bytes l hi hz hsz H E (by omega) v n k p I m c news (by simpa using f.1)
    (fun j u C=>by
     have hj:=(List.getElem?_eq_some_iff.1 C).1;obtain⟨b,o,e',_,hc⟩:=f.2 (by have:=f.1;omega);injection e' with e';subst e';rw[Af]
     exact hc j u C) h1 G hbytes hbase
   exact⟨d,w',r,h2,y⟩
 obtain⟨d,w',r,h2,y⟩:=key;refine wpList_plain D fun K N=>?_;unfold Oper.wp execOp;simp only[ho,resolve,invoke,builtin,Sem.run_bind,Sem.run_pure,Result.andThen_ok,Bd,Ax,AV,hs,F,r];exact N _ _ (h d w' h2 y)
theorem aXc{b:List CX}(h:CZ B a w)(hg:w.grownBy w' v.ownBlock)(c:w.ownsRow base e size v n b)(d:B<=base)(hs:B<=w.heap.size):CZ B a w':=
 h.grown hg hs (fun k f=>Bz d (c.lt k f).1)
def bys(l:List Nat):List CX:=l.map fun c:Nat=>.int .u8 (c:Int)
theorem aVc(l:List Nat):(bys l).length=l.length:=by simp[bys]
theorem aQf(l:List Nat):∀ u∈bys l,u.oneCell'=true:=by
 intro u a;obtain⟨_,_,rfl⟩:=List.mem_map.1 a;rfl
theorem dXx(a b:List Nat):bys (a++b)=bys a++bys b:=by simp[bys]
theorem dXy{l:List Nat}(h:k<(bys l).length):(bys l)[k] = .int .u8 ((l[k]'(by simpa[bys]using h):Nat):Int):=by simp[bys]
theorem dXz(l:List Nat)(k c:Nat):(bys l).set k (.int .u8 (c:Int))=bys (l.set k c):=by
 unfold bys;rw[List.map_set]
def AllB(l:List Nat):Prop:=∀ c∈l,c<256
theorem AllB.get{l:List Nat}(h:AllB l)(a:k<l.length):l[k]<256:=h _ (Be a)
theorem bQd(w:CQ)(v:CX)(e:CK):Src (w.alloc (.cells #[v] e)) (some ⟨w.heap.size,0,none⟩) 1 [v]:=by
 refine⟨rfl,fun _=>⟨_,_,rfl,by simp,fun j u a=>?_⟩⟩
 match j,a with
 | 0,a=>
  simp at a;subst a;simp
def bZx(l:List Nat):ByteArray:=⟨(l.map Bj).toArray⟩
theorem aVs(l:List Nat):(bZx l).toList=l.map Bj:=by
 unfold bZx;rw[ByteArray.toList_mk]
theorem aJu:∀ (a b:List Nat),AllB a->AllB b->a.map Bj=b.map Bj->a=b
 | [],[],_,_,_=>rfl
 | [],y :: b,_,_,h=>by simp at h
 | x :: a,[],_,_,h=>by simp at h
 | x :: a,y :: b,ha,hb,h=>by
  simp only[Ax,List.cons.injEq]at h;obtain⟨h1,h2⟩:=h;have hx:x<256:=ha x (by simp);have hy:y<256:=hb y (by simp);have d:=congrArg UInt8.toNat h1;simp only[UInt8.toNat_ofNat']at d;rw[aJu a b (fun c hc=>ha c (by simp[hc])) (fun c hc=>hb c (by simp[hc])) h2];rw[show x=y from by omega]
theorem dZa{a b:List Nat}(ha:AllB a)(hb:AllB b):((bZx a).toList == (bZx b).toList)=decide (a=b):=by
 rw[aVs,aVs,Bool.eq_iff_iff];simp only[beq_iff_eq,decide_eq_true_eq];exact⟨aJu a b ha hb,fun h=>by rw[h]⟩
theorem bZy{P:CV}(w:CQ)(src dst e:CK)(hs:P.underlying src=some (.slice e))(he:P.underlying e=some (.int .u8))(hd:P.underlying dst=some .string)
  (A:Option Addr) (n c:Nat) (l:List Nat) (h:Src w A n (bys l)) (f:AllB l):(convert src dst (.slice A n c)).run P w = .ok (.string (bZx l)) w:=by
 have hn:l.length=n:=(by rw[<-h.1,aVc]);rcases A with _ | g
 ·have d:n=0:=by
   rcases Ah n with d | d
   ·exact d
   ·obtain⟨b,o,a,_⟩:=h.2 d;cases a
  have:l = []:=Az (by omega);subst this;rw[run_convert_bytes_nil w src e hs he n c dst hd];rfl
 ·have hb:=run_convert_bytes_back (P:=P) w src dst e g c (l.map Bj) hs he hd (fun j i=>by
   have m:j<n:=(by simp at i;omega);obtain⟨b,o,a,_,hc⟩:=h.2 (by omega);injection a with a;subst a;rw[Af,hc j _ (Aj (by rw[h.1];exact m)),dXy];have:=f.get (k:=j) (by omega);simp
   omega)
  rw[Cj,hn]at hb;exact hb
theorem cQx{x:Addr}(h:w.cell? x=some v):x.spot=none/\x.block<w.heap.size:=by
 unfold Bw at h
 split at h
 ·rename_i a
  split at h
  ·cases h
  ·rename_i hs;exact⟨by simpa using hs,(Array.getElem?_eq_some_iff.1 a).1⟩
 ·cases h
theorem uY{P:CV}{ops:Array Oper}{rest:List Oper}{o:Oper}{a:Act}{Q:Exit->Act->CQ->Prop}(w:CQ)(d:o.guard=none)(s x:Operand)(t:CK)
  (ho:o.op = .call { callee:=.builtin .append,args:=#[s,x],argTypes:=#[t,t] })
  (e:CK) (z:CX) (bytes:Nat) (f:P.underlying t=some (.slice e)) (hinfo:(P.info? e).map (fun i=>(i.zero,i.size,i.bytes))=some (some z,1,bytes)) (g:z.cells.size=1)
  (hs:a.eval s = .slice none 0 0)
  (A:Option Addr) (m c:Nat) (news:List CX) (j:a.eval x = .slice A m c) (k:Src w A m news) (h1:∀ u∈news,u.oneCell'=true)
  (ad:m<=maxLen) (hbytes:m*bytes<=140737488355328)
  (h:∀ b w',w'.ownsRow w.heap.size e 1 b m news->CZ w.heap.size w w'->wpList P ops Q rest (a.put o.dst b) w'):wpList P ops Q (o :: rest) a w:=
 aWt w d s x t ho w.heap.size e z bytes f hinfo g (.slice none 0 0) 0 [] hs (Ba _ _ _ _) A m c news j k h1 (by omega) (by rw[Bb];exact hbytes) (Aq _) fun b w' h2 l=>
  h b w' (by simpa using h2) (aXc (Below.refl _ _) l (Ba w w.heap.size e 1) (Aq _) (Aq _))
theorem aQw{P:CV}{ops:Array Oper}{rest:List Oper}{o:Oper}{a:Act}{Q:Exit->Act->CQ->Prop}(w:CQ)(g:o.guard=none)(s x:Operand)(t:CK)
  (ho:o.op = .call { callee:=.builtin .append,args:=#[s,x],argTypes:=#[t,t] })
  (base:Nat) (e:CK) (z:CX) (bytes:Nat) (j:P.underlying t=some (.slice e)) (hinfo:(P.info? e).map (fun i=>(i.zero,i.size,i.bytes))=some (some z,1,bytes)) (k:z.cells.size=1)
  (v:CX) (n:Nat) (d:List CX) (hs:a.eval s=v) (f:w.ownsRow base e 1 v n d)
  (A:Option Addr) (m c:Nat) (news:List CX) (l:a.eval x = .slice A m c) (p:Src w A m news) (h1:∀ u∈news,u.oneCell'=true)
  (q:n+m<=maxLen) (hbytes:(n+m)*bytes<=140737488355328) (hbase:base<=w.heap.size)
  (h:∀ b w',w'.ownsRow base e 1 b (n+m) (d++news)->CZ base w w'->wpList P ops Q rest (a.put o.dst b) w'):wpList P ops Q (o :: rest) a w:=
 aWt w g s x t ho base e z bytes j hinfo k v n d hs f A m c news l p h1 q hbytes hbase fun b w' h2 r=>
  h b w' h2 (aXc (Below.refl _ _) r f (Aq _) hbase)
def Blk(w:CQ)(g:Nat)(e:CK)(cs:Array CX):Prop:=w.heap[g]? = some (.cells cs e (0,0))
theorem Blk.lt{cs:Array CX}(h:Blk w g e cs):g<w.heap.size:=(Array.getElem?_eq_some_iff.1 h).1
theorem Blk.new(w:CQ)(e:CK)(cs:Array CX):Blk (w.alloc (.cells cs e)) w.heap.size e cs:=heap_alloc_new w _
theorem Blk.below{cs:Array CX}(h:Blk w g e cs)(hb:CZ B w w')(a:g<B):Blk w' g e cs:=(hb.block g a).trans h
theorem Blk.cell{w:CQ}{g:Nat}{e:CK}{cs:Array CX}(h:Blk w g e cs)(i:Nat):w.cell? ⟨g,i,none⟩=cs[i]?:=cell_of_row w g i cs e (0,0) h
theorem Blk.src{cs:Array CX}(h:Blk w g e cs)(n:Nat)(hn:n<=cs.size):Src w (some ⟨g,0,none⟩) n (cs.toList.take n):=by
 refine⟨by simp;omega,fun _=>⟨g,0,rfl,h.lt,fun j u a=>?_⟩⟩;rw[Bb,h.cell];rw[Ai]at a
 split at a
 ·simpa using a
 ·cases a
theorem fK(h:CZ B a w)(n:Nat):CZ B a (w.drewN n):=⟨h.os,h.tape,h.output,h.size,h.block⟩
theorem aZg(k:IntKind)(x:Int):∀ u ∈ [Ag k x],u.oneCell'=true:=by
 intro u a;obtain rfl:=List.mem_singleton.1 a;rfl
theorem nQ{p:Nat}{a:List CX}(h:w.ownsRow p e 1 v n a)(hn:1<=n):∃ g c,v = .slice (some ⟨g,0,none⟩) n c/\g<w.heap.size/\p<=g/\n<=c:=by
 rcases h.2 with⟨_,h⟩ | ⟨g',aa,cur,rfl,h1,h2,b,r⟩
 ·omega
 ·exact⟨_,_,rfl,(Array.getElem?_eq_some_iff.1 h2).1,h1,b⟩
theorem Src.take{w:CQ}{A:Option Addr}{n i:Nat}{c:List CX}(h:Src w A n c)(hi:i<=n):Src w A i (c.take i):=by
 refine⟨by rw[Bf,h.1];omega,fun h0=>?_⟩;obtain⟨b,o,e,d,hc⟩:=h.2 (by omega);refine⟨b,o,e,d,fun j u a=>hc j u ?_⟩;rw[Ai]at a
 split at a
 ·exact a
 ·cases a
theorem Src.drop{w:CQ}{b o n i:Nat}{a:List CX}(h:Src w (some ⟨b,o,none⟩) n a)(hi:i<=n):Src w (some ⟨b,o+i,none⟩) (n - i) (a.drop i):=by
 refine⟨by rw[List.length_drop,h.1],fun h0=>?_⟩;obtain⟨b',o',e,c,hc⟩:=h.2 (by omega);injection e with e;injection e with d e2;subst d;subst e2;refine⟨b,o+i,rfl,c,fun j u f=>?_⟩;rw[Nat.add_assoc];exact hc (i+j) u (by rw[<-f,List.getElem?_drop])
theorem cQy{a:Int}(h:(Lit.int .u8 a).wf=true):0<=a/\a<256:=by
 simp[Lit.wf,IntKind.min,IntKind.max,IntKind.bits,IntKind.signed]at h;omega
theorem aWu{a:Int}(h:(Lit.int .u64 a).wf=true):0<=a/\a<18446744073709551616:=by
 simp[Lit.wf,IntKind.min,IntKind.max,IntKind.bits,IntKind.signed]at h;omega
theorem i64_bounds{a:Int}(h:(Lit.int .i64 a).wf=true): -9223372036854775808<=a/\a<=9223372036854775807:=by
 simp[Lit.wf,IntKind.min,IntKind.max,IntKind.bits,IntKind.signed]at h;omega
theorem aXd(h:n<18446744073709551616):IntKind.u64.wrap (n:Int)=(n:Int):=by
 rw[IntKind.wrap_u64];omega
theorem aVt{a:Nat}(ha:a<18446744073709551616)(hb:b<18446744073709551616):bits .or .u64 (a:Int) (b:Int)=((a ||| b:Nat):Int):=by
 have hx:a ||| b<2 ^ 64:=Nat.or_lt_two_pow (by omega) (by omega);show IntKind.u64.wrap ((BitVec.ofInt 64 (a:Int) ||| BitVec.ofInt 64 (b:Int)).toNat:Int)=_;rw[BitVec.toNat_or,BitVec.ofInt_natCast,BitVec.ofInt_natCast,BitVec.toNat_ofNat,BitVec.toNat_ofNat,Bg (by omega),Bg (by omega)];exact aXd (by omega)
def zY:Nat->List (Int×CX)->List MapEntry
 | _,[]=>[]
 | i,(k,v) :: r=>{ key:=.int .i64 k,val:=v,born:=i } :: zY (i+1) r
theorem bZz:∀ (i:Nat) (a b:List (Int×CX)),zY i (a++b)=zY i a++zY (i+a.length) b
 | i,[],b=>by simp[zY]
 | i,(k,v) :: a,b=>by
  simp only[Bx,zY,bZz (i+1) a b,List.length_cons];rw[show i+1+a.length=i+(a.length+1)from by omega]
def kY(op:Int):List (Int×CX)->Nat->Option (Nat×CX)
 | [],_=>none
 | (k,v) :: r,j=>if op=k then some (j,v)else kY op r (j+1)
theorem aXe(op:Int):∀ (l:List (Int×CX)) (i j:Nat),Instr.findNow (.int .i64) (.int .i64 op) (zY i l) j=some (kY op l j)
 | [],_,_=>rfl
 | (k,v) :: r,i,j=>by
  simp only[zY,Instr.findNow,Instr.sameNow,kY,if_true];by_cases h:op=k
  ·simp[h]
  ·have:(op == k)=false:=(by simp[h]);rw[this];simp only[if_neg h];exact aXe op r (i+1) (j+1)
def lit(l:List (Int×CX)):Obj:=.map (zY 0 l).toArray l.length
theorem vW{P:CV}(w:CQ)(b:Bool)(n:Nat)(t:CK)(k:IntKind)(x:Int)(h:P.underlying t=some (.int .i64)):(Instr.checkKey b (n+1) t (.int k x)).run P w = .ok () w:=by
 simp[Instr.checkKey,run_underlying h]
theorem yJ{P:CV}{a:Array MapEntry}{clock:Nat}(hb:w.heap[r]? = some (.map a clock)):(getObj r).run P w = .ok (.map a clock) w:=by
 simp[getObj,Sem.run,hb]
theorem aZh{P:CV}{a:Array MapEntry}{clock:Nat}(o:Obj)(hb:w.heap[r]? = some (.map a clock)):(setObj r o).run P w = .ok () { w with heap:=w.heap.setIfInBounds r o }:=by
 simp[setObj,Sem.run,hb]
theorem aXf{P:CV}{d:TypeDesc}{k:CX}{l:List MapEntry}{a:Option (Nat×CX)}(hd:P.underlying kt=some d)(h:Instr.findNow d k l 0=some a):(Instr.findKey kt k l).run P w = .ok a w:=by
 simp[Instr.findKey,run_underlying hd,h]
theorem cQz(W:CQ)(o a:Obj):({ W.alloc o with heap:=(W.alloc o).heap.setIfInBounds W.heap.size a }:CQ)=W.alloc a:=by
 show({ ({ W with heap:=W.heap.push o }:CQ)with heap:=(W.heap.push o).setIfInBounds W.heap.size a }:CQ)={ W with heap:=W.heap.push a }
 have e:(W.heap.push o).setIfInBounds W.heap.size a=W.heap.push a:=by
  apply BW;intro i;simp only[Ak,BQ,Array.size_push];by_cases h:W.heap.size=i
  ·subst h;simp
  ·rw[if_neg h,if_neg (by omega),if_neg (by omega)]
 rw[e]
theorem jX{P:CV}(W:CQ)(t kt d:CK)(l:List (Int×CX))(k:Int)(v:CX)(f:P.underlying t=some (.map kt d))(a:P.underlying kt=some (.int .i64))(hn:kY k l 0=none):
  (Instr.mapUpdate t (.map (some W.heap.size)) (.int .i64 k) v).run P (W.alloc (lit l)) = .ok () (W.alloc (lit (l ++ [(k,v)]))):=by
 have hb:(W.alloc (lit l)).heap[W.heap.size]? = some (.map (zY 0 l).toArray l.length):=heap_alloc_new W _;have h1:=yJ (P:=P) hb;have h2:=vW (P:=P) (W.alloc (lit l)) false 9999 kt .i64 k a;have b:=aXf (P:=P) (w:=W.alloc (lit l)) a (aXe k l 0 0);rw[hn]at b;have c:=aZh (P:=P) (.map ((zY 0 l).toArray.push { key:=.int .i64 k,val:=v,born:=l.length }) (l.length+1)) hb;rw[cQz]at c
 have e:lit (l ++ [(k,v)]) = .map ((zY 0 l).toArray.push { key:=.int .i64 k,val:=v,born:=l.length }) (l.length+1):=by
  unfold lit;rw[bZz];simp[zY]
 rw[e];unfold Instr.mapUpdate;simp only[Sem.run_bind,run_underlying f,Result.andThen_ok,h1,h2,b,c]
theorem aZi{P:CV}(W:CQ)(t kt a:CK)(z:CX)(l:List (Int×CX))(k:Int)(d:P.underlying t=some (.map kt a))(c:P.underlying kt=some (.int .i64))(hz:∀ w,(zeroValue a).run P w = .ok z w):
  (Instr.lookup t (.map (some W.heap.size)) (.int .i64 k) true).run P (W.alloc (lit l)) = .ok (.tuple #[((kY k l 0).map (·.2)).getD z,.bool (kY k l 0).isSome]) (W.alloc (lit l)):=by
 have hb:(W.alloc (lit l)).heap[W.heap.size]? = some (.map (zY 0 l).toArray l.length):=heap_alloc_new W _;have h1:=yJ (P:=P) hb;have h2:=fun b=>vW (P:=P) (W.alloc (lit l)) b 9999 kt .i64 k c;have e:=aXf (P:=P) (w:=W.alloc (lit l)) c (aXe k l 0 0);unfold Instr.lookup;simp only[Sem.run_bind,run_underlying d,Result.andThen_ok,h1,Sem.run_pure,h2,e]
 cases kY k l 0 with
 | none=>simp[hz,Result.andThen]
 | some p=>simp[Sem.run_pure]
theorem Blk.alloc{w:CQ}{g:Nat}{e:CK}{cs:Array CX}(h:Blk w g e cs)(o:Obj):Blk (w.alloc o) g e cs:=h.below ((Below.refl w.heap.size _).alloc (Aq _) _) h.lt
theorem Blk.newAt(w:CQ){N:Nat}(e:CK)(cs:Array CX)(h:w.heap.size=N):Blk (w.alloc (.cells cs e)) N e cs:=by
 subst h;exact Blk.new w e cs
theorem Blk.drew{w:CQ}{g:Nat}{e:CK}{cs:Array CX}(h:Blk w g e cs):Blk w.drew g e cs:=h
theorem Blk.drewN{w:CQ}{g:Nat}{e:CK}{cs:Array CX}(h:Blk w g e cs)(n:Nat):Blk (w.drewN n) g e cs:=h
theorem Blk.own{cs:Array CX}(h:Blk w g e cs)(hb:base<=g)(hn:cs.size=n)(a:n<=maxLen):w.ownsRow base e 1 (.slice (some ⟨g,0,none⟩) n n) n cs.toList:=by
 subst hn;exact⟨by simp,.inr ⟨g,cs.size,cs,rfl,hb,h,Aq _,a,by simp,by rw[Bq];exact Bk (by simp)⟩⟩
theorem Blk.eXm{cs:Array CX}(h:Blk w g e cs)(hn:cs.size=n):Src w (some ⟨g,0,none⟩) n cs.toList:=by
 have:=h.src n (by omega)
 rwa[Bk (by simp;omega)]at this
theorem bJa{a:List CX}(h:w.ownsRow base e size v n a):w.drew.ownsRow base e size v n a:=h
theorem jY{a:List CX}(h:w.ownsRow base e size v n a)(o:Obj):(w.alloc o).ownsRow base e size v n a:=oY h ((Below.refl w.heap.size _).alloc (Aq _) _) (Aq _)
theorem Src.alloc{w:CQ}{A:Option Addr}{n:Nat}{a:List CX}(h:Src w A n a)(o:Obj):Src (w.alloc o) A n a:=h.below ((Below.refl w.heap.size _).alloc (Aq _) _) (Aq _)
theorem kV{P:CV}{ops:Array Oper}{rest:List Oper}{o:Oper}{a:Act}{Q:Exit->Act->CQ->Prop}(w:CQ)(F:o.guard=none)(s x:Operand)(t:CK)
  (ho:o.op = .call { callee:=.builtin .append,args:=#[s,x],argTypes:=#[t,t] })
  (base:Nat) (e:CK) (z:CX) (size bytes:Nat) (l:P.underlying t=some (.slice e)) (hinfo:(P.info? e).map (fun i=>(i.zero,i.size,i.bytes))=some (some z,size,bytes)) (G:z.cells.size=size) (D:0<size)
  (v:CX) (n:Nat) (k:List CX) (hs:a.eval s=v) (p:w.ownsRow base e size v n k)
  (A:Option Addr) (m c:Nat) (news:List CX) (H:a.eval x = .slice A m c) (f:Src w A (m*size) news) (h1:∀ u∈news,u.oneCell'=true)
  (I:n+m<=maxLen) (hbytes:(n+m)*bytes<=140737488355328) (hbase:base<=w.heap.size)
  (h:∀ d w',w'.ownsRow base e size d (n+m) (k++news)->w.grownBy w' v.ownBlock->(d.ownBlock=v.ownBlock\/d.ownBlock=some w.heap.size)->(d = .slice none 0 0↔v = .slice none 0 0/\m=0)->wpList P ops Q rest (a.put o.dst d) w'):wpList P ops Q (o :: rest) a w:=by
 obtain⟨i,hi,hz,hsz,J⟩:=info_parts hinfo
 have key:∃ d w',(Builtin.append_ #[t,t] o.type #[v,.slice A m c]).run P w = .ok d w'/\w'.ownsRow base e size d (n+m) (k++news)/\w.grownBy w' v.ownBlock/\(d.ownBlock=v.ownBlock\/d.ownBlock=some w.heap.size)/\(d = .slice none 0 0↔v = .slice none 0 0/\m=0):=by
  rcases A with _ | L
  ·have M:m=0:=by
    rcases Ah m with q | q
    ·exact q
    ·obtain⟨b,o,N,_⟩:=f.2 (Cw q D);cases N
   subst M;have O:news = []:=Az (by rw[f.1,Bv]);subst O;refine⟨v,w,?_,by simpa using p,World.grownBy.refl w _,.inl rfl,by simp⟩;rcases p.2 with⟨rfl,rfl⟩ | ⟨g,cap,cur,rfl,_,_,R,_⟩
   ·simp[Builtin.append_,run_underlying l,sizeOf,typeInfo,hi,Builtin.lenOf,Builtin.firstCells]
   ·simp[Builtin.append_,run_underlying l,sizeOf,typeInfo,hi,Builtin.lenOf,Builtin.firstCells,R,storeCells]
  ·obtain⟨d,w',r,h2,y,B,C⟩:=run_append_own_at (P:=P) w base t o.type e i z size bytes l hi hz hsz J G D v n k p L m c news f.1
    (fun j u E=>by
     have hj:=(List.getElem?_eq_some_iff.1 E).1;obtain⟨b,o,e',_,hc⟩:=f.2 (by have:=f.1;omega);injection e' with e';subst e';rw[Af]
     exact hc j u E) h1 I hbytes hbase
   exact⟨d,w',r,h2,y,C,B⟩
 obtain⟨d,w',r,h2,y,B,C⟩:=key;refine wpList_plain F fun K S=>?_;unfold Oper.wp execOp;simp only[ho,resolve,invoke,builtin,Sem.run_bind,Sem.run_pure,Result.andThen_ok,Bd,Ax,AV,hs,H,r];exact S _ _ (h d w' h2 y B C)
theorem Blk.grown{cs:Array CX}{r:Option Nat}(h:Blk w g e cs)(hg:w.grownBy w' r)(a:r≠some g):Blk w' g e cs:=by
 unfold Blk;rw[hg.block g h.lt (fun e=>a e.symm)];exact h
theorem lV{a:List CX}{r:Option Nat}(h:w.ownsRow base e size v n a)(hg:w.grownBy w' r)(b:∀ g,v.ownBlock=some g->r≠some g):w'.ownsRow base e size v n a:=by
 refine h.kept hg ?_
 cases c:v.ownBlock with
 | none=>exact .inl rfl
 | some g=>exact .inr (fun e=>b g c e.symm)
theorem Src.grown{c:List CX}{r:Option Nat}(h:Src w A n c)(hg:w.grownBy w' r)(f:∀ a,A=some a->r≠some a.block):Src w' A n c:=by
 refine⟨h.1,fun hn=>?_⟩;obtain⟨b,o,e,d,hc⟩:=h.2 hn;refine⟨b,o,e,BV d hg.size,fun j u g=>?_⟩;have hb:=hg.block b d (fun e'=>f _ e e'.symm);rw[<-hc j u g];unfold Bw;rw[hb]
theorem jV{r:Option Nat}(h:CZ B a w)(hg:w.grownBy w' r)(hs:B<=w.heap.size)(b:∀ k,r=some k->B<=k):CZ B a w':=h.grown hg hs b
abbrev KV:=List (Int×CX)
def aXg:KV->Int->Option CX
 | [],_=>none
 | (a,x) :: r,k=>if k=a then some x else aXg r k
def aXh:KV->Int->CX->KV
 | [],k,v=>[(k,v)]
 | (a,x) :: r,k,v=>if k=a then(a,v) :: r else(a,x) :: aXh r k v
def EM(a:List MapEntry)(m:KV):Prop:=a.map (fun e=>(e.key,e.val))=m.map fun p=>(Ag .i64 p.1,p.2)
theorem EM.cons{e:MapEntry}{a:List MapEntry}{m:KV}(h:EM (e :: a) m):∃ k v r,m=(k,v) :: r/\e.key = .int .i64 k/\e.val=v/\EM a r:=by
 cases m with
 | nil=>simp[EM]at h
 | cons p r=>
  obtain⟨k,v⟩:=p;simp only[EM,Ax,List.cons.injEq,Prod.mk.injEq]at h;exact⟨k,v,r,rfl,h.1.1,h.1.2,h.2⟩
theorem EM.mk{e:MapEntry}{a:List MapEntry}{k:Int}{v:CX}{r:KV}(h1:e.key = .int .i64 k)(h2:e.val=v)(h:EM a r):EM (e :: a) ((k,v) :: r):=by
 simp only[EM,Ax,List.cons.injEq,Prod.mk.injEq]at h ⊢;exact⟨⟨h1,h2⟩,h⟩
theorem EM.len{a:List MapEntry}{m:KV}(h:EM a m):a.length=m.length:=by
 have:=congrArg List.length h
 simpa using this
theorem aVd(k:Int):∀ (b:List MapEntry) (m:KV) (j:Nat),EM b m->Instr.findNow (.int .i64) (.int .i64 k) b j=some (kY k m j)
 | [],m,j,h=>by
  cases m with
  | nil=>rfl
  | cons p r=>simp[EM]at h
 | e :: b,m,j,h=>by
  obtain⟨a,v,r,rfl,h1,h2,d⟩:=h.cons;simp only[Instr.findNow,h1,Instr.sameNow,if_true,kY];by_cases c:k=a
  ·simp[c,h2]
  ·have:(k == a)=false:=(by simp[c]);rw[this];simp only[if_neg c];exact aVd k b r (j+1) d
theorem aWe(k:Int):∀ (m:KV) (j:Nat),(kY k m j).map (·.2)=aXg m k
 | [],_=>rfl
 | (a,x) :: r,j=>by
  simp only[kY,aXg];by_cases b:k=a
  ·simp[b]
  ·simp only[if_neg b];exact aWe k r (j+1)
theorem bQx{k:Int}:∀ {m:KV} {j:Nat},kY k m j=none->∀ v,aXh m k v=m ++ [(k,v)]
 | [],_,_,v=>rfl
 | (a,x) :: r,j,h,v=>by
  simp only[kY]at h;by_cases b:k=a
  ·simp[b]at h
  ·simp only[if_neg b]at h;simp only[aXh,if_neg b,Bx,bQx h v]
theorem cXa{k:Int}{v:CX}:∀ {b:List MapEntry} {m:KV} {j i:Nat} {x:CX},EM b m->kY k m j=some (i,x) ->
  j<=i/\(∃ e,b[i - j]? = some e/\e.key = .int .i64 k)/\EM (b.modify (i - j) fun e=>{ e with key:=.int .i64 k,val:=v }) (aXh m k v)
 | [],m,j,i,x,h,hf=>by
  cases m with
  | nil=>simp[kY]at hf
  | cons p r=>simp[EM]at h
 | e :: b,m,j,i,x,h,hf=>by
  obtain⟨a,y,r,rfl,h1,h2,d⟩:=h.cons;simp only[kY]at hf;by_cases c:k=a
  ·subst c;simp only[if_true,Option.some.injEq,Prod.mk.injEq]at hf;obtain⟨rfl,rfl⟩:=hf;refine⟨Aq _,⟨e,by simp,h1⟩,?_⟩;simp only[Bc,aXh,if_true];exact EM.mk rfl rfl d
  ·simp only[if_neg c]at hf;obtain⟨k1,⟨e',k2,f⟩,g⟩:=cXa (v:=v) d hf;have hi:i - j=(i - (j+1))+1:=(by omega);refine⟨by omega,⟨e',by rw[hi];simpa using k2,f⟩,?_⟩;rw[hi];simp only[aXh,if_neg c];exact EM.mk h1 h2 g
def IM(w:CQ)(b:Nat)(m:KV):Prop:=
 ∃ a clock,w.heap[b]? = some (.map a clock)/\EM a.toList m/\(a.toList.map (·.born)).Nodup/\∀ e∈a.toList,e.born<clock
theorem IM.lt{m:KV}(h:IM w b m):b<w.heap.size:=by
 obtain⟨es,clock,hb,_⟩:=h;exact(Array.getElem?_eq_some_iff.1 hb).1
theorem IM.new(w:CQ):IM (w.alloc (.map #[] 0)) w.heap.size []:=⟨#[],0,heap_alloc_new w _,rfl,by simp,by simp⟩
theorem IM.newAt{N:Nat}(h:w.heap.size=N):IM (w.alloc (.map #[] 0)) N []:=by subst h;exact IM.new w
theorem IM.grown{m:KV}{r:Option Nat}(h:IM w b m)(hg:w.grownBy w' r)(a:r≠some b):IM w' b m:=by
 have c:=h.lt;obtain⟨d,clock,hb,f⟩:=h;exact⟨d,clock,(hg.block b c (fun e=>a e.symm)).trans hb,f⟩
theorem IM.below{m:KV}(h:IM w b m)(hb:CZ B w w')(a:b<B):IM w' b m:=by
 obtain⟨c,clock,h1,d⟩:=h;exact⟨c,clock,(hb.block b a).trans h1,d⟩
theorem IM.alloc{w:CQ}{b:Nat}{m:KV}(h:IM w b m)(o:Obj):IM (w.alloc o) b m:=h.grown (AZ w o none) (by simp)
theorem IM.drew{w:CQ}{b:Nat}{m:KV}(h:IM w b m):IM w.drew b m:=h
theorem IM.setCell{w:CQ}{b:Nat}{m:KV}(h:IM w b m){p:Addr}(v:CX)(hp:b≠p.block):IM (w.setCell p v) b m:=by
 obtain⟨a,clock,h1,c⟩:=h;exact⟨a,clock,(heap_setCell_other w p b v hp).trans h1,c⟩
theorem aXs(o:Obj)(_:b<w.heap.size):w.grownBy { w with heap:=w.heap.setIfInBounds b o } (some b):=
 ⟨rfl,rfl,rfl,by simp,fun k hk a=>by
  simp only[Ak]
  rw[if_neg (fun e=>a (by rw[e]))]⟩
theorem IM.put(hb:b<w.heap.size)(a:Array MapEntry)(clock:Nat){m:KV}(h1:EM a.toList m)(h2:(a.toList.map (·.born)).Nodup)(c:∀ e∈a.toList,e.born<clock):IM { w with heap:=w.heap.setIfInBounds b (.map a clock) } b m:=
 ⟨a,clock,by simp[hb],h1,h2,c⟩
theorem dYm{P:CV}(w:CQ)(k:Int):(Instr.keyThatStays (.int .i64 k) (.int .i64 k)).run P w = .ok (.int .i64 k) w:=by
 simp[Instr.keyThatStays,Instr.sameBits]
theorem IM.lookup{P:CV}{w:CQ}{b:Nat}{m:KV}(h:IM w b m){t kt d:CK}{z:CX}(f:P.underlying t=some (.map kt d))(e:P.underlying kt=some (.int .i64))(hz:(zeroValue d).run P w = .ok z w)(k:Int):
  (Instr.lookup t (.map (some b)) (.int .i64 k) false).run P w = .ok ((aXg m k).getD z) w /\
  (Instr.lookup t (.map (some b)) (.int .i64 k) true).run P w = .ok (.tuple #[(aXg m k).getD z,.bool (aXg m k).isSome]) w:=by
 obtain⟨g,clock,hb,he,_,_⟩:=h;have h1:=yJ (P:=P) hb;have h2:=fun c=>vW (P:=P) w c 9999 kt .i64 k e;have i:=aXf (P:=P) (w:=w) e (aVd k g.toList m 0 he);have a:=aWe k m 0;unfold Instr.lookup;simp only[Sem.run_bind,run_underlying f,Result.andThen_ok,h1,Sem.run_pure,h2,i]
 cases hf:kY k m 0 with
 | none=>rw[hf]at a;rw[<-a];simp[hz]
 | some p=>rw[hf]at a;rw[<-a];simp[Sem.run_pure]
theorem IM.update{P:CV}{m:KV}(h:IM w b m){u:CK}(y:P.underlying t=some (.map kt u))(q:P.underlying kt=some (.int .i64))(k:Int)(v:CX):
  ∃ w',(Instr.mapUpdate t (.map (some b)) (.int .i64 k) v).run P w = .ok () w'/\IM w' b (aXh m k v)/\w.grownBy w' (some b)/\w'.heap.size=w.heap.size:=by
 have l:=h.lt;obtain⟨d,clock,hb,he,hn,hc⟩:=h;have h1:=yJ (P:=P) hb;have h2:=fun c=>vW (P:=P) w c 9999 kt .i64 k q;have z:=aXf (P:=P) (w:=w) q (aVd k d.toList m 0 he);unfold Instr.mapUpdate;simp only[Sem.run_bind,run_underlying y,Result.andThen_ok,h1,h2,z]
 cases hf:kY k m 0 with
 | none=>
  have n:=aZh (P:=P) (.map (d.push { key:=.int .i64 k,val:=v,born:=clock }) (clock+1)) hb;refine⟨_,n,IM.put l _ _ ?_ ?_ ?_,aXs _ l,by simp⟩
  ·rw[bQx hf v];simp only[EM,Ay,AK,Ax,AV]at he ⊢;rw[he]
  ·simp only[Ay,AK,Ax,AV];rw[AW];refine⟨hn,by simp,fun a ha c A=>?_⟩;obtain⟨e,g,rfl⟩:=List.mem_map.1 ha;simp at A;have:=hc e g;omega
  ·intro e g;simp only[Ay,Ac,BY]at g;rcases g with h | h
   ·have:=hc e h;omega
   ·subst h;simp
 | some p=>
  obtain⟨i,x⟩:=p;obtain⟨k1,⟨e0,k2,B⟩,r⟩:=cXa (v:=v) he hf;simp only[Nat.sub_zero]at k2 r
  have C:((d[i]?).map (·.key)).getD (.int .i64 k) = .int .i64 k:=by
   have:d[i]? = some e0:=(by simpa using k2);rw[this]
   simpa using B
  have n:=aZh (P:=P) (.map (d.modify i fun e=>{ e with key:=.int .i64 k,val:=v }) clock) hb
  have D:(Instr.keyThatStays (((d[i]?).map (·.key)).getD (.int .i64 k)) (.int .i64 k) >>= fun key=>setObj b (.map (d.modify i fun e=>{ e with key,val:=v }) clock)).run P w = .ok () { w with heap:=w.heap.setIfInBounds b (.map (d.modify i fun e=>{ e with key:=.int .i64 k,val:=v }) clock) }:=by
   rw[C,Sem.run_bind,dYm,Result.andThen_ok,n]
  refine⟨_,D,IM.put l _ _ ?_ ?_ ?_,aXs _ l,by simp⟩
  ·simpa[Ad]using r
  ·have e:((d.modify i fun e=>{ e with key:=.int .i64 k,val:=v }).toList.map (·.born))=d.toList.map (·.born):=by
    rw[Ad];apply AY;intro j;simp only[AJ,By];by_cases f:i=j
    ·subst f;cases d.toList[i]? <;> simp
    ·simp[f]
   rw[e];exact hn
  ·intro e g;rw[Ad]at g;obtain⟨j,f⟩:=List.mem_iff_getElem?.1 g;rw[By]at f
   cases o:d.toList[j]? with
   | none=>rw[o]at f;simp at f
   | some E=>
    rw[o]at f;have:=hc E (List.mem_of_getElem? o);by_cases s:i=j
    ·simp[s]at f;rw[<-f];exact this
    ·simp[s]at f;rw[<-f];exact this
section
variable {P:CV} {ops:Array Oper} {rest:List Oper} {o:Oper} {a:Act} {Q:Exit->Act->CQ->Prop}
theorem cXb(w:CQ)(hg:o.guard=none)(m x v:Operand)(t:CK)(c:o.op=Op.mapUpdate t m x v)(kt d:CK)(e:P.underlying t=some (.map kt d))(f:P.underlying kt=some (.int .i64))
  (b:Nat) (M:KV) (k:Int) (val:CX) (g:a.eval m = .map (some b)) (h:a.eval x = .int .i64 k) (i:a.eval v=val) (j:IM w b M)
  (l:∀ w',IM w' b (aXh M k val)->w.grownBy w' (some b)->w'.heap.size=w.heap.size->wpList P ops Q rest (a.put o.dst undef) w'):wpList P ops Q (o :: rest) a w:=by
 refine wpList_plain hg fun K' n=>?_;obtain⟨w',p,q,r,s⟩:=j.update (P:=P) e f k val;unfold Oper.wp;simp[execOp,c,g,h,i,p,Result.andThen];exact n _ _ (l w' q r s)
end
section
open Go.ChangeMaps
def IT(w:CQ)(b r:Nat)(m L:KV):Prop:=
 ∃ a clock seen,w.heap[b]? = some (.map a clock)/\EM a.toList m/\(a.toList.map (·.born)).Nodup/\(∀ e∈a.toList,e.born<clock)/\w.heap[r]? = some (.mapIter (some b) clock seen clock)/\EM (leftOf a seen).toList L
theorem IT.im{m L:KV}(h:IT w b r m L):IM w b m:=by
 obtain⟨a,clock,seen,h1,h2,c,d,_⟩:=h;exact⟨a,clock,h1,h2,c,d⟩
theorem IT.lt{m L:KV}(h:IT w b r m L):r<w.heap.size:=by
 obtain⟨es,clock,seen,h1,h2,h3,h4,a,_⟩:=h;exact(Array.getElem?_eq_some_iff.1 a).1
theorem IT.ne{m L:KV}(h:IT w b r m L):r≠b:=by
 obtain⟨es,clock,seen,h1,h2,h3,h4,a,_⟩:=h;intro e;subst e;rw[h1]at a;cases a
theorem IT.grown{m L:KV}{row:Option Nat}(h:IT w b r m L)(hg:w.grownBy w' row)(hb:row≠some b)(a:row≠some r):IT w' b r m L:=by
 have c:=h.im.lt;have d:=h.lt;obtain⟨f,clock,seen,h1,h2,g,i,j,k⟩:=h;exact⟨f,clock,seen,(hg.block b c (fun e=>hb e.symm)).trans h1,h2,g,i,(hg.block r d (fun e=>a e.symm)).trans j,k⟩
theorem IT.alloc{w:CQ}{b r:Nat}{m L:KV}(h:IT w b r m L)(o:Obj):IT (w.alloc o) b r m L:=h.grown (AZ w o none) (by simp) (by simp)
theorem IT.left{m L:KV}(h:IT w b r m L):w.rangeLeft b r=L.length:=by
 obtain⟨es,clock,seen,h1,h2,h3,h4,a,c⟩:=h;unfold World.rangeLeft;rw[h1,a]
 simpa using c.len
theorem bJb:∀ {f:List MapEntry} {e:MapEntry} {b:List MapEntry} {L:KV},EM (f++e :: b) L->∃ c k v d,L=c++(k,v) :: d/\e.key = .int .i64 k/\e.val=v/\EM (f++b) (c++d)
 | [],e,b,L,h=>by
  obtain⟨k,v,r,rfl,h1,h2,g⟩:=h.cons;exact⟨[],k,v,r,rfl,h1,h2,g⟩
 | a :: f,e,b,L,h=>by
  obtain⟨k,v,r,rfl,h1,h2,g⟩:=EM.cons h;obtain⟨c,k',i,d,rfl,j,k2,l⟩:=bJb g;exact⟨(k,v) :: c,k',i,d,rfl,j,k2,EM.mk h1 h2 l⟩
theorem bVc{a:List MapEntry}{e:MapEntry}{b:List MapEntry}(h:((a++e :: b).map (·.born)).Nodup):(a++e :: b).filter (fun x=>!(x.born == e.born))=a++b:=by
 rw[AK,Ax,AW]at h;obtain⟨h1,h2,d⟩:=h;rw[List.nodup_cons]at h2;rw[List.filter_append,List.filter_cons]
 have f1:a.filter (fun x=>!(x.born == e.born))=a:=by
  rw[Ae];intro x c;have:=d x.born (List.mem_map.2 ⟨x,c,rfl⟩) e.born (by simp)
  simpa using this
 have f:b.filter (fun x=>!(x.born == e.born))=b:=by
  rw[Ae];intro x c;have:x.born≠e.born:=fun g=>h2.1 (g ▸ List.mem_map.2 ⟨x,c,rfl⟩)
  simpa using this
 simp[f1,f]
theorem bVd(a:Array MapEntry)(seen:Array Nat)(n:Nat):(leftOf a (seen.push n)).toList=(leftOf a seen).toList.filter (fun x=>!(x.born == n)):=by
 unfold leftOf;rw[AQ,AQ,List.filter_filter];refine List.filter_congr fun x _=>?_;rw[Array.contains_push];simp only[Bool.not_or,Bool.and_comm]
theorem bVe(a:Array MapEntry):(leftOf a #[]).toList=a.toList:=by
 unfold leftOf;rw[AQ,Ae];intro x _;simp
section
variable {P:CV} {ops:Array Oper} {rest:List Oper} {o:Oper} {a:Act} {Q:Exit->Act->CQ->Prop}
theorem aZs(w:CQ)(hg:o.guard=none)(m:Operand)(t:CK)(c:o.op=Op.range t m)(kt d:CK)(e:P.underlying t=some (.map kt d))(b:Nat)(M:KV)(f:a.eval m = .map (some b))(g:IM w b M)
  (h:∀ w',IT w' b w.heap.size M M->w.grownBy w' none->w'.heap.size=w.heap.size+1->wpList P ops Q rest (a.put o.dst (.pointer (some ⟨w.heap.size,0,none⟩))) w'):wpList P ops Q (o :: rest) a w:=by
 refine wpList_plain hg fun K' i=>?_;obtain⟨j,clock,hb,h1,h2,k⟩:=g
 have l:(Instr.range t (.map (some b))).run P w = .ok (.pointer (some ⟨w.heap.size,0,none⟩)) (w.alloc (.mapIter (some b) clock #[] clock)):=by
  simp[Instr.range,run_underlying e,yJ hb]
 unfold Oper.wp;simp[execOp,c,f,l,Result.andThen];have n:b<w.heap.size:=(Array.getElem?_eq_some_iff.1 hb).1;exact i _ _ (h _ ⟨j,clock,#[],(((AZ w _ none).block b n (by simp)).trans hb),h1,h2,k,_root_.Go.heap_alloc_new w _,by rw[bVe];exact h1⟩ (AZ w _ none) (by simp))
theorem aVe(w:CQ)(hg:o.guard=none)(it:Operand)(q:o.op=Op.next it false)(b r:Nat)(M L:KV)(s:a.eval it = .pointer (some ⟨r,0,none⟩))(h:IT w b r M L)
  (hDone:L = []->wpList P ops Q rest (a.put o.dst (.tuple #[.bool false])) w)
  (hMore:∀ f k v g w',L=f++(k,v) :: g->IT w' b r M (f++g)->w.grownBy w' (some r)->w'.heap.size=w.heap.size->(Instr.entry (.pointer (some ⟨r,0,none⟩))).run P w' = .ok (.tuple #[.int .i64 k,v]) w' ->
   wpList P ops Q rest (a.put o.dst (.tuple #[.bool true,.int .i64 k,v])) w'):wpList P ops Q (o :: rest) a w:=by
 refine wpList_plain hg fun K' t=>?_;have E:=h.ne;have F:=h.lt;obtain⟨c,clock,seen,h1,h2,m,u,G,x⟩:=h;unfold Oper.wp;rcases run_next_at (P:=P) w o.type r b clock clock seen c clock G h1 u (Aq _)with⟨H,n⟩ | ⟨e,he,w1,i,n⟩
 ·simp[execOp,q,s,n,Result.andThen];refine t _ _ (hDone ?_);have:=x.len;simp only[BX,H]at this;exact Az this.symm
 ·simp[execOp,q,s,n,Result.andThen];obtain⟨l1,l2,p⟩:=List.append_of_mem he;have y:=x;rw[p]at y;obtain⟨f,k,v,g,rfl,z,k2,I⟩:=bJb y
  have J:e∈c.toList:=by
   have:e∈(leftOf c seen).toList:=he;unfold leftOf at this;rw[AQ]at this;exact(List.mem_filter.1 this).1
  have A:((leftOf c seen).toList.map (·.born)).Nodup:=by
   unfold leftOf;rw[AQ];exact List.Nodup.sublist ((List.filter_sublist (l:=c.toList)).map _) m
  rw[p]at A;have d:w1.heap=w.heap:=(by rcases i with rfl | rfl <;> rfl)
  have B:(setBlock w1 r (.mapIter (some b) clock (seen.push e.born) clock)).heap[b]? = some (.map c clock):=by
   simp only[setBlock,Ak,d];rw[if_neg E];exact h1
  have C:(setBlock w1 r (.mapIter (some b) clock (seen.push e.born) clock)).heap[r]? = some (.mapIter (some b) clock (seen.push e.born) clock):=by
   simp[setBlock,d,F]
  have D:=run_entry_at (P:=P) _ r b clock seen c clock e C B J m;rw[z,k2]at D;rw[z,k2];refine t _ _ (hMore f k v g _ rfl ⟨c,clock,seen.push e.born,B,h2,m,u,C,?_⟩ ?_ ?_ D)
  ·rw[bVd,p,bVc A];exact I
  ·refine⟨?_,?_,?_,by simp[setBlock,d],fun j hj K=>?_⟩
   ·rcases i with rfl | rfl <;> rfl
   ·rcases i with rfl | rfl <;> rfl
   ·rcases i with rfl | rfl <;> rfl
   ·simp only[setBlock,Ak,d];rw[if_neg (fun e=>K (by rw[e]))]
  ·simp[setBlock,d]
end
end
theorem iQ{p:Nat}{u:CX}{b:List CX}(h:w.ownsRow p e size v n b)(hg:v.ownBlock≠some g):(w.setCell ⟨g,k,none⟩ u).ownsRow p e size v n b:=by
 refine⟨h.1,?_⟩;rcases h.2 with h2 | ⟨a,cap,cur,rfl,h2,c,r⟩
 ·exact .inl h2
 ·refine .inr ⟨a,cap,cur,rfl,h2,?_,r⟩;have d:a≠g:=fun e=>hg (by simp[Cz,e]);rw[heap_setCell_other w ⟨g,k,none⟩ a u d];exact c
theorem bQy{G:Nat}{cs:Array CX}{u:CX}(h:Blk w G e cs)(hg:G≠g):Blk (w.setCell ⟨g,k,none⟩ u) G e cs:=by
 unfold Blk;rw[heap_setCell_other w ⟨g,k,none⟩ G u hg];exact h
section
open Go.Sort
def i64s(l:List Int):List CX:=l.map (Ag .i64)
theorem cYa(l:List Int):(i64s l).length=l.length:=by simp[i64s]
theorem aWf(a b:List Int):i64s (a++b)=i64s a++i64s b:=by simp[i64s]
theorem aZj(h:k<l.length):(i64s l)[k]'(by simpa[i64s]using h) = .int .i64 l[k]:=by simp[i64s]
theorem bQz(l:List Int)(n:Nat):(i64s l).take n=i64s (l.take n):=by simp[i64s,List.map_take]
theorem bJc(l:List Int):∀ u∈i64s l,u.oneCell'=true:=by
 intro u a;obtain⟨_,_,rfl⟩:=List.mem_map.1 a;rfl
theorem Src.setCell{w:CQ}{A:Option Addr}{n:Nat}{c:List CX}(h:Src w A n c){p:Addr}(v:CX)(hp:∀ a,A=some a->a.block≠p.block):Src (w.setCell p v) A n c:=by
 refine⟨h.1,fun hn=>?_⟩;obtain⟨b,o,e,d,hc⟩:=h.2 hn;refine⟨b,o,e,by simpa using d,fun j u f=>?_⟩;rw[<-hc j u f];have:=heap_setCell_other w p b v (hp _ e);unfold Bw;rw[this]
theorem cXc{a:List Int}(h:w.ownsRow base e 1 (.slice (some ⟨g,0,none⟩) a.length c) a.length (i64s a)):Holds (Ag .i64) w g 0 a.toArray:=by
 intro j b;have d:j<a.length:=(by simpa using b);refine⟨?_,?_⟩
 ·have:=(Src.eXq h).at_ d;rw[aZj d]at this;rw[this,getElem!_pos _ j b];simp
 ·rcases h.2 with⟨h1,_⟩ | ⟨g',cap,cur,h1,_,hg,_⟩
  ·cases h1
  ·injection h1 with h1 h2 h3;injection h1 with h1;injection h1 with h1;subst h1;exact frozen_of_row w g (0+j) _ _ hg
theorem dZb{a ys:List Int}(hl:ys.length=a.length)(h:w.ownsRow base e 1 (.slice (some ⟨g,0,none⟩) a.length c) a.length (i64s a))(n:Nat)(os:Array Obj):
  (grow (putRow (Ag .i64) (Sort.ahead w n) g 0 ys.toArray) os).ownsRow base e 1 (.slice (some ⟨g,0,none⟩) ys.length c) ys.length (i64s ys)/\w.grownBy (grow (putRow (Ag .i64) (Sort.ahead w n) g 0 ys.toArray) os) (some g):=by
 rcases h.2 with⟨h1,_⟩ | ⟨g',cap,cur,h1,hb,hg,hn,f,af,ag⟩
 ·cases h1
 injection h1 with h1 h2 i;injection h1 with h1;injection h1 with h1;subst h1;subst i;have l:g<w.heap.size:=(Array.getElem?_eq_some_iff.1 hg).1;constructor
 ·refine⟨by simp[i64s],.inr ⟨g,c,putCells (Ag .i64) 0 ys.toArray cur,rfl,hb,?_,by omega,f,by simp[putCells];omega,?_⟩⟩
  ·rw[heap_grow_old _ _ (by simpa using l)];simp only[putRow,mapBlock,heap_ahead,Ab,if_true,hg,Option.map_some,onCells]
  ·apply AY;intro j;rw[Ai];by_cases d:j<ys.length*1
   ·rw[if_pos d];have b:j<ys.length:=(by omega);have m:j<cur.size:=(by omega);simp only[putCells,Array.getElem?_toList,Array.getElem?_mapIdx];rw[Array.getElem?_eq_getElem m];simp only[Option.map_some];rw[if_pos ⟨by omega,by simpa using b⟩];have o:(ys.toArray[j - 0]!)=ys[j]:=(by rw[getElem!_pos _ (j - 0) (by simpa using b)];simp);rw[o];simp[i64s,AJ,Aj b]
   ·rw[if_neg d]
    symm
    rw[Aw];simp[i64s];omega
 ·refine⟨rfl,rfl,rfl,by simp,fun k p q=>?_⟩;rw[heap_grow_old _ _ (by simpa using p)];simp only[putRow,mapBlock,heap_ahead,Ab];rw[if_neg (fun e=>q (by rw[e]))]
def aQx(a:List Int):List Int:=a.mergeSort fun x y=>decide (x<=y)
theorem cXd(a:List Int)(x:Int):x∈aQx a↔x∈a:=List.mem_mergeSort
theorem aJx(a:List Int):(aQx a).length=a.length:=List.length_mergeSort a
theorem bJd(d:List Int):(aQx d).Pairwise (· <= ·):=by
 have:=List.pairwise_mergeSort (le:=fun x y:Int=>decide (x<=y)) (fun a b c h1 h2=>by simp at *;omega) (fun a b=>by simp;omega) d
 simpa[aQx]using this
theorem bJe{a:List CX}(h:w.ownsRow base e size (.slice A n c) n a)(b:k<=n)(d:A≠none):w.ownsRow base e size (.slice A k c) k (a.take (k*size)):=by
 rcases h.2 with⟨h1,_⟩ | ⟨g,cap,cur,h1,hb,hg,hn,f,i,j⟩
 ·injection h1 with h1;exact absurd h1 d
 ·injection h1 with h1 h2 l;subst h1;subst l;refine⟨?_,.inr ⟨g,c,cur,rfl,hb,hg,by omega,f,i,?_⟩⟩
  ·rw[Bf,h.1];exact Cq (BJ _ b)
  ·rw[<-j,List.take_take,Cq (BJ _ b)]
end
def Ints(w:CQ)(v:CX)(l:List Int):Prop:=∃ A c,v = .slice A l.length c/\Src w A l.length (i64s l)/\l.length<=c/\(A=none->c=0)/\(l.length*8<=140737488351232/\c<=9223372036854775807)
def boolsV(l:List Bool):List CX:=l.map Cy
theorem bXa{l:List Bool}(h:k<l.length):(boolsV l)[k]'(by simpa[boolsV]using h) = .bool l[k]:=by simp[boolsV]
def Bools(w:CQ)(v:CX)(l:List Bool):Prop:=∃ A c,v = .slice A l.length c/\Src w A l.length (boolsV l)/\l.length<=c/\(A=none->c=0)/\(l.length<=140737488351232/\c<=9223372036854775807)
def Structs{α:Type}(k:Nat)(R:CQ->List CX->α->Prop)(w:CQ)(v:CX)(l:List α):Prop:=
 ∃ (A:Option Addr) (c:Nat) (vs:List (List CX)),v = .slice A l.length c/\l.length<=c/\(A=none->c=0)/\(l.length<=140737488351232/\c<=9223372036854775807)/\vs.length=l.length/\(∀ r∈vs,r.length=k)/\(∀ (i:Nat) (r:List CX) (x:α),vs[i]? = some r->l[i]? = some x->R w r x)/\Src w A (l.length*k) vs.flatten
theorem uX{k:Nat}:∀ {vs:List (List CX)} {i j:Nat} {r:List CX} {u:CX},(∀ r∈vs,r.length=k)->vs[i]? = some r->r[j]? = some u->vs.flatten[i*k+j]? = some u
 | [],i,j,r,u,_,h,_=>by simp at h
 | s :: vs,0,j,r,u,b,h,a=>by
  simp at h;subst h;simp only[Aa,Bv,Bb];rw[AX (List.getElem?_eq_some_iff.1 a).1];exact a
 | s :: vs,i+1,j,r,u,b,h,a=>by
  simp at h;have hs:s.length=k:=b s (by simp);have c:=uX (vs:=vs) (fun r d=>b r (by simp[d])) h a;rw[Aa,Av (by rw[hs,Bi];omega),hs];rw[show(i+1)*k+j - k=i*k+j by rw[Bi];omega];exact c
theorem Ints.below{w w':CQ}{B:Nat}{v:CX}{l:List Int}(h:Ints w v l)(hb:CZ B w w')(a:w.heap.size<=B):Ints w' v l:=by
 obtain⟨A,c,e,hs,r⟩:=h;exact⟨A,c,e,hs.below hb a,r⟩
theorem Bools.below{w w':CQ}{B:Nat}{v:CX}{l:List Bool}(h:Bools w v l)(hb:CZ B w w')(a:w.heap.size<=B):Bools w' v l:=by
 obtain⟨A,c,e,hs,r⟩:=h;exact⟨A,c,e,hs.below hb a,r⟩
theorem Structs.below{α:Type}{k:Nat}{R:CQ->List CX->α->Prop}{w w':CQ}{B:Nat}{v:CX}{l:List α}(h:Structs k R w v l)(hb:CZ B w w')(a:w.heap.size<=B)
  (b:∀ r x,R w r x->R w' r x):Structs k R w' v l:=by
 obtain⟨A,c,vs,e,h1,h2,d,f,g,j,hs⟩:=h;exact⟨A,c,vs,e,h1,h2,d,f,g,fun i r x q1 m=>b r x (j i r x q1 m),hs.below hb a⟩
theorem Structs.at{α:Type}{R:CQ->List CX->α->Prop}{l:List α}(h:Structs k R w v l)(g:0<k){i:Nat}{x:α}(a:l[i]? = some x):
  ∃ b o c r,v = .slice (some ⟨b,o,none⟩) l.length c/\b<w.heap.size/\r.length=k/\R w r x/\∀ j u,r[j]? = some u->w.cell? ⟨b,o+(i*k+j),none⟩=some u:=by
 obtain⟨A,c,vs,e,h1,h2,h3,h4,d,m,hs⟩:=h;have hi:i<l.length:=(List.getElem?_eq_some_iff.1 a).1;obtain⟨b,o,rfl,hb,hc⟩:=hs.2 (Cw (by omega) g);have f:vs[i]? = some (vs[i]'(by omega)):=Aj (by omega);exact⟨b,o,c,_,e,hb,d _ (Be _),m i _ x f a,fun j u n=>hc _ u (uX d f n)⟩
theorem Structs.len{α:Type}{R:CQ->List CX->α->Prop}{l:List α}(h:Structs k R w v l):∃ A c,v = .slice A l.length c/\l.length<=c/\l.length<=140737488351232/\c<=9223372036854775807:=by
 obtain⟨A,c,vs,e,h1,h2,a,_⟩:=h;exact⟨A,c,e,h1,a⟩
theorem Ints.len(h:Ints w v l):∃ A c,v = .slice A l.length c/\Src w A l.length (i64s l)/\l.length*8<=140737488351232:=by
 obtain⟨A,c,e,hs,h1,h2,h3⟩:=h;exact⟨A,c,e,hs,by omega⟩
theorem Ints.nil(w:CQ):Ints w (.slice none 0 0) []:=⟨none,0,rfl,Src.nil _ _,Aq _,fun _=>rfl,by simp⟩
structure SigD where
 inn:List Int
 out:List Int
structure EnvD where
 sigs:List SigD
 imports:Int
 globals:List Int
 muts:List Bool
 mem:Bool
structure CodeD where
 op:Int
 n:Nat
 args:List Int
 outs:List Int
 to:List Int
def CodeD.ok(c:CodeD):Prop:=c.n<18446744073709551616 /\ -9223372036854775808<=c.op/\c.op<=9223372036854775807
structure RowD where
 sig:SigD
 places:Int
 params:List Int
 code:List CodeD
def SigC(w:CQ)(r:List CX)(s:SigD):Prop:=∃ a b,r = [a,b]/\Ints w a s.inn/\Ints w b s.out
def CodeC(w:CQ)(r:List CX)(c:CodeD):Prop:=∃ a b d,r = [.int .i64 c.op,.int .u64 (c.n:Int),a,b,d]/\c.ok/\Ints w a c.args/\Ints w b c.outs/\Ints w d c.to
def eQn(w:CQ)(r:List CX)(e:EnvD):Prop:=∃ a b d,r = [a,.int .i64 e.imports,b,d,.bool e.mem]/\Structs 2 SigC w a e.sigs/\Ints w b e.globals/\Bools w d e.muts
def RowC(w:CQ)(r:List CX)(x:RowD):Prop:=∃ a b p d,r = [a,b,.int .i64 x.places,p,d]/\Ints w a x.sig.inn/\Ints w b x.sig.out/\Ints w p x.params/\Structs 5 CodeC w d x.code
theorem SigC.below{w w':CQ}{B:Nat}{r:List CX}{s:SigD}(h:SigC w r s)(hb:CZ B w w')(c:w.heap.size<=B):SigC w' r s:=by
 obtain⟨a,b,e,h1,h2⟩:=h;exact⟨a,b,e,h1.below hb c,h2.below hb c⟩
theorem CodeC.below{w w':CQ}{B:Nat}{r:List CX}{c:CodeD}(h:CodeC w r c)(hb:CZ B w w')(f:w.heap.size<=B):CodeC w' r c:=by
 obtain⟨a,b,d,e,g,h1,h2,i⟩:=h;exact⟨a,b,d,e,g,h1.below hb f,h2.below hb f,i.below hb f⟩
theorem RowC.below{w w':CQ}{B:Nat}{r:List CX}{x:RowD}(h:RowC w r x)(hb:CZ B w w')(c:w.heap.size<=B):RowC w' r x:=by
 obtain⟨a,b,p,d,e',h1,h2,e,f⟩:=h;exact⟨a,b,p,d,e',h1.below hb c,h2.below hb c,e.below hb c,f.below hb c (fun r x q=>q.below hb c)⟩
section
open Go.ChangeShapes Go.WideShapes Go.Deep
section
variable {H:Type} {enc:CK×CX->H} {P:CV} {w:CQ}
def aZt(P:CV)(t:CK)(d:DataW H):Prop:=∀ n∈d.weights P t,n<=reachBytes
def pK(enc:CK×CX->H)(P:CV)(w:CQ){α:Type}(t:CK)(R:CQ->List CX->α->Prop):Prop:=
 ∀ fuel cs x,DataW.trod enc P w 0 (fun _=>true) true fuel t cs=some x->aZt P t x.1->∃ a:α,R w cs a
theorem aXt{k:IntKind}(b:P.underlying t=some (.int k)):pK enc P w t (fun _ cs (a:Int)=>cs = [.int k a]/\(Lit.int k a).wf=true):=by
 intro fuel cs x h _;obtain⟨n,e,_,c⟩:=DataW.trod_int b h;exact⟨n,e,c⟩
theorem aQg{t:CK}:∀ {l:List (DataW H)} {d:DataW H},d∈l->∀ n∈d.weights P t,n∈DataW.weightsAll P t l
 | [],d,h,_,_=>by simp at h
 | e :: l,d,h,n,hn=>by
  simp only[DataW.weightsAll,Ac];rcases List.mem_cons.1 h with h | h
  ·subst h;exact .inl hn
  ·exact .inr (aQg h n hn)
theorem cXe{a:Addr}{cs:List CX}(h:w.cells? 0 a k=some cs):cs.length=k/\∀ j,j<k->w.cell? (a.add j)=cs[j]?:=by
 obtain⟨_,h1,h2⟩:=World.cells?_some h;exact⟨h1,h2⟩
theorem aVu{α:Type}{k:Nat}{R:CQ->List CX->α->Prop}{a:Addr}{m:Nat}(g:0<k)(hc:∀ i,i<m->∃ (cs:List CX) (x:α),cs.length=k/\(∀ j,j<k->w.cell? (a.add (i*k+j))=cs[j]?)/\R w cs x):
  ∀ len,len<=m->∃ (l:List α) (vs:List (List CX)),l.length=len/\vs.length=len/\(∀ r∈vs,r.length=k)/\(∀ (i:Nat) (r:List CX) (x:α),vs[i]? = some r->l[i]? = some x->R w r x)/\Src w (some a) (len*k) vs.flatten
 | 0,_=>⟨[],[],rfl,rfl,by simp,by simp,by rw[Bv];exact Src.nil _ _⟩
 | len+1,h=>by
  obtain⟨l,vs,h1,h2,q,s,n⟩:=aVu g hc len (by omega);obtain⟨cs,x,c1,t,v⟩:=hc len (by omega);obtain⟨aj,x0,d1,z,_⟩:=hc 0 (by omega);have o:=z 0 g;rw[show a.add (0*k+0)=a by simp[Addr.add],Aj (by omega)]at o;obtain⟨hs,hb⟩:=cQx o;obtain⟨A,f,B⟩:=a;have C:B=none:=hs;subst C;have p:vs.flatten.length=len*k:=(by have:=n.1;exact this);refine⟨l ++ [x],vs ++ [cs],by simp[h1],by simp[h2],fun r b=>?_,fun i r y q1 d=>?_,?_⟩
  ·rcases List.mem_append.1 b with b | b
   ·exact q r b
   ·simp at b;rw[b];exact c1
  ·by_cases hi:i<len
   ·rw[AX (by omega)]at q1 d;exact s i r y q1 d
   ·have D:i=len:=by
     have:=(List.getElem?_eq_some_iff.1 q1).1;simp[h2]at this;omega
    subst D;rw[Av (by omega),h2,Bc]at q1;rw[Av (by omega),h1,Bc]at d;simp at q1 d;subst q1;subst d;exact v
  ·refine⟨by simp only[BZ,List.length_append,p,Aa,Bh,Cx,c1];rw[Bi];omega,fun _=>⟨A,f,rfl,hb,fun j u c=>?_⟩⟩;simp only[BZ,Aa,Bh,Cx]at c;by_cases hj:j<len*k
   ·rw[AX (by omega)]at c;obtain⟨b',o',e,_,E⟩:=n.2 (by omega);injection e with e;injection e with F e2;subst F;subst e2;exact E j u c
   ·rw[Av (by omega),p]at c;have G:j - len*k<k:=(by have:=(List.getElem?_eq_some_iff.1 c).1;omega);have:=t (j - len*k) G;rw[Af,c,show f+(len*k+(j - len*k))=f+j by omega]at this;exact this
theorem sQ{α:Type}{R:CQ->List CX->α->Prop}(b:P.underlying t=some (.slice e))(p:P.cellsOf e=k)(r:0<k)(s:1<=P.bytesOf e)(u:pK enc P w e R):
  pK enc P w t (fun w cs (l:List α)=>∃ v,cs = [v]/\Structs k R w v l/\∀ A n c,v = .slice A n c->c*P.bytesOf e<=reachBytes):=by
 intro fuel cs x h f;rcases open_slice b h with⟨rfl,_⟩ | ⟨a,len,cap,m,n,D,Pl,rfl,_,z,hm,B,C,hi⟩
 ·exact⟨[],_,rfl,⟨none,0,[],rfl,Aq _,fun _=>rfl,by simp,rfl,by simp,by simp,by rw[List.length_nil,Bv];exact Src.nil _ _⟩,fun A n c e=>by injection e with _ _ e;subst e;simp⟩
 ·have al:m=cap:=(by simpa using B);have hd:x.1=_:=congrArg Prod.fst C
  have E:∀ d,(d∈(CJ len).map D\/d∈(CJ (m - len)).map fun j=>D (len+j))->aZt P e d:=fun d F q hq=>by
   refine f q ?_;rw[hd];simp only[DataW.weights,b,BK,Ac];rcases F with h1 | h1
   ·exact .inr (.inl (aQg h1 q hq))
   ·exact .inr (.inr (aQg h1 q hq))
  have g:cap*P.bytesOf e<=reachBytes:=by
   refine f _ ?_;rw[hd];simp only[DataW.weights,b,BK,Cj,List.length_range]
   left
   rw[show len+(m - len)=cap by omega]
  have ad:cap<=140737488351232:=by have:=Bz (Nat.mul_le_mul_left cap s) g;rw[Bq]at this;exact this
  obtain⟨l,vs,h1,h2,G,H,I⟩:=aVu (w:=w) (R:=R) (a:=a) (m:=m) r (fun i J=>by
   obtain⟨o,q1,K⟩:=hi i J;rw[p]at q1
   obtain⟨y,L⟩:=u n o _ K (E _ (by
    by_cases M:i<len
    ·exact .inl (List.mem_map.2 ⟨i,by simpa using M,rfl⟩)
    ·exact .inr (List.mem_map.2 ⟨i - len,by simp;omega,by show D (len+(i - len))=D i;rw[show len+(i - len)=i by omega]⟩)))
   obtain⟨c1,N⟩:=cXe q1
   exact⟨o,y,c1,fun j O=>by rw[<-N j O,Go.Deep.add_add],L⟩) len (by omega)
  subst h1;exact⟨l,_,rfl,⟨some a,cap,vs,rfl,z,(fun e=>by cases e),⟨by omega,by omega⟩,h2,G,H,I⟩,fun A n c e=>by injection e with _ _ e;subst e;exact g⟩
theorem bYb(f:P.underlying t=some (.slice e))(he:P.underlying e=some (.int .i64))(g:P.cellsOf e=1)(k:P.bytesOf e=8):
  pK enc P w t (fun w cs (l:List Int)=>∃ v,cs = [v]/\Ints w v l):=by
 intro fuel cs x h m;obtain⟨l,v,rfl,⟨A,c,vs,rfl,h1,h2,h3,h4,n,o,b⟩,p⟩:=sQ (enc:=enc) (w:=w) f g (by omega) (by omega) (aXt he) fuel cs x h m;have a:=p _ _ _ rfl;rw[k]at a;refine⟨l,_,rfl,A,c,rfl,?_,h1,h2,by have q:c*8<=140737488351232:=a;omega,by have q:c*8<=140737488351232:=a;omega⟩
 have r:vs.flatten=i64s l:=by
  apply AY;intro i;by_cases hi:i<l.length
  ·have d:vs[i]? = some (vs[i]'(by omega)):=Aj (by omega);have s:=(o i _ _ d (Aj hi)).1;have:=uX (j:=0) n d (by rw[s];rfl);rw[Bq,Cv]at this;rw[this];simp[i64s,AJ,Aj hi]
  ·have u:=b.1;rw[Aw (by rw[u];omega),Aw (by simp[i64s];omega)]
 rw[<-r]
 simpa using b
theorem aWv(c:P.underlying t=some .bool):pK enc P w t (fun _ cs (a:Bool)=>cs = [.bool a]):=by
 intro fuel cs x h _;obtain⟨b,e,_⟩:=DataW.trod_bool c h;exact⟨b,e⟩
theorem bVf(d:P.underlying t=some (.slice e))(he:P.underlying e=some .bool)(f:P.cellsOf e=1)(g:1<=P.bytesOf e):
  pK enc P w t (fun w cs (l:List Bool)=>∃ v,cs = [v]/\Bools w v l):=by
 intro fuel cs x h k;obtain⟨l,v,rfl,⟨A,c,vs,rfl,h1,h2,m,h4,n,o,a⟩,_⟩:=sQ (enc:=enc) (w:=w) d f (by omega) g (aWv he) fuel cs x h k;refine⟨l,_,rfl,A,c,rfl,?_,h1,h2,m⟩
 have p:vs.flatten=boolsV l:=by
  apply AY;intro i;by_cases hi:i<l.length
  ·have b:vs[i]? = some (vs[i]'(by omega)):=Aj (by omega);have q:=o i _ _ b (Aj hi);have:=uX (j:=0) n b (by rw[q];rfl);rw[Bq,Cv]at this;rw[this];simp[boolsV,AJ,Aj hi]
  ·have r:=a.1;rw[Aw (by rw[r];omega),Aw (by simp[boolsV];omega)]
 rw[<-p]
 simpa using a
theorem bVg{fs:Array Field}{fuel:Nat}{cs:List CX}{x:DataW H×List MemPlace}(b:P.underlying t=some (.struct fs))(h:DataW.trod enc P w 0 (fun _=>true) true fuel t cs=some x)(c:aZt P t x.1)
  {α:Type} {R:CQ->List CX->α->Prop} (i:Nat) {f:Field} (hf:fs[i]? = some f) (e:pK enc P w f.type R):cs.length=P.cellsOf t/\∃ a,R w ((cs.drop f.offset).take (P.cellsOf f.type)) a:=by
 obtain⟨g,n,_,k,l,ab,hg⟩:=DataW.trod_struct b h;have hi:i<fs.size:=(Array.getElem?_eq_some_iff.1 hf).1;have h1:=hg i f hf;rw[Aj (by omega)]at h1;refine⟨l,e n _ _ h1 (fun q hq=>c q ?_)⟩;rw[show x.1=_ from congrArg Prod.fst k];simp only[DataW.weights,b];refine DataW.weights_mem_each (j:=i) (t:=f.type) (d:=(g[i]'(by omega)).1) ?_ ?_ q hq
 ·rw[AJ];have:fs.toList[i]? = some f:=(by simpa using hf);rw[this];rfl
 ·rw[AJ,Aj (by omega)];rfl
theorem kX{fs:Array Field}{fuel:Nat}{cs:List CX}{x:DataW H×List MemPlace}(b:P.underlying t=some (.struct fs))(h:DataW.trod enc P w 0 (fun _=>true) true fuel t cs=some x)(c:aZt P t x.1)
  {α:Type} {R:CQ->List CX->α->Prop} (i o k e:Nat) {f:Field} (hf:fs[i]? = some f) (d:pK enc P w e R) (he:f.type=e) (ho:f.offset=o) (g:P.cellsOf e=k):∃ a,R w ((cs.drop o).take k) a:=by
 subst he;subst ho;subst g;exact(bVg b h c i hf d).2
end
end
theorem bZk(z:CX)(n:Nat):madeCells #[z] n=(Ck n z).toArray:=by
 apply Array.ext';simp[toList_madeCells_one]
theorem aQo{P:CV}(t e:CK)(z:CX)(bytes:Nat)(a:P.underlying t=some (.slice e))(hinfo:(P.info? e).map (fun i=>(i.zero,i.size,i.bytes))=some (some z,1,bytes))(hz:z.cells=#[z])(n:Nat)(hb:bytes*n<=281474976710656)(hm:n<=9223372036854775807):
  ∀ u:CQ,(Instr.makeSlice t (.int .i64 (n:Int)) (.int .i64 (n:Int))).run P u = .ok (.slice (some ⟨u.heap.size,0,none⟩) n n) (u.alloc (.cells (Ck n z).toArray e)):=by
 intro u;obtain⟨i0,hi,b,c,d⟩:=info_parts hinfo
 have f:(i0.bytes:Int)*(n:Int)<=281474976710656:=by
  rw[d];have h:((bytes*n:Nat):Int)<=281474976710656:=(by omega)
  rwa[Int.natCast_mul]at h
 have h:=run_make (P:=P) u t e i0 z a hi b .i64 .i64 (n:Int) (n:Int) (by omega) (Int.le_refl _) f (by omega);simp only[Int.toNat_natCast]at h;rw[h,c,Bq,hz,bZk]
section
open Go.ChangeMaps
def setKV(s:List Int):KV:=s.map fun k=>(k,Cy true)
def ins(s:List Int)(k:Int):List Int:=if k∈s then s else s ++ [k]
def nV(s:List Int):List Int->List Int
 | []=>s
 | k :: l=>nV (ins s k) l
theorem bXb(s:List Int):(setKV s).length=s.length:=by simp[setKV]
theorem bXc(s:List Int)(k:Int):aXg (setKV s) k=if k∈s then some (.bool true)else none:=by
 induction s with
 | nil=>simp[setKV,aXg]
 | cons a s b=>
  simp only[setKV,Ax,aXg]at b ⊢;by_cases h:k=a
  ·subst h;simp
  ·rw[if_neg h,b];simp[h]
theorem bXd(s:List Int)(k:Int):aXh (setKV s) k (.bool true)=setKV (ins s k):=by
 induction s with
 | nil=>simp[setKV,aXh,ins]
 | cons a s b=>
  simp only[setKV,Ax,aXh]at b ⊢;by_cases h:k=a
  ·subst h;simp[ins]
  ·rw[if_neg h,b];by_cases c:k∈s
   ·simp[ins,h,c]
   ·simp[ins,h,c]
theorem vQ{k x:Int}:x∈ins s k↔x∈s\/x=k:=by
 unfold ins
 split
 ·rename_i h;constructor
  ·exact .inl
  ·rintro(h1 | h1)
   ·exact h1
   ·rw[h1];exact h
 ·simp
theorem aXu{k:Int}(h:s.Nodup):(ins s k).Nodup:=by
 unfold ins
 split
 ·exact h
 ·rename_i c;rw[AW];exact⟨h,by simp,fun a ha b hb e=>by simp at hb;subst hb;subst e;exact c ha⟩
theorem aZu{x:Int}:x∈nV s l↔x∈s\/x∈l:=by
 induction l generalizing s with
 | nil=>simp[nV]
 | cons a l b=>
  rw[nV,b,vQ,BK];constructor
  ·rintro((h | h) | h)
   ·exact .inl h
   ·exact .inr (.inl h)
   ·exact .inr (.inr h)
  ·rintro(h | h | h)
   ·exact .inl (.inl h)
   ·exact .inl (.inr h)
   ·exact .inr h
theorem bJf(h:s.Nodup):(nV s l).Nodup:=by
 induction l generalizing s with
 | nil=>exact h
 | cons a l b=>exact b (aXu h)
theorem bVh(s l:List Int)(k:Int):nV s (l ++ [k])=ins (nV s l) k:=by
 induction l generalizing s with
 | nil=>rfl
 | cons a l b=>simp only[Bx,nV,b]
theorem bWg(s:List Int)(k:Int):s.length<=(ins s k).length:=by
 unfold ins;split <;> simp
theorem bYc(l s:List Int):s.length<=(nV s l).length:=by
 induction l generalizing s with
 | nil=>exact Aq _
 | cons a l b=>exact Bz (bWg s a) (b _)
theorem bVi(h:(nV s l).length<=s.length):nV s l=s:=by
 induction l generalizing s with
 | nil=>rfl
 | cons a l b=>
  rw[nV]at h ⊢;have h1:=bYc l (ins s a);have h2:=bWg s a
  have c:ins s a=s:=by
   unfold ins at h2 h1 h ⊢
   split
   ·rfl
   ·rename_i d;rw[if_neg d]at h h1;simp at h h1;omega
  rw[c]at h ⊢;exact b h
theorem IM.eZr{m:KV}(h:IM w b m)(o:Nat):w.cell? ⟨b,o,none⟩=none:=by
 obtain⟨es,clock,hb,_⟩:=h;unfold Bw;rw[hb]
theorem IM.eZs{m:KV}{d:List CX}(h:IM w b m)(hs:Src w A n d)(hn:0<n):∀ a,A=some a->a.block≠b:=by
 intro a ha e;subst ha;obtain⟨g,o,c,_,hc⟩:=hs.2 hn;injection c with c;subst c;subst e;have:=hc 0 _ (Aj (by rw[hs.1];exact hn));rw[h.eZr]at this;cases this
theorem IM.eXp{m:KV}{cs:Array CX}(h:IM w b m)(k:Blk w g t cs):b≠g:=by
 intro e;subst e;obtain⟨es,clock,hb,_⟩:=h;have:=hb.symm.trans k;injection this with this;cases this
theorem IM.eXs{m:KV}{a:List CX}(h:IM w b m)(k:w.ownsRow base t size v n a):v.ownBlock≠some b:=by
 rcases k.2 with⟨h1,_⟩ | ⟨g,cap,cur,h1,h2,c,_⟩
 ·subst h1;simp[Cz]
 ·subst h1;intro e;injection e with e;exact h.eXp (show Blk w g t cur from c) e.symm
theorem IM.eZh{P:CV}{m:KV}(h:IM w b m){c:CK}(d:P.underlying t=some (.map kt c))(e:CK):(Builtin.len_ #[t] e #[.map (some b)]).run P w = .ok (.int .i64 (m.length:Int)) w:=by
 obtain⟨es,clock,hb,he,_⟩:=h;have a:=he.len;simp only[BX]at a;simp[Builtin.len_,run_underlying d,yJ hb,goInt,Result.andThen,a]
def IE(w:CQ)(b:Nat)(m:KV)(k:Int)(stamp:Nat):Prop:=
 ∃ (a:Array MapEntry) (z:CX),w.heap[b]? = some (.map (a.push { key:=.int .i64 k,val:=z,born:=stamp }) (stamp+1))/\EM a.toList m/\(a.toList.map (·.born)).Nodup/\∀ e∈a.toList,e.born<stamp
section
variable {P:CV} {ops:Array Oper} {rest:List Oper} {o:Oper} {a:Act} {Q:Exit->Act->CQ->Prop}
theorem IM.entry{P:CV}{m:KV}(h:IM w b m){d:CK}{z:CX}(i:P.underlying t=some (.map kt d))(e:P.underlying kt=some (.int .i64))(hz:∀ w,(zeroValue d).run P w = .ok z w)(k:Int)(hn:aXg m k=none):
  ∃ w' stamp,(Instr.mapEntry t (.map (some b)) (.int .i64 k)).run P w = .ok (.tuple #[z,.int .i64 (stamp:Nat)]) w'/\IE w' b m k stamp/\w.grownBy w' (some b)/\w'.heap.size=w.heap.size:=by
 have f:=h.lt;obtain⟨a,clock,hb,he,j,hc⟩:=h;have h1:=yJ (P:=P) hb;have h2:=fun c=>vW (P:=P) w c 9999 kt .i64 k e;have g:=aXf (P:=P) (w:=w) e (aVd k a.toList m 0 he)
 have l:kY k m 0=none:=by
  have:=aWe k m 0;rw[hn,Option.map_eq_none_iff]at this;exact this
 rw[l]at g;have n:=aZh (P:=P) (.map (a.push { key:=.int .i64 k,val:=z,born:=clock }) (clock+1)) hb;refine⟨{ w with heap:=w.heap.setIfInBounds b (.map (a.push { key:=.int .i64 k,val:=z,born:=clock }) (clock+1)) },clock,?_,⟨a,z,by simp[f],he,j,hc⟩,aXs _ f,by simp⟩;unfold Instr.mapEntry;simp only[Sem.run_bind,run_underlying i,Result.andThen_ok,h1,h2,g,hz,n];simp[goInt]
theorem IE.store{P:CV}{m:KV}{k:Int}{stamp:Nat}(h:IE w b m k stamp)(t:CK)(v:CX):
  ∃ w',(Instr.entryStore t (.map (some b)) (.int .i64 (stamp:Nat)) v).run P w = .ok () w'/\IM w' b (m ++ [(k,v)])/\w.grownBy w' (some b)/\w'.heap.size=w.heap.size:=by
 obtain⟨d,z,hb,he,o,hc⟩:=h;have i:b<w.heap.size:=(Array.getElem?_eq_some_iff.1 hb).1;have h1:=yJ (P:=P) hb
 have hf:(d.push { key:=.int .i64 k,val:=z,born:=stamp }).findIdx? (fun e=>(e.born:Int) == (stamp:Int))=some d.size:=by
  rw[Array.findIdx?_eq_some_iff_getElem];refine⟨by simp,by simp,fun j f=>?_⟩;rw[Array.getElem_push_lt f];have:=hc d[j] (by simp);simp;omega
 have l:=aZh (P:=P) (.map ((d.push { key:=.int .i64 k,val:=z,born:=stamp }).modify d.size fun e=>{ e with val:=v }) (stamp+1)) hb
 have n:((d.push { key:=.int .i64 k,val:=z,born:=stamp }).modify d.size fun e=>{ e with val:=v })=d.push { key:=.int .i64 k,val:=v,born:=stamp }:=by
  apply BW;intro j;rw[Ab];by_cases f:d.size=j
  ·subst f;simp
  ·rw[if_neg f];simp only[BQ];rw[if_neg (by omega),if_neg (by omega)]
 rw[n]at l;refine⟨{ w with heap:=w.heap.setIfInBounds b (.map (d.push { key:=.int .i64 k,val:=v,born:=stamp }) (stamp+1)) },?_,IM.put i (d.push { key:=.int .i64 k,val:=v,born:=stamp }) (stamp+1) ?_ ?_ ?_,aXs _ i,by simp⟩
 ·unfold Instr.entryStore;simp only[Sem.run_bind,h1,Result.andThen_ok,asInt,asIntOf,Sem.run_pure,hf,n];exact l
 ·simp only[EM,Ay,AK,Ax,AV]at he ⊢;rw[he]
 ·simp only[Ay,AK,Ax,AV];rw[AW];refine⟨o,by simp,fun a ha c p=>?_⟩;obtain⟨e,g,rfl⟩:=List.mem_map.1 ha;simp at p;have:=hc e g;omega
 ·intro e g;simp only[Ay,Ac,BY]at g;rcases g with h | h
  ·have:=hc e h;omega
  ·subst h;simp
end
end
end Go.Proofs.YtabibkpfgmolkaaGreat

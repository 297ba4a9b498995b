/- Lemmas for the claim, part 1. Conditions: none. -/
import Derived.BigQuiet
import Derived.Deep.Slices
import Derived.Lib.Hide
import Derived.Sort.Grow
import Derived.Test.YtabibkpfgmolkaaGreatProg
import Derived.WalkLawsBesides
import Derived.WalkSpells
set_option maxRecDepth 100000
set_option maxHeartbeats 16000000
set_option linter.unusedVariables false
set_option linter.unusedSimpArgs false
open Go.Lib renaming hid→fQ
open Go.Proofs.Tryz renaming prog→fZ
open Go.Proofs.Tryz
open Go.RowKit
open Nat renaming le_refl→Aj,eq_zero_or_pos→Bx,mul_one→Bw,le_trans→BJ,zero_mul→BX,mul_le_mul_right→BW,lt_of_lt_of_le→Bd,zero_add→Bg,sub_self→Bh,mod_eq_of_lt→Cx,add_mul→Ck,min_eq_left→Cw,add_zero→CZ,mul_pos→CK
open List renaming getElem?_eq_getElem→Aq,map_cons→Az,eq_nil_of_length_eq_zero→Ak,getElem?_append_right→Aw,getElem?_eq_none→Ay,getElem?_map→AQ,getElem?_append_left→AZ,map_append→AV,map_nil→AY,nodup_append→Ab,ext_getElem?→Ac,flatten_cons→Ad,mem_append→Ah,filter_eq_self→Bj,getElem?_take→Bz,mem_of_find?_eq_some→Bk,cons_append→By,take_of_length_le→BQ,getElem?_modify→BV,flatten_append→Bb,mem_cons→Bc,mem_singleton→Bf,map_toArray→Bi,getElem_mem→Cj,length_take→Cq,flatten_nil→Cz,length_map→Cv,append_nil→Cy,find?_some→CJ,replicate→CX,range→CW
open Go.RowKit.Below renaming refl→Ax
open Array renaming getElem?_setIfInBounds→Av,toList_push→AJ,toList_filter→AX,getElem?_modify→Ag,toList_modify→Ai,getElem?_push→BY,length_toList→Ba,ext_getElem?→Be
open Go.World renaming grownBy_alloc→AK,ownsRow_nil→Aa,cell?→BK
open Go.Value renaming int→AW,ownBlock→CQ,bool→CV
open Option renaming map_eq_none_iff→Ae,map_eq_some_iff→Af,map_some→BZ
open Go.Addr renaming add_lit→Bq
open UInt8 renaming ofNat→Bv
open Go renaming World→CY,Value→Ca,Calls→Cc,TypeId→Cd,Program→Ce
open Go.RowKit renaming Below→Cb
namespace Go.Proofs.YtabibkpfgmolkaaGreat
theorem fX {α:Sort _}(a:α):∃ b,a=b:=⟨a,rfl⟩
variable {w w':CY}{e t:Cd}{b n k base g size B r:Nat}{op a:Int}{v:Ca}{A:Option Addr}{l s:List Int}{st:Bool}
def Src(w:CY)(A:Option Addr)(n:Nat)(xs:List Ca):Prop:=
 xs.length=n/\(0<n->∃ b o,A=some ⟨b,o,none⟩/\b<w.heap.size/\∀ j u,xs[j]? = some u->w.cell? ⟨b,o+j,none⟩=some u)
theorem Src.nil(w:CY)(A:Option Addr):Src w A 0 []:=⟨rfl,fun h=>absurd h (by omega)⟩
theorem Src.below{xs:List Ca}(h:Src w A n xs)(a:Cb B w w')(hB:w.heap.size<=B):Src w' A n xs:=
 ⟨h.1,fun hn=>by
  obtain⟨b,o,e,c,hc⟩:=h.2 hn
  exact⟨b,o,e,Bd c a.size,fun j u d=>(a.cell (by show b<B;omega)).trans (hc j u d)⟩⟩
theorem Src.at_{o:Nat}{s:Option Nat}{xs:List Ca}(h:Src w (some ⟨b,o,s⟩) n xs)(a:k<n):
  w.cell? ⟨b,o+k,none⟩=some (xs[k]'(by rw[h.1];exact a)):=by
 obtain⟨b',o',e,_,hc⟩:=h.2 (by omega);injection e with e;injection e with c e2;subst c;subst e2;exact hc k _ (Aq (by rw[h.1];exact a))
theorem Src.addr{xs:List Ca}(h:Src w A n xs)(hn:0<n):∃ b o,A=some ⟨b,o,none⟩/\b<w.heap.size:=by
 obtain⟨b,o,e,a,_⟩:=h.2 hn;exact⟨b,o,e,a⟩
theorem Src.fQj{c:Nat}{xs:List Ca}(h:w.ownsRow base e 1 (.slice A n c) n xs):Src w A n xs:=by
 refine⟨by simpa using h.1,fun hn=>?_⟩;rcases h.2 with⟨h1,h2⟩ | ⟨g,cap,cur,h1,_,hg,_,_,_,_⟩
 ·omega
 ·have a:A=some ⟨g,0,none⟩:=(by injection h1);subst a;refine⟨g,0,rfl,(Array.getElem?_eq_some_iff.1 hg).1,fun j u b=>?_⟩;have:=h.cells (g:=g) rfl j u b
  rwa[Bq]at this
theorem nK{xs:List Ca}(h:w.ownsRow base e size v n xs)(a:Cb B w w')(hB:w.heap.size<=B):w'.ownsRow base e size v n xs:=by
 refine⟨h.1,?_⟩;rcases h.2 with h2 | ⟨g,cap,cur,h1,h2,hg,r⟩
 ·exact .inl h2
 ·refine .inr ⟨g,cap,cur,h1,h2,?_,r⟩;rw[a.block g (by have:=(Array.getElem?_eq_some_iff.1 hg).1;omega)];exact hg
theorem jX{base':Nat}{xs:List Ca}(h:w.ownsRow base e size v n xs)(a:base'<=base):w.ownsRow base' e size v n xs:=by
 refine⟨h.1,?_⟩;rcases h.2 with h2 | ⟨g,cap,cur,h1,h2,r⟩
 ·exact .inl h2
 ·exact .inr ⟨g,cap,cur,h1,BJ a h2,r⟩
theorem fW{xs:List Ca}(h:w.ownsRow base e size v n xs):
  ∃ A c,v = .slice A n c/\n<=c:=by
 rcases h.2 with⟨h1,h2⟩ | ⟨g,cap,cur,h1,_,_,a,_⟩
 ·subst h2;exact⟨none,0,h1,Aj _⟩
 ·exact⟨_,_,h1,a⟩
theorem bXm{P:Ce}{ops:Array Oper}{rest:List Oper}{o:Oper}{a:Act}{Q:Exit->Act->CY->Prop}(w:CY)(B:o.guard=none)(s x:Operand)(t:Cd)
  (C:o.op = .call { callee:=.builtin .append,args:=#[s,x],argTypes:=#[t,t] })
  (base:Nat) (e:Cd) (z:Ca) (bytes:Nat) (f:P.underlying t=some (.slice e)) (hinfo:(P.info? e).map (fun i=>(i.zero,i.size,i.bytes))=some (some z,1,bytes)) (D:z.cells.size=1)
  (v:Ca) (n:Nat) (xs:List Ca) (hs:a.eval s=v) (k:w.ownsRow base e 1 v n xs)
  (A:Option Addr) (m c:Nat) (news:List Ca) (E:a.eval x = .slice A m c) (hr:Src w A m news) (h1:∀ u∈news,u.oneCell'=true)
  (F:n+m<=maxLen) (hbytes:(n+m)*bytes<=140737488355328) (hbase:base<=w.heap.size)
  (h:∀ d w',w'.ownsRow base e 1 d (n+m) (xs++news)->w.grownBy w' v.ownBlock->wpList P ops Q rest (a.put o.dst d) w'):wpList P ops Q (o :: rest) a w:=by
 obtain⟨i,hi,hz,hsz,G⟩:=info_parts hinfo
 have key:∃ d w',(Builtin.append_ #[t,t] o.type #[v,.slice A m c]).run P w = .ok d w'/\w'.ownsRow base e 1 d (n+m) (xs++news)/\w.grownBy w' v.ownBlock:=by
  rcases A with _ | H
  ·have r:m=0:=by
    rcases Bx m with l | l
    ·exact l
    ·obtain⟨b,o,I,_⟩:=hr.2 l;cases I
   have J:news = []:=Ak (by rw[hr.1,r]);subst J;subst r;refine⟨v,w,?_,by simpa using k,World.grownBy.refl w _⟩;rcases k.2 with⟨rfl,rfl⟩ | ⟨g,cap,cur,rfl,_,_,L,_⟩
   ·simp[Builtin.append_,run_underlying f,sizeOf,typeInfo,hi,Builtin.lenOf,Builtin.firstCells]
   ·simp[Builtin.append_,run_underlying f,sizeOf,typeInfo,hi,Builtin.lenOf,Builtin.firstCells,L,storeCells]
  ·obtain⟨d,w',p,h2,q,_⟩:=run_append_own (P:=P) w base t o.type e i z 1 bytes f hi hz hsz G D (by omega) v n xs k H m c news (by simpa using hr.1)
    (fun j u y=>by
     have hj:=(List.getElem?_eq_some_iff.1 y).1;obtain⟨b,o,e',_,hc⟩:=hr.2 (by have:=hr.1;omega);injection e' with e';subst e';rw[Bq]
     exact hc j u y) h1 F hbytes hbase
   exact⟨d,w',p,h2,q⟩
 obtain⟨d,w',p,h2,q⟩:=key;refine wpList_plain B fun K M=>?_;unfold Oper.wp execOp;simp only[C,resolve,invoke,builtin,Sem.run_bind,Sem.run_pure,Result.andThen_ok,Bi,Az,AY,hs,E,p];exact M _ _ (h d w' h2 q)
theorem aZw{a:CY}{xs:List Ca}(h:Cb B a w)(hg:w.grownBy w' v.ownBlock)(b:w.ownsRow base e size v n xs)(c:B<=base)(hs:B<=w.heap.size):Cb B a w':=
 h.grown hg hs (fun k d=>BJ c (b.lt k d).1)
def bys(l:List Nat):List Ca:=l.map fun c:Nat=>.int .u8 (c:Int)
theorem aYl(l:List Nat):(bys l).length=l.length:=by simp[bys]
theorem aXo(l:List Nat):∀ u∈bys l,u.oneCell'=true:=by
 intro u a;obtain⟨_,_,rfl⟩:=List.mem_map.1 a;rfl
theorem eQj(a b:List Nat):bys (a++b)=bys a++bys b:=by simp[bys]
theorem eQk{l:List Nat}(h:k<(bys l).length):(bys l)[k] = .int .u8 ((l[k]'(by simpa[bys]using h):Nat):Int):=by simp[bys]
theorem eQl(l:List Nat)(k c:Nat):(bys l).set k (.int .u8 (c:Int))=bys (l.set k c):=by
 unfold bys;rw[List.map_set]
def AllB(l:List Nat):Prop:=∀ c∈l,c<256
theorem AllB.get{l:List Nat}(h:AllB l)(a:k<l.length):l[k]<256:=h _ (Cj a)
theorem aYm(w:CY)(v:Ca)(e:Cd):Src (w.alloc (.cells #[v] e)) (some ⟨w.heap.size,0,none⟩) 1 [v]:=by
 refine⟨rfl,fun _=>⟨_,_,rfl,by simp,fun j u a=>?_⟩⟩
 match j,a with
 | 0,a=>
  simp at a;subst a;simp
def bWg(l:List Nat):ByteArray:=⟨(l.map Bv).toArray⟩
theorem bQd(l:List Nat):(bWg l).toList=l.map Bv:=by
 unfold bWg;rw[ByteArray.toList_mk]
theorem aWc:∀ (a b:List Nat),AllB a->AllB b->a.map Bv=b.map Bv->a=b
 | [],[],_,_,_=>rfl
 | [],y :: b,_,_,h=>by simp at h
 | x :: a,[],_,_,h=>by simp at h
 | x :: a,y :: b,ha,d,h=>by
  simp only[Az,List.cons.injEq]at h;obtain⟨h1,h2⟩:=h;have hx:x<256:=ha x (by simp);have hy:y<256:=d y (by simp);have e:=congrArg UInt8.toNat h1;simp only[UInt8.toNat_ofNat']at e;rw[aWc a b (fun c hc=>ha c (by simp[hc])) (fun c hc=>d c (by simp[hc])) h2];rw[show x=y from by omega]
theorem eQm{a b:List Nat}(ha:AllB a)(c:AllB b):((bWg a).toList == (bWg b).toList)=decide (a=b):=by
 rw[bQd,bQd,Bool.eq_iff_iff];simp only[beq_iff_eq,decide_eq_true_eq];exact⟨aWc a b ha c,fun h=>by rw[h]⟩
theorem bWh{P:Ce}(w:CY)(src dst e:Cd)(hs:P.underlying src=some (.slice e))(he:P.underlying e=some (.int .u8))(hd:P.underlying dst=some .string)
  (A:Option Addr) (n c:Nat) (l:List Nat) (h:Src w A n (bys l)) (g:AllB l):(convert src dst (.slice A n c)).run P w = .ok (.string (bWg l)) w:=by
 have hn:l.length=n:=(by rw[<-h.1,aYl]);rcases A with _ | i
 ·have d:n=0:=by
   rcases Bx n with d | d
   ·exact d
   ·obtain⟨b,o,a,_⟩:=h.2 d;cases a
  have:l = []:=Ak (by omega);subst this;rw[run_convert_bytes_nil w src e hs he n c dst hd];rfl
 ·have f:=run_convert_bytes_back (P:=P) w src dst e i c (l.map Bv) hs he hd (fun j hj=>by
   have m:j<n:=(by simp at hj;omega);obtain⟨b,o,a,_,hc⟩:=h.2 (by omega);injection a with a;subst a;rw[Bq,hc j _ (Aq (by rw[h.1];exact m)),eQk];have:=g.get (k:=j) (by omega);simp
   omega)
  rw[Cv,hn]at f;exact f
theorem cWe{x:Addr}(h:w.cell? x=some v):x.spot=none/\x.block<w.heap.size:=by
 unfold BK at h
 split at h
 ·rename_i a
  split at h
  ·cases h
  ·rename_i hs;exact⟨by simpa using hs,(Array.getElem?_eq_some_iff.1 a).1⟩
 ·cases h
theorem yQ{P:Ce}{ops:Array Oper}{rest:List Oper}{o:Oper}{a:Act}{Q:Exit->Act->CY->Prop}(w:CY)(d:o.guard=none)(s x:Operand)(t:Cd)
  (f:o.op = .call { callee:=.builtin .append,args:=#[s,x],argTypes:=#[t,t] })
  (e:Cd) (z:Ca) (bytes:Nat) (g:P.underlying t=some (.slice e)) (hinfo:(P.info? e).map (fun i=>(i.zero,i.size,i.bytes))=some (some z,1,bytes)) (j:z.cells.size=1)
  (hs:a.eval s = .slice none 0 0)
  (A:Option Addr) (m c:Nat) (news:List Ca) (k:a.eval x = .slice A m c) (hr:Src w A m news) (h1:∀ u∈news,u.oneCell'=true)
  (ad:m<=maxLen) (hbytes:m*bytes<=140737488355328)
  (h:∀ b w',w'.ownsRow w.heap.size e 1 b m news->Cb w.heap.size w w'->wpList P ops Q rest (a.put o.dst b) w'):wpList P ops Q (o :: rest) a w:=
 bXm w d s x t f w.heap.size e z bytes g hinfo j (.slice none 0 0) 0 [] hs (Aa _ _ _ _) A m c news k hr h1 (by omega) (by rw[Bg];exact hbytes) (Aj _) fun b w' h2 l=>
  h b w' (by simpa using h2) (aZw (Ax _ _) l (Aa w w.heap.size e 1) (Aj _) (Aj _))
theorem aXd{P:Ce}{ops:Array Oper}{rest:List Oper}{o:Oper}{a:Act}{Q:Exit->Act->CY->Prop}(w:CY)(f:o.guard=none)(s x:Operand)(t:Cd)
  (g:o.op = .call { callee:=.builtin .append,args:=#[s,x],argTypes:=#[t,t] })
  (base:Nat) (e:Cd) (z:Ca) (bytes:Nat) (j:P.underlying t=some (.slice e)) (hinfo:(P.info? e).map (fun i=>(i.zero,i.size,i.bytes))=some (some z,1,bytes)) (k:z.cells.size=1)
  (v:Ca) (n:Nat) (xs:List Ca) (hs:a.eval s=v) (d:w.ownsRow base e 1 v n xs)
  (A:Option Addr) (m c:Nat) (news:List Ca) (l:a.eval x = .slice A m c) (hr:Src w A m news) (h1:∀ u∈news,u.oneCell'=true)
  (p:n+m<=maxLen) (hbytes:(n+m)*bytes<=140737488355328) (hbase:base<=w.heap.size)
  (h:∀ b w',w'.ownsRow base e 1 b (n+m) (xs++news)->Cb base w w'->wpList P ops Q rest (a.put o.dst b) w'):wpList P ops Q (o :: rest) a w:=
 bXm w f s x t g base e z bytes j hinfo k v n xs hs d A m c news l hr h1 p hbytes hbase fun b w' h2 q=>
  h b w' h2 (aZw (Ax _ _) q d (Aj _) hbase)
def Blk(w:CY)(g:Nat)(e:Cd)(cs:Array Ca):Prop:=w.heap[g]? = some (.cells cs e (0,0))
theorem Blk.lt{cs:Array Ca}(h:Blk w g e cs):g<w.heap.size:=(Array.getElem?_eq_some_iff.1 h).1
theorem Blk.new(w:CY)(e:Cd)(cs:Array Ca):Blk (w.alloc (.cells cs e)) w.heap.size e cs:=heap_alloc_new w _
theorem Blk.below{cs:Array Ca}(h:Blk w g e cs)(a:Cb B w w')(b:g<B):Blk w' g e cs:=(a.block g b).trans h
theorem Blk.cell{w:CY}{g:Nat}{e:Cd}{cs:Array Ca}(h:Blk w g e cs)(i:Nat):w.cell? ⟨g,i,none⟩=cs[i]?:=cell_of_row w g i cs e (0,0) h
theorem Blk.src{cs:Array Ca}(h:Blk w g e cs)(n:Nat)(hn:n<=cs.size):Src w (some ⟨g,0,none⟩) n (cs.toList.take n):=by
 refine⟨by simp;omega,fun _=>⟨g,0,rfl,h.lt,fun j u a=>?_⟩⟩;rw[Bg,h.cell];rw[Bz]at a
 split at a
 ·simpa using a
 ·cases a
theorem fK{a:CY}(h:Cb B a w)(n:Nat):Cb B a (w.drewN n):=⟨h.os,h.tape,h.output,h.size,h.block⟩
theorem aZo(k:IntKind)(x:Int):∀ u ∈ [AW k x],u.oneCell'=true:=by
 intro u a;obtain rfl:=List.mem_singleton.1 a;rfl
theorem mW{p:Nat}{xs:List Ca}(h:w.ownsRow p e 1 v n xs)(hn:1<=n):∃ g c,v = .slice (some ⟨g,0,none⟩) n c/\g<w.heap.size/\p<=g/\n<=c:=by
 rcases h.2 with⟨_,h⟩ | ⟨g',aa,cur,rfl,h1,h2,a,r⟩
 ·omega
 ·exact⟨_,_,rfl,(Array.getElem?_eq_some_iff.1 h2).1,h1,a⟩
theorem Src.take{w:CY}{A:Option Addr}{n i:Nat}{xs:List Ca}(h:Src w A n xs)(hi:i<=n):Src w A i (xs.take i):=by
 refine⟨by rw[Cq,h.1];omega,fun h0=>?_⟩;obtain⟨b,o,e,c,hc⟩:=h.2 (by omega);refine⟨b,o,e,c,fun j u a=>hc j u ?_⟩;rw[Bz]at a
 split at a
 ·exact a
 ·cases a
theorem Src.drop{w:CY}{b o n i:Nat}{xs:List Ca}(h:Src w (some ⟨b,o,none⟩) n xs)(hi:i<=n):Src w (some ⟨b,o+i,none⟩) (n - i) (xs.drop i):=by
 refine⟨by rw[List.length_drop,h.1],fun h0=>?_⟩;obtain⟨b',o',e,a,hc⟩:=h.2 (by omega);injection e with e;injection e with c e2;subst c;subst e2;refine⟨b,o+i,rfl,a,fun j u d=>?_⟩;rw[Nat.add_assoc];exact hc (i+j) u (by rw[<-d,List.getElem?_drop])
theorem cWf(h:(Lit.int .u8 a).wf=true):0<=a/\a<256:=by
 simp[Lit.wf,IntKind.min,IntKind.max,IntKind.bits,IntKind.signed]at h;omega
theorem bXn(h:(Lit.int .u64 a).wf=true):0<=a/\a<18446744073709551616:=by
 simp[Lit.wf,IntKind.min,IntKind.max,IntKind.bits,IntKind.signed]at h;omega
theorem bXo(h:(Lit.int .i64 a).wf=true): -9223372036854775808<=a/\a<=9223372036854775807:=by
 simp[Lit.wf,IntKind.min,IntKind.max,IntKind.bits,IntKind.signed]at h;omega
theorem aZx(h:n<18446744073709551616):IntKind.u64.wrap (n:Int)=(n:Int):=by
 rw[IntKind.wrap_u64];omega
theorem bQe{a:Nat}(ha:a<18446744073709551616)(hb:b<18446744073709551616):bits .or .u64 (a:Int) (b:Int)=((a ||| b:Nat):Int):=by
 have hx:a ||| b<2 ^ 64:=Nat.or_lt_two_pow (by omega) (by omega);show IntKind.u64.wrap ((BitVec.ofInt 64 (a:Int) ||| BitVec.ofInt 64 (b:Int)).toNat:Int)=_;rw[BitVec.toNat_or,BitVec.ofInt_natCast,BitVec.ofInt_natCast,BitVec.toNat_ofNat,BitVec.toNat_ofNat,Cx (by omega),Cx (by omega)];exact aZx (by omega)
def aXe:Nat->List (Int×Ca)->List MapEntry
 | _,[]=>[]
 | i,(k,v) :: r=>{ key:=.int .i64 k,val:=v,born:=i } :: aXe (i+1) r
theorem bWi:∀ (i:Nat) (a b:List (Int×Ca)),aXe i (a++b)=aXe i a++aXe (i+a.length) b
 | i,[],b=>by simp[aXe]
 | i,(k,v) :: a,b=>by
  simp only[By,aXe,bWi (i+1) a b,List.length_cons];rw[show i+1+a.length=i+(a.length+1)from by omega]
def lQ(op:Int):List (Int×Ca)->Nat->Option (Nat×Ca)
 | [],_=>none
 | (k,v) :: r,j=>if op=k then some (j,v)else lQ op r (j+1)
theorem aZy(op:Int):∀ (l:List (Int×Ca)) (i j:Nat),Instr.findNow (.int .i64) (.int .i64 op) (aXe i l) j=some (lQ op l j)
 | [],_,_=>rfl
 | (k,v) :: r,i,j=>by
  simp only[aXe,Instr.findNow,Instr.sameNow,lQ,if_true];by_cases h:op=k
  ·simp[h]
  ·have:(op == k)=false:=(by simp[h]);rw[this];simp only[if_neg h];exact aZy op r (i+1) (j+1)
def lit(l:List (Int×Ca)):Obj:=.map (aXe 0 l).toArray l.length
theorem yY{P:Ce}(w:CY)(b:Bool)(n:Nat)(t:Cd)(k:IntKind)(x:Int)(h:P.underlying t=some (.int .i64)):(Instr.checkKey b (n+1) t (.int k x)).run P w = .ok () w:=by
 simp[Instr.checkKey,run_underlying h]
theorem aQs{P:Ce}{a:Array MapEntry}{clock:Nat}(b:w.heap[r]? = some (.map a clock)):(getObj r).run P w = .ok (.map a clock) w:=by
 simp[getObj,Sem.run,b]
theorem aKm{P:Ce}{a:Array MapEntry}{clock:Nat}(o:Obj)(b:w.heap[r]? = some (.map a clock)):(setObj r o).run P w = .ok () { w with heap:=w.heap.setIfInBounds r o }:=by
 simp[setObj,Sem.run,b]
theorem aZz{P:Ce}{b:Cd}{d:TypeDesc}{k:Ca}{l:List MapEntry}{a:Option (Nat×Ca)}(hd:P.underlying b=some d)(h:Instr.findNow d k l 0=some a):(Instr.findKey b k l).run P w = .ok a w:=by
 simp[Instr.findKey,run_underlying hd,h]
theorem cWg(W:CY)(o a:Obj):({ W.alloc o with heap:=(W.alloc o).heap.setIfInBounds W.heap.size a }:CY)=W.alloc a:=by
 show({ ({ W with heap:=W.heap.push o }:CY)with heap:=(W.heap.push o).setIfInBounds W.heap.size a }:CY)={ W with heap:=W.heap.push a }
 have e:(W.heap.push o).setIfInBounds W.heap.size a=W.heap.push a:=by
  apply Be;intro i;simp only[Av,BY,Array.size_push];by_cases h:W.heap.size=i
  ·subst h;simp
  ·rw[if_neg h,if_neg (by omega),if_neg (by omega)]
 rw[e]
theorem jJ{P:Ce}(W:CY)(t a g:Cd)(l:List (Int×Ca))(k:Int)(v:Ca)(h:P.underlying t=some (.map a g))(b:P.underlying a=some (.int .i64))(hn:lQ k l 0=none):
  (Instr.mapUpdate t (.map (some W.heap.size)) (.int .i64 k) v).run P (W.alloc (lit l)) = .ok () (W.alloc (lit (l ++ [(k,v)]))):=by
 have c:(W.alloc (lit l)).heap[W.heap.size]? = some (.map (aXe 0 l).toArray l.length):=heap_alloc_new W _;have h1:=aQs (P:=P) c;have h2:=yY (P:=P) (W.alloc (lit l)) false 9999 a .i64 k b;have d:=aZz (P:=P) (w:=W.alloc (lit l)) b (aZy k l 0 0);rw[hn]at d;have f:=aKm (P:=P) (.map ((aXe 0 l).toArray.push { key:=.int .i64 k,val:=v,born:=l.length }) (l.length+1)) c;rw[cWg]at f
 have e:lit (l ++ [(k,v)]) = .map ((aXe 0 l).toArray.push { key:=.int .i64 k,val:=v,born:=l.length }) (l.length+1):=by
  unfold lit;rw[bWi];simp[aXe]
 rw[e];unfold Instr.mapUpdate;simp only[Sem.run_bind,run_underlying h,Result.andThen_ok,h1,h2,d,f]
theorem aKn{P:Ce}(W:CY)(t a c:Cd)(z:Ca)(l:List (Int×Ca))(k:Int)(e:P.underlying t=some (.map a c))(d:P.underlying a=some (.int .i64))(hz:∀ w,(zeroValue c).run P w = .ok z w):
  (Instr.lookup t (.map (some W.heap.size)) (.int .i64 k) true).run P (W.alloc (lit l)) = .ok (.tuple #[((lQ k l 0).map (·.2)).getD z,.bool (lQ k l 0).isSome]) (W.alloc (lit l)):=by
 have f:(W.alloc (lit l)).heap[W.heap.size]? = some (.map (aXe 0 l).toArray l.length):=heap_alloc_new W _;have h1:=aQs (P:=P) f;have h2:=fun b=>yY (P:=P) (W.alloc (lit l)) b 9999 a .i64 k d;have g:=aZz (P:=P) (w:=W.alloc (lit l)) d (aZy k l 0 0);unfold Instr.lookup;simp only[Sem.run_bind,run_underlying e,Result.andThen_ok,h1,Sem.run_pure,h2,g]
 cases lQ k l 0 with
 | none=>simp[hz,Result.andThen]
 | some p=>simp[Sem.run_pure]
theorem Blk.alloc{w:CY}{g:Nat}{e:Cd}{cs:Array Ca}(h:Blk w g e cs)(o:Obj):Blk (w.alloc o) g e cs:=h.below ((Ax w.heap.size _).alloc (Aj _) _) h.lt
theorem Blk.newAt(w:CY){N:Nat}(e:Cd)(cs:Array Ca)(h:w.heap.size=N):Blk (w.alloc (.cells cs e)) N e cs:=by
 subst h;exact Blk.new w e cs
theorem Blk.drew{w:CY}{g:Nat}{e:Cd}{cs:Array Ca}(h:Blk w g e cs):Blk w.drew g e cs:=h
theorem Blk.drewN{w:CY}{g:Nat}{e:Cd}{cs:Array Ca}(h:Blk w g e cs)(n:Nat):Blk (w.drewN n) g e cs:=h
theorem Blk.own{cs:Array Ca}(h:Blk w g e cs)(a:base<=g)(hn:cs.size=n)(b:n<=maxLen):w.ownsRow base e 1 (.slice (some ⟨g,0,none⟩) n n) n cs.toList:=by
 subst hn;exact⟨by simp,.inr ⟨g,cs.size,cs,rfl,a,h,Aj _,b,by simp,by rw[Bw];exact BQ (by simp)⟩⟩
theorem Blk.fQc{cs:Array Ca}(h:Blk w g e cs)(hn:cs.size=n):Src w (some ⟨g,0,none⟩) n cs.toList:=by
 have:=h.src n (by omega)
 rwa[BQ (by simp;omega)]at this
theorem bWj{xs:List Ca}(h:w.ownsRow base e size v n xs):w.drew.ownsRow base e size v n xs:=h
theorem iJ{xs:List Ca}(h:w.ownsRow base e size v n xs)(o:Obj):(w.alloc o).ownsRow base e size v n xs:=nK h ((Ax w.heap.size _).alloc (Aj _) _) (Aj _)
theorem Src.alloc{w:CY}{A:Option Addr}{n:Nat}{xs:List Ca}(h:Src w A n xs)(o:Obj):Src (w.alloc o) A n xs:=h.below ((Ax w.heap.size _).alloc (Aj _) _) (Aj _)
theorem jY{P:Ce}{ops:Array Oper}{rest:List Oper}{o:Oper}{a:Act}{Q:Exit->Act->CY->Prop}(w:CY)(D:o.guard=none)(s x:Operand)(t:Cd)
  (E:o.op = .call { callee:=.builtin .append,args:=#[s,x],argTypes:=#[t,t] })
  (base:Nat) (e:Cd) (z:Ca) (size bytes:Nat) (f:P.underlying t=some (.slice e)) (hinfo:(P.info? e).map (fun i=>(i.zero,i.size,i.bytes))=some (some z,size,bytes)) (F:z.cells.size=size) (B:0<size)
  (v:Ca) (n:Nat) (xs:List Ca) (hs:a.eval s=v) (k:w.ownsRow base e size v n xs)
  (A:Option Addr) (m c:Nat) (news:List Ca) (G:a.eval x = .slice A m c) (hr:Src w A (m*size) news) (h1:∀ u∈news,u.oneCell'=true)
  (H:n+m<=maxLen) (hbytes:(n+m)*bytes<=140737488355328) (hbase:base<=w.heap.size)
  (h:∀ d w',w'.ownsRow base e size d (n+m) (xs++news)->w.grownBy w' v.ownBlock->(d.ownBlock=v.ownBlock\/d.ownBlock=some w.heap.size)->(d = .slice none 0 0↔v = .slice none 0 0/\m=0)->wpList P ops Q rest (a.put o.dst d) w'):wpList P ops Q (o :: rest) a w:=by
 obtain⟨i,hi,hz,hsz,I⟩:=info_parts hinfo
 have key:∃ d w',(Builtin.append_ #[t,t] o.type #[v,.slice A m c]).run P w = .ok d w'/\w'.ownsRow base e size d (n+m) (xs++news)/\w.grownBy w' v.ownBlock/\(d.ownBlock=v.ownBlock\/d.ownBlock=some w.heap.size)/\(d = .slice none 0 0↔v = .slice none 0 0/\m=0):=by
  rcases A with _ | J
  ·have L:m=0:=by
    rcases Bx m with l | l
    ·exact l
    ·obtain⟨b,o,M,_⟩:=hr.2 (CK l B);cases M
   subst L;have N:news = []:=Ak (by rw[hr.1,BX]);subst N;refine⟨v,w,?_,by simpa using k,World.grownBy.refl w _,.inl rfl,by simp⟩;rcases k.2 with⟨rfl,rfl⟩ | ⟨g,cap,cur,rfl,_,_,O,_⟩
   ·simp[Builtin.append_,run_underlying f,sizeOf,typeInfo,hi,Builtin.lenOf,Builtin.firstCells]
   ·simp[Builtin.append_,run_underlying f,sizeOf,typeInfo,hi,Builtin.lenOf,Builtin.firstCells,O,storeCells]
  ·obtain⟨d,w',p,h2,q,r,y⟩:=run_append_own_at (P:=P) w base t o.type e i z size bytes f hi hz hsz I F B v n xs k J m c news hr.1
    (fun j u C=>by
     have hj:=(List.getElem?_eq_some_iff.1 C).1;obtain⟨b,o,e',_,hc⟩:=hr.2 (by have:=hr.1;omega);injection e' with e';subst e';rw[Bq]
     exact hc j u C) h1 H hbytes hbase
   exact⟨d,w',p,h2,q,y,r⟩
 obtain⟨d,w',p,h2,q,r,y⟩:=key;refine wpList_plain D fun K R=>?_;unfold Oper.wp execOp;simp only[E,resolve,invoke,builtin,Sem.run_bind,Sem.run_pure,Result.andThen_ok,Bi,Az,AY,hs,G,p];exact R _ _ (h d w' h2 q r y)
theorem Blk.grown{cs:Array Ca}{r:Option Nat}(h:Blk w g e cs)(hg:w.grownBy w' r)(hr:r≠some g):Blk w' g e cs:=by
 unfold Blk;rw[hg.block g h.lt (fun e=>hr e.symm)];exact h
theorem kV{xs:List Ca}{r:Option Nat}(h:w.ownsRow base e size v n xs)(hg:w.grownBy w' r)(hr:∀ g,v.ownBlock=some g->r≠some g):w'.ownsRow base e size v n xs:=by
 refine h.kept hg ?_
 cases a:v.ownBlock with
 | none=>exact .inl rfl
 | some g=>exact .inr (fun e=>hr g a e.symm)
theorem Src.grown{xs:List Ca}{r:Option Nat}(h:Src w A n xs)(hg:w.grownBy w' r)(hr:∀ a,A=some a->r≠some a.block):Src w' A n xs:=by
 refine⟨h.1,fun hn=>?_⟩;obtain⟨b,o,e,c,hc⟩:=h.2 hn;refine⟨b,o,e,Bd c hg.size,fun j u d=>?_⟩;have f:=hg.block b c (fun e'=>hr _ e e'.symm);rw[<-hc j u d];unfold BK;rw[f]
theorem iK{a:CY}{r:Option Nat}(h:Cb B a w)(hg:w.grownBy w' r)(hs:B<=w.heap.size)(hr:∀ k,r=some k->B<=k):Cb B a w':=h.grown hg hs hr
abbrev KV:=List (Int×Ca)
def aJa:KV->Int->Option Ca
 | [],_=>none
 | (a,x) :: r,k=>if k=a then some x else aJa r k
def aJb:KV->Int->Ca->KV
 | [],k,v=>[(k,v)]
 | (a,x) :: r,k,v=>if k=a then(a,v) :: r else(a,x) :: aJb r k v
def EM(a:List MapEntry)(m:KV):Prop:=a.map (fun e=>(e.key,e.val))=m.map fun p=>(AW .i64 p.1,p.2)
theorem EM.cons{e:MapEntry}{a:List MapEntry}{m:KV}(h:EM (e :: a) m):∃ k v r,m=(k,v) :: r/\e.key = .int .i64 k/\e.val=v/\EM a r:=by
 cases m with
 | nil=>simp[EM]at h
 | cons p r=>
  obtain⟨k,v⟩:=p;simp only[EM,Az,List.cons.injEq,Prod.mk.injEq]at h;exact⟨k,v,r,rfl,h.1.1,h.1.2,h.2⟩
theorem EM.mk{e:MapEntry}{a:List MapEntry}{k:Int}{v:Ca}{r:KV}(h1:e.key = .int .i64 k)(h2:e.val=v)(h:EM a r):EM (e :: a) ((k,v) :: r):=by
 simp only[EM,Az,List.cons.injEq,Prod.mk.injEq]at h ⊢;exact⟨⟨h1,h2⟩,h⟩
theorem EM.len{a:List MapEntry}{m:KV}(h:EM a m):a.length=m.length:=by
 have:=congrArg List.length h
 simpa using this
theorem aYn(k:Int):∀ (b:List MapEntry) (m:KV) (j:Nat),EM b m->Instr.findNow (.int .i64) (.int .i64 k) b j=some (lQ k m j)
 | [],m,j,h=>by
  cases m with
  | nil=>rfl
  | cons p r=>simp[EM]at h
 | e :: b,m,j,h=>by
  obtain⟨a,v,r,rfl,h1,h2,d⟩:=h.cons;simp only[Instr.findNow,h1,Instr.sameNow,if_true,lQ];by_cases c:k=a
  ·simp[c,h2]
  ·have:(k == a)=false:=(by simp[c]);rw[this];simp only[if_neg c];exact aYn k b r (j+1) d
theorem bQv(k:Int):∀ (m:KV) (j:Nat),(lQ k m j).map (·.2)=aJa m k
 | [],_=>rfl
 | (a,x) :: r,j=>by
  simp only[lQ,aJa];by_cases b:k=a
  ·simp[b]
  ·simp only[if_neg b];exact bQv k r (j+1)
theorem bJy{k:Int}:∀ {m:KV} {j:Nat},lQ k m j=none->∀ v,aJb m k v=m ++ [(k,v)]
 | [],_,_,v=>rfl
 | (a,x) :: r,j,h,v=>by
  simp only[lQ]at h;by_cases b:k=a
  ·simp[b]at h
  ·simp only[if_neg b]at h;simp only[aJb,if_neg b,By,bJy h v]
theorem cWh{k:Int}{v:Ca}:∀ {b:List MapEntry} {m:KV} {j i:Nat} {x:Ca},EM b m->lQ k m j=some (i,x) ->
  j<=i/\(∃ e,b[i - j]? = some e/\e.key = .int .i64 k)/\EM (b.modify (i - j) fun e=>{ e with key:=.int .i64 k,val:=v }) (aJb m k v)
 | [],m,j,i,x,h,hf=>by
  cases m with
  | nil=>simp[lQ]at hf
  | cons p r=>simp[EM]at h
 | e :: b,m,j,i,x,h,hf=>by
  obtain⟨a,y,r,rfl,h1,h2,d⟩:=h.cons;simp only[lQ]at hf;by_cases c:k=a
  ·subst c;simp only[if_true,Option.some.injEq,Prod.mk.injEq]at hf;obtain⟨rfl,rfl⟩:=hf;refine⟨Aj _,⟨e,by simp,h1⟩,?_⟩;simp only[Bh,aJb,if_true];exact EM.mk rfl rfl d
  ·simp only[if_neg c]at hf;obtain⟨k1,⟨e',k2,f⟩,g⟩:=cWh (v:=v) d hf;have hi:i - j=(i - (j+1))+1:=(by omega);refine⟨by omega,⟨e',by rw[hi];simpa using k2,f⟩,?_⟩;rw[hi];simp only[aJb,if_neg c];exact EM.mk h1 h2 g
def IM(w:CY)(b:Nat)(m:KV):Prop:=
 ∃ a clock,w.heap[b]? = some (.map a clock)/\EM a.toList m/\(a.toList.map (·.born)).Nodup/\∀ e∈a.toList,e.born<clock
theorem IM.lt{m:KV}(h:IM w b m):b<w.heap.size:=by
 obtain⟨es,clock,a,_⟩:=h;exact(Array.getElem?_eq_some_iff.1 a).1
theorem IM.new(w:CY):IM (w.alloc (.map #[] 0)) w.heap.size []:=⟨#[],0,heap_alloc_new w _,rfl,by simp,by simp⟩
theorem IM.newAt{N:Nat}(h:w.heap.size=N):IM (w.alloc (.map #[] 0)) N []:=by subst h;exact IM.new w
theorem IM.grown{m:KV}{r:Option Nat}(h:IM w b m)(hg:w.grownBy w' r)(hr:r≠some b):IM w' b m:=by
 have a:=h.lt;obtain⟨c,clock,d,f⟩:=h;exact⟨c,clock,(hg.block b a (fun e=>hr e.symm)).trans d,f⟩
theorem IM.below{m:KV}(h:IM w b m)(a:Cb B w w')(c:b<B):IM w' b m:=by
 obtain⟨d,clock,h1,e⟩:=h;exact⟨d,clock,(a.block b c).trans h1,e⟩
theorem IM.alloc{w:CY}{b:Nat}{m:KV}(h:IM w b m)(o:Obj):IM (w.alloc o) b m:=h.grown (AK w o none) (by simp)
theorem IM.drew{w:CY}{b:Nat}{m:KV}(h:IM w b m):IM w.drew b m:=h
theorem IM.drewN{w:CY}{b:Nat}{m:KV}(h:IM w b m)(n:Nat):IM (w.drewN n) b m:=h
theorem IM.setCell{w:CY}{b:Nat}{m:KV}(h:IM w b m){p:Addr}(v:Ca)(hp:b≠p.block):IM (w.setCell p v) b m:=by
 obtain⟨a,clock,h1,c⟩:=h;exact⟨a,clock,(heap_setCell_other w p b v hp).trans h1,c⟩
theorem aJs(o:Obj)(_:b<w.heap.size):w.grownBy { w with heap:=w.heap.setIfInBounds b o } (some b):=
 ⟨rfl,rfl,rfl,by simp,fun k hk a=>by
  simp only[Av]
  rw[if_neg (fun e=>a (by rw[e]))]⟩
theorem IM.put(c:b<w.heap.size)(a:Array MapEntry)(clock:Nat){m:KV}(h1:EM a.toList m)(h2:(a.toList.map (·.born)).Nodup)(d:∀ e∈a.toList,e.born<clock):IM { w with heap:=w.heap.setIfInBounds b (.map a clock) } b m:=
 ⟨a,clock,by simp[c],h1,h2,d⟩
theorem eWm{P:Ce}(w:CY)(k:Int):(Instr.keyThatStays (.int .i64 k) (.int .i64 k)).run P w = .ok (.int .i64 k) w:=by
 simp[Instr.keyThatStays,Instr.sameBits]
theorem IM.lookup{P:Ce}{w:CY}{b:Nat}{m:KV}(h:IM w b m){t d e:Cd}{z:Ca}(g:P.underlying t=some (.map d e))(f:P.underlying d=some (.int .i64))(hz:(zeroValue e).run P w = .ok z w)(k:Int):
  (Instr.lookup t (.map (some b)) (.int .i64 k) false).run P w = .ok ((aJa m k).getD z) w /\
  (Instr.lookup t (.map (some b)) (.int .i64 k) true).run P w = .ok (.tuple #[(aJa m k).getD z,.bool (aJa m k).isSome]) w:=by
 obtain⟨i,clock,j,he,_,_⟩:=h;have h1:=aQs (P:=P) j;have h2:=fun c=>yY (P:=P) w c 9999 d .i64 k f;have l:=aZz (P:=P) (w:=w) f (aYn k i.toList m 0 he);have a:=bQv k m 0;unfold Instr.lookup;simp only[Sem.run_bind,run_underlying g,Result.andThen_ok,h1,Sem.run_pure,h2,l]
 cases hf:lQ k m 0 with
 | none=>rw[hf]at a;rw[<-a];simp[hz]
 | some p=>rw[hf]at a;rw[<-a];simp[Sem.run_pure]
theorem IM.update{P:Ce}{m:KV}(h:IM w b m){l y:Cd}(z:P.underlying t=some (.map l y))(r:P.underlying l=some (.int .i64))(k:Int)(v:Ca):
  ∃ w',(Instr.mapUpdate t (.map (some b)) (.int .i64 k) v).run P w = .ok () w'/\IM w' b (aJb m k v)/\w.grownBy w' (some b)/\w'.heap.size=w.heap.size:=by
 have g:=h.lt;obtain⟨d,clock,n,he,hn,hc⟩:=h;have h1:=aQs (P:=P) n;have h2:=fun c=>yY (P:=P) w c 9999 l .i64 k r;have A:=aZz (P:=P) (w:=w) r (aYn k d.toList m 0 he);unfold Instr.mapUpdate;simp only[Sem.run_bind,run_underlying z,Result.andThen_ok,h1,h2,A]
 cases hf:lQ k m 0 with
 | none=>
  have o:=aKm (P:=P) (.map (d.push { key:=.int .i64 k,val:=v,born:=clock }) (clock+1)) n;refine⟨_,o,IM.put g _ _ ?_ ?_ ?_,aJs _ g,by simp⟩
  ·rw[bJy hf v];simp only[EM,AJ,AV,Az,AY]at he ⊢;rw[he]
  ·simp only[AJ,AV,Az,AY];rw[Ab];refine⟨hn,by simp,fun a ha c B=>?_⟩;obtain⟨e,f,rfl⟩:=List.mem_map.1 ha;simp at B;have:=hc e f;omega
  ·intro e f;simp only[AJ,Ah,Bf]at f;rcases f with h | h
   ·have:=hc e h;omega
   ·subst h;simp
 | some p=>
  obtain⟨i,x⟩:=p;obtain⟨k1,⟨e0,k2,C⟩,s⟩:=cWh (v:=v) he hf;simp only[Nat.sub_zero]at k2 s
  have D:((d[i]?).map (·.key)).getD (.int .i64 k) = .int .i64 k:=by
   have:d[i]? = some e0:=(by simpa using k2);rw[this]
   simpa using C
  have o:=aKm (P:=P) (.map (d.modify i fun e=>{ e with key:=.int .i64 k,val:=v }) clock) n
  have E:(Instr.keyThatStays (((d[i]?).map (·.key)).getD (.int .i64 k)) (.int .i64 k) >>= fun key=>setObj b (.map (d.modify i fun e=>{ e with key,val:=v }) clock)).run P w = .ok () { w with heap:=w.heap.setIfInBounds b (.map (d.modify i fun e=>{ e with key:=.int .i64 k,val:=v }) clock) }:=by
   rw[D,Sem.run_bind,eWm,Result.andThen_ok,o]
  refine⟨_,E,IM.put g _ _ ?_ ?_ ?_,aJs _ g,by simp⟩
  ·simpa[Ai]using s
  ·have e:((d.modify i fun e=>{ e with key:=.int .i64 k,val:=v }).toList.map (·.born))=d.toList.map (·.born):=by
    rw[Ai];apply Ac;intro j;simp only[AQ,BV];by_cases hj:i=j
    ·subst hj;cases d.toList[i]? <;> simp
    ·simp[hj]
   rw[e];exact hn
  ·intro e f;rw[Ai]at f;obtain⟨j,hj⟩:=List.mem_iff_getElem?.1 f;rw[BV]at hj
   cases q:d.toList[j]? with
   | none=>rw[q]at hj;simp at hj
   | some F=>
    rw[q]at hj;have:=hc F (List.mem_of_getElem? q);by_cases u:i=j
    ·simp[u]at hj;rw[<-hj];exact this
    ·simp[u]at hj;rw[<-hj];exact this
section
variable {P:Ce} {ops:Array Oper} {rest:List Oper} {o:Oper} {a:Act} {Q:Exit->Act->CY->Prop}
theorem bWk(w:CY)(hg:o.guard=none)(m x v:Operand)(t:Cd)(d:o.op=Op.mapUpdate t m x v)(c e:Cd)(f:P.underlying t=some (.map c e))(g:P.underlying c=some (.int .i64))
  (b:Nat) (M:KV) (k:Int) (val:Ca) (h:a.eval m = .map (some b)) (i:a.eval x = .int .i64 k) (j:a.eval v=val) (l:IM w b M)
  (n:∀ w',IM w' b (aJb M k val)->w.grownBy w' (some b)->w'.heap.size=w.heap.size->wpList P ops Q rest (a.put o.dst undef) w'):wpList P ops Q (o :: rest) a w:=by
 refine wpList_plain hg fun K' p=>?_;obtain⟨w',q,r,s,u⟩:=l.update (P:=P) f g k val;unfold Oper.wp;simp[execOp,d,h,i,j,q,Result.andThen];exact p _ _ (n w' r s u)
end
section
open Go.ChangeMaps
def IT(w:CY)(b r:Nat)(m L:KV):Prop:=
 ∃ a clock seen,w.heap[b]? = some (.map a clock)/\EM a.toList m/\(a.toList.map (·.born)).Nodup/\(∀ e∈a.toList,e.born<clock)/\w.heap[r]? = some (.mapIter (some b) clock seen clock)/\EM (leftOf a seen).toList L
theorem IT.im{m L:KV}(h:IT w b r m L):IM w b m:=by
 obtain⟨a,clock,seen,h1,h2,c,d,_⟩:=h;exact⟨a,clock,h1,h2,c,d⟩
theorem IT.lt{m L:KV}(h:IT w b r m L):r<w.heap.size:=by
 obtain⟨es,clock,seen,h1,h2,h3,h4,a,_⟩:=h;exact(Array.getElem?_eq_some_iff.1 a).1
theorem IT.ne{m L:KV}(h:IT w b r m L):r≠b:=by
 obtain⟨es,clock,seen,h1,h2,h3,h4,a,_⟩:=h;intro e;subst e;rw[h1]at a;cases a
theorem IT.grown{m L:KV}{row:Option Nat}(h:IT w b r m L)(hg:w.grownBy w' row)(a:row≠some b)(hr:row≠some r):IT w' b r m L:=by
 have c:=h.im.lt;have d:=h.lt;obtain⟨f,clock,seen,h1,h2,g,i,j,k⟩:=h;exact⟨f,clock,seen,(hg.block b c (fun e=>a e.symm)).trans h1,h2,g,i,(hg.block r d (fun e=>hr e.symm)).trans j,k⟩
theorem IT.alloc{w:CY}{b r:Nat}{m L:KV}(h:IT w b r m L)(o:Obj):IT (w.alloc o) b r m L:=h.grown (AK w o none) (by simp) (by simp)
theorem IT.left{m L:KV}(h:IT w b r m L):w.rangeLeft b r=L.length:=by
 obtain⟨es,clock,seen,h1,h2,h3,h4,a,c⟩:=h;unfold World.rangeLeft;rw[h1,a]
 simpa using c.len
theorem bWl:∀ {f:List MapEntry} {e:MapEntry} {b:List MapEntry} {L:KV},EM (f++e :: b) L->∃ c k v d,L=c++(k,v) :: d/\e.key = .int .i64 k/\e.val=v/\EM (f++b) (c++d)
 | [],e,b,L,h=>by
  obtain⟨k,v,r,rfl,h1,h2,g⟩:=h.cons;exact⟨[],k,v,r,rfl,h1,h2,g⟩
 | a :: f,e,b,L,h=>by
  obtain⟨k,v,r,rfl,h1,h2,g⟩:=EM.cons h;obtain⟨c,k',i,d,rfl,j,k2,l⟩:=bWl g;exact⟨(k,v) :: c,k',i,d,rfl,j,k2,EM.mk h1 h2 l⟩
theorem cQw{a:List MapEntry}{e:MapEntry}{b:List MapEntry}(h:((a++e :: b).map (·.born)).Nodup):(a++e :: b).filter (fun x=>!(x.born == e.born))=a++b:=by
 rw[AV,Az,Ab]at h;obtain⟨h1,h2,d⟩:=h;rw[List.nodup_cons]at h2;rw[List.filter_append,List.filter_cons]
 have f1:a.filter (fun x=>!(x.born == e.born))=a:=by
  rw[Bj];intro x c;have:=d x.born (List.mem_map.2 ⟨x,c,rfl⟩) e.born (by simp)
  simpa using this
 have f:b.filter (fun x=>!(x.born == e.born))=b:=by
  rw[Bj];intro x c;have:x.born≠e.born:=fun g=>h2.1 (g ▸ List.mem_map.2 ⟨x,c,rfl⟩)
  simpa using this
 simp[f1,f]
theorem cQx(a:Array MapEntry)(seen:Array Nat)(n:Nat):(leftOf a (seen.push n)).toList=(leftOf a seen).toList.filter (fun x=>!(x.born == n)):=by
 unfold leftOf;rw[AX,AX,List.filter_filter];refine List.filter_congr fun x _=>?_;rw[Array.contains_push];simp only[Bool.not_or,Bool.and_comm]
theorem cQy(a:Array MapEntry):(leftOf a #[]).toList=a.toList:=by
 unfold leftOf;rw[AX,Bj];intro x _;simp
section
variable {P:Ce} {ops:Array Oper} {rest:List Oper} {o:Oper} {a:Act} {Q:Exit->Act->CY->Prop}
theorem aJc(w:CY)(hg:o.guard=none)(m:Operand)(t:Cd)(d:o.op=Op.range t m)(e f:Cd)(g:P.underlying t=some (.map e f))(b:Nat)(M:KV)(h:a.eval m = .map (some b))(i:IM w b M)
  (j:∀ w',IT w' b w.heap.size M M->w.grownBy w' none->w'.heap.size=w.heap.size+1->wpList P ops Q rest (a.put o.dst (.pointer (some ⟨w.heap.size,0,none⟩))) w'):wpList P ops Q (o :: rest) a w:=by
 refine wpList_plain hg fun K' k=>?_;obtain⟨l,clock,c,h1,h2,n⟩:=i
 have p:(Instr.range t (.map (some b))).run P w = .ok (.pointer (some ⟨w.heap.size,0,none⟩)) (w.alloc (.mapIter (some b) clock #[] clock)):=by
  simp[Instr.range,run_underlying g,aQs c]
 unfold Oper.wp;simp[execOp,d,h,p,Result.andThen];have q:b<w.heap.size:=(Array.getElem?_eq_some_iff.1 c).1;exact k _ _ (j _ ⟨l,clock,#[],(((AK w _ none).block b q (by simp)).trans c),h1,h2,n,_root_.Go.heap_alloc_new w _,by rw[cQy];exact h1⟩ (AK w _ none) (by simp))
theorem aKo(w:CY)(hg:o.guard=none)(it:Operand)(q:o.op=Op.next it false)(b r:Nat)(M L:KV)(s:a.eval it = .pointer (some ⟨r,0,none⟩))(h:IT w b r M L)
  (hDone:L = []->wpList P ops Q rest (a.put o.dst (.tuple #[.bool false])) w)
  (hMore:∀ f k v g w',L=f++(k,v) :: g->IT w' b r M (f++g)->w.grownBy w' (some r)->w'.heap.size=w.heap.size->(Instr.entry (.pointer (some ⟨r,0,none⟩))).run P w' = .ok (.tuple #[.int .i64 k,v]) w' ->
   wpList P ops Q rest (a.put o.dst (.tuple #[.bool true,.int .i64 k,v])) w'):wpList P ops Q (o :: rest) a w:=by
 refine wpList_plain hg fun K' t=>?_;have E:=h.ne;have F:=h.lt;obtain⟨c,clock,seen,h1,h2,m,u,G,x⟩:=h;unfold Oper.wp;rcases run_next_at (P:=P) w o.type r b clock clock seen c clock G h1 u (Aj _)with⟨H,n⟩ | ⟨e,he,w1,i,n⟩
 ·simp[execOp,q,s,n,Result.andThen];refine t _ _ (hDone ?_);have:=x.len;simp only[Ba,H]at this;exact Ak this.symm
 ·simp[execOp,q,s,n,Result.andThen];obtain⟨l1,l2,p⟩:=List.append_of_mem he;have y:=x;rw[p]at y;obtain⟨f,k,v,g,rfl,z,k2,I⟩:=bWl y
  have J:e∈c.toList:=by
   have:e∈(leftOf c seen).toList:=he;unfold leftOf at this;rw[AX]at this;exact(List.mem_filter.1 this).1
  have A:((leftOf c seen).toList.map (·.born)).Nodup:=by
   unfold leftOf;rw[AX];exact List.Nodup.sublist ((List.filter_sublist (l:=c.toList)).map _) m
  rw[p]at A;have d:w1.heap=w.heap:=(by rcases i with rfl | rfl <;> rfl)
  have B:(setBlock w1 r (.mapIter (some b) clock (seen.push e.born) clock)).heap[b]? = some (.map c clock):=by
   simp only[setBlock,Av,d];rw[if_neg E];exact h1
  have C:(setBlock w1 r (.mapIter (some b) clock (seen.push e.born) clock)).heap[r]? = some (.mapIter (some b) clock (seen.push e.born) clock):=by
   simp[setBlock,d,F]
  have D:=run_entry_at (P:=P) _ r b clock seen c clock e C B J m;rw[z,k2]at D;rw[z,k2];refine t _ _ (hMore f k v g _ rfl ⟨c,clock,seen.push e.born,B,h2,m,u,C,?_⟩ ?_ ?_ D)
  ·rw[cQx,p,cQw A];exact I
  ·refine⟨?_,?_,?_,by simp[setBlock,d],fun j hj K=>?_⟩
   ·rcases i with rfl | rfl <;> rfl
   ·rcases i with rfl | rfl <;> rfl
   ·rcases i with rfl | rfl <;> rfl
   ·simp only[setBlock,Av,d];rw[if_neg (fun e=>K (by rw[e]))]
  ·simp[setBlock,d]
end
end
theorem gY{p:Nat}{u:Ca}{xs:List Ca}(h:w.ownsRow p e size v n xs)(hg:v.ownBlock≠some g):(w.setCell ⟨g,k,none⟩ u).ownsRow p e size v n xs:=by
 refine⟨h.1,?_⟩;rcases h.2 with h2 | ⟨a,cap,cur,rfl,h2,b,r⟩
 ·exact .inl h2
 ·refine .inr ⟨a,cap,cur,rfl,h2,?_,r⟩;have c:a≠g:=fun e=>hg (by simp[CQ,e]);rw[heap_setCell_other w ⟨g,k,none⟩ a u c];exact b
theorem rY{G:Nat}{cs:Array Ca}{u:Ca}(h:Blk w G e cs)(hg:G≠g):Blk (w.setCell ⟨g,k,none⟩ u) G e cs:=by
 unfold Blk;rw[heap_setCell_other w ⟨g,k,none⟩ G u hg];exact h
section
open Go.Sort
def i64s(l:List Int):List Ca:=l.map (AW .i64)
theorem bQw(l:List Int):(i64s l).length=l.length:=by simp[i64s]
theorem bWm(a b:List Int):i64s (a++b)=i64s a++i64s b:=by simp[i64s]
theorem aKp(h:k<l.length):(i64s l)[k]'(by simpa[i64s]using h) = .int .i64 l[k]:=by simp[i64s]
theorem bJz(l:List Int)(n:Nat):(i64s l).take n=i64s (l.take n):=by simp[i64s,List.map_take]
theorem aVe(l:List Int):∀ u∈i64s l,u.oneCell'=true:=by
 intro u a;obtain⟨_,_,rfl⟩:=List.mem_map.1 a;rfl
theorem Src.setCell{w:CY}{A:Option Addr}{n:Nat}{xs:List Ca}(h:Src w A n xs){p:Addr}(v:Ca)(hp:∀ a,A=some a->a.block≠p.block):Src (w.setCell p v) A n xs:=by
 refine⟨h.1,fun hn=>?_⟩;obtain⟨b,o,e,c,hc⟩:=h.2 hn;refine⟨b,o,e,by simpa using c,fun j u d=>?_⟩;rw[<-hc j u d];have:=heap_setCell_other w p b v (hp _ e);unfold BK;rw[this]
theorem cWi{c:Nat}{a:List Int}(h:w.ownsRow base e 1 (.slice (some ⟨g,0,none⟩) a.length c) a.length (i64s a)):Holds (AW .i64) w g 0 a.toArray:=by
 intro j hj;have b:j<a.length:=(by simpa using hj);refine⟨?_,?_⟩
 ·have:=(Src.fQj h).at_ b;rw[aKp b]at this;rw[this,getElem!_pos _ j hj];simp
 ·rcases h.2 with⟨h1,_⟩ | ⟨g',cap,cur,h1,_,hg,_⟩
  ·cases h1
  ·injection h1 with h1 h2 h3;injection h1 with h1;injection h1 with h1;subst h1;exact frozen_of_row w g (0+j) _ _ hg
theorem eQn{c:Nat}{a ys:List Int}(hl:ys.length=a.length)(h:w.ownsRow base e 1 (.slice (some ⟨g,0,none⟩) a.length c) a.length (i64s a))(n:Nat)(os:Array Obj):
  (grow (putRow (AW .i64) (Sort.ahead w n) g 0 ys.toArray) os).ownsRow base e 1 (.slice (some ⟨g,0,none⟩) ys.length c) ys.length (i64s ys)/\w.grownBy (grow (putRow (AW .i64) (Sort.ahead w n) g 0 ys.toArray) os) (some g):=by
 rcases h.2 with⟨h1,_⟩ | ⟨g',cap,cur,h1,d,hg,hn,f,af,ag⟩
 ·cases h1
 injection h1 with h1 h2 i;injection h1 with h1;injection h1 with h1;subst h1;subst i;have l:g<w.heap.size:=(Array.getElem?_eq_some_iff.1 hg).1;constructor
 ·refine⟨by simp[i64s],.inr ⟨g,c,putCells (AW .i64) 0 ys.toArray cur,rfl,d,?_,by omega,f,by simp[putCells];omega,?_⟩⟩
  ·rw[heap_grow_old _ _ (by simpa using l)];simp only[putRow,mapBlock,heap_ahead,Ag,if_true,hg,BZ,onCells]
  ·apply Ac;intro j;rw[Bz];by_cases hj:j<ys.length*1
   ·rw[if_pos hj];have b:j<ys.length:=(by omega);have m:j<cur.size:=(by omega);simp only[putCells,Array.getElem?_toList,Array.getElem?_mapIdx];rw[Array.getElem?_eq_getElem m];simp only[BZ];rw[if_pos ⟨by omega,by simpa using b⟩];have o:(ys.toArray[j - 0]!)=ys[j]:=(by rw[getElem!_pos _ (j - 0) (by simpa using b)];simp);rw[o];simp[i64s,AQ,Aq b]
   ·rw[if_neg hj]
    symm
    rw[Ay];simp[i64s];omega
 ·refine⟨rfl,rfl,rfl,by simp,fun k p q=>?_⟩;rw[heap_grow_old _ _ (by simpa using p)];simp only[putRow,mapBlock,heap_ahead,Ag];rw[if_neg (fun e=>q (by rw[e]))]
def aZj(a:List Int):List Int:=a.mergeSort fun x y=>decide (x<=y)
theorem cWj(a:List Int)(x:Int):x∈aZj a↔x∈a:=List.mem_mergeSort
theorem aWi(a:List Int):(aZj a).length=a.length:=List.length_mergeSort a
theorem bWn(d:List Int):(aZj d).Pairwise (· <= ·):=by
 have:=List.pairwise_mergeSort (le:=fun x y:Int=>decide (x<=y)) (fun a b c h1 h2=>by simp at *;omega) (fun a b=>by simp;omega) d
 simpa[aZj]using this
theorem bQx{c:Nat}{xs:List Ca}(h:w.ownsRow base e size (.slice A n c) n xs)(a:k<=n)(b:A≠none):w.ownsRow base e size (.slice A k c) k (xs.take (k*size)):=by
 rcases h.2 with⟨h1,_⟩ | ⟨g,cap,cur,h1,d,hg,hn,f,i,j⟩
 ·injection h1 with h1;exact absurd h1 b
 ·injection h1 with h1 h2 l;subst h1;subst l;refine⟨?_,.inr ⟨g,c,cur,rfl,d,hg,by omega,f,i,?_⟩⟩
  ·rw[Cq,h.1];exact Cw (BW _ a)
  ·rw[<-j,List.take_take,Cw (BW _ a)]
end
def Ints(w:CY)(v:Ca)(l:List Int):Prop:=∃ A c,v = .slice A l.length c/\Src w A l.length (i64s l)/\l.length<=c/\(A=none->c=0)/\(l.length*8<=140737488351232/\c<=9223372036854775807)
def boolsV(l:List Bool):List Ca:=l.map CV
theorem bKa{l:List Bool}(h:k<l.length):(boolsV l)[k]'(by simpa[boolsV]using h) = .bool l[k]:=by simp[boolsV]
def Bools(w:CY)(v:Ca)(l:List Bool):Prop:=∃ A c,v = .slice A l.length c/\Src w A l.length (boolsV l)/\l.length<=c/\(A=none->c=0)/\(l.length<=140737488351232/\c<=9223372036854775807)
def Structs{α:Type}(k:Nat)(R:CY->List Ca->α->Prop)(w:CY)(v:Ca)(l:List α):Prop:=
 ∃ (A:Option Addr) (c:Nat) (vs:List (List Ca)),v = .slice A l.length c/\l.length<=c/\(A=none->c=0)/\(l.length<=140737488351232/\c<=9223372036854775807)/\vs.length=l.length/\(∀ r∈vs,r.length=k)/\(∀ (i:Nat) (r:List Ca) (x:α),vs[i]? = some r->l[i]? = some x->R w r x)/\Src w A (l.length*k) vs.flatten
theorem aXf{k:Nat}:∀ {vs:List (List Ca)} {i j:Nat} {r:List Ca} {u:Ca},(∀ r∈vs,r.length=k)->vs[i]? = some r->r[j]? = some u->vs.flatten[i*k+j]? = some u
 | [],i,j,r,u,_,h,_=>by simp at h
 | s :: vs,0,j,r,u,b,h,a=>by
  simp at h;subst h;simp only[Ad,BX,Bg];rw[AZ (List.getElem?_eq_some_iff.1 a).1];exact a
 | s :: vs,i+1,j,r,u,b,h,a=>by
  simp at h;have hs:s.length=k:=b s (by simp);have c:=aXf (vs:=vs) (fun r hr=>b r (by simp[hr])) h a;rw[Ad,Aw (by rw[hs,Ck];omega),hs];rw[show(i+1)*k+j - k=i*k+j by rw[Ck];omega];exact c
theorem Ints.below{w w':CY}{B:Nat}{v:Ca}{l:List Int}(h:Ints w v l)(a:Cb B w w')(b:w.heap.size<=B):Ints w' v l:=by
 obtain⟨A,c,e,hs,r⟩:=h;exact⟨A,c,e,hs.below a b,r⟩
theorem Bools.below{w w':CY}{B:Nat}{v:Ca}{l:List Bool}(h:Bools w v l)(a:Cb B w w')(b:w.heap.size<=B):Bools w' v l:=by
 obtain⟨A,c,e,hs,r⟩:=h;exact⟨A,c,e,hs.below a b,r⟩
theorem Structs.below{α:Type}{k:Nat}{R:CY->List Ca->α->Prop}{w w':CY}{B:Nat}{v:Ca}{l:List α}(h:Structs k R w v l)(a:Cb B w w')(b:w.heap.size<=B)
  (d:∀ r x,R w r x->R w' r x):Structs k R w' v l:=by
 obtain⟨A,c,vs,e,h1,h2,f,g,j,m,hs⟩:=h;exact⟨A,c,vs,e,h1,h2,f,g,j,fun i r x q1 n=>d r x (m i r x q1 n),hs.below a b⟩
theorem Structs.at{α:Type}{R:CY->List Ca->α->Prop}{l:List α}(h:Structs k R w v l)(f:0<k){i:Nat}{x:α}(a:l[i]? = some x):
  ∃ b o c r,v = .slice (some ⟨b,o,none⟩) l.length c/\b<w.heap.size/\r.length=k/\R w r x/\∀ j u,r[j]? = some u->w.cell? ⟨b,o+(i*k+j),none⟩=some u:=by
 obtain⟨A,c,vs,e,h1,h2,h3,h4,d,g,hs⟩:=h;have hi:i<l.length:=(List.getElem?_eq_some_iff.1 a).1;obtain⟨b,o,rfl,m,hc⟩:=hs.2 (CK (by omega) f);have hr:vs[i]? = some (vs[i]'(by omega)):=Aq (by omega);exact⟨b,o,c,_,e,m,d _ (Cj _),g i _ x hr a,fun j u n=>hc _ u (aXf d hr n)⟩
theorem Structs.len{α:Type}{R:CY->List Ca->α->Prop}{l:List α}(h:Structs k R w v l):∃ A c,v = .slice A l.length c/\l.length<=c/\l.length<=140737488351232/\c<=9223372036854775807:=by
 obtain⟨A,c,vs,e,h1,h2,a,_⟩:=h;exact⟨A,c,e,h1,a⟩
theorem Ints.len(h:Ints w v l):∃ A c,v = .slice A l.length c/\Src w A l.length (i64s l)/\l.length*8<=140737488351232:=by
 obtain⟨A,c,e,hs,h1,h2,h3⟩:=h;exact⟨A,c,e,hs,by omega⟩
theorem Ints.nil(w:CY):Ints w (.slice none 0 0) []:=⟨none,0,rfl,Src.nil _ _,Aj _,fun _=>rfl,by simp⟩
structure SigD where
 inn:List Int
 out:List Int
structure EnvD where
 sigs:List SigD
 imports:Int
 globals:List Int
 muts:List Bool
 mem:Bool
structure CodeD where
 op:Int
 n:Nat
 args:List Int
 outs:List Int
 to:List Int
def CodeD.ok(c:CodeD):Prop:=c.n<18446744073709551616 /\ -9223372036854775808<=c.op/\c.op<=9223372036854775807
structure RowD where
 sig:SigD
 places:Int
 params:List Int
 code:List CodeD
def SigC(w:CY)(r:List Ca)(s:SigD):Prop:=∃ a b,r = [a,b]/\Ints w a s.inn/\Ints w b s.out
def CodeC(w:CY)(r:List Ca)(c:CodeD):Prop:=∃ a b d,r = [.int .i64 c.op,.int .u64 (c.n:Int),a,b,d]/\c.ok/\Ints w a c.args/\Ints w b c.outs/\Ints w d c.to
def eYj(w:CY)(r:List Ca)(e:EnvD):Prop:=∃ a b d,r = [a,.int .i64 e.imports,b,d,.bool e.mem]/\Structs 2 SigC w a e.sigs/\Ints w b e.globals/\Bools w d e.muts
def RowC(w:CY)(r:List Ca)(x:RowD):Prop:=∃ a b p d,r = [a,b,.int .i64 x.places,p,d]/\Ints w a x.sig.inn/\Ints w b x.sig.out/\Ints w p x.params/\Structs 5 CodeC w d x.code
theorem SigC.below{w w':CY}{B:Nat}{r:List Ca}{s:SigD}(h:SigC w r s)(c:Cb B w w')(d:w.heap.size<=B):SigC w' r s:=by
 obtain⟨a,b,e,h1,h2⟩:=h;exact⟨a,b,e,h1.below c d,h2.below c d⟩
theorem CodeC.below{w w':CY}{B:Nat}{r:List Ca}{c:CodeD}(h:CodeC w r c)(f:Cb B w w')(g:w.heap.size<=B):CodeC w' r c:=by
 obtain⟨a,b,d,e,i,h1,h2,j⟩:=h;exact⟨a,b,d,e,i,h1.below f g,h2.below f g,j.below f g⟩
theorem RowC.below{w w':CY}{B:Nat}{r:List Ca}{x:RowD}(h:RowC w r x)(c:Cb B w w')(e:w.heap.size<=B):RowC w' r x:=by
 obtain⟨a,b,p,d,e',h1,h2,f,g⟩:=h;exact⟨a,b,p,d,e',h1.below c e,h2.below c e,f.below c e,g.below c e (fun r x q=>q.below c e)⟩
section
open Go.ChangeShapes Go.WideShapes Go.Deep
section
variable {H:Type} {enc:Cd×Ca->H} {P:Ce} {w:CY}
def aVf(P:Ce)(t:Cd)(d:DataW H):Prop:=∀ n∈d.weights P t,n<=reachBytes
def qX(enc:Cd×Ca->H)(P:Ce)(w:CY){α:Type}(t:Cd)(R:CY->List Ca->α->Prop):Prop:=
 ∀ fuel cs x,DataW.trod enc P w 0 (fun _=>true) true fuel t cs=some x->aVf P t x.1->∃ a:α,R w cs a
theorem aJt{k:IntKind}(b:P.underlying t=some (.int k)):qX enc P w t (fun _ cs (a:Int)=>cs = [.int k a]/\(Lit.int k a).wf=true):=by
 intro fuel cs x h _;obtain⟨n,e,_,c⟩:=DataW.trod_int b h;exact⟨n,e,c⟩
theorem aXp{t:Cd}:∀ {l:List (DataW H)} {d:DataW H},d∈l->∀ n∈d.weights P t,n∈DataW.weightsAll P t l
 | [],d,h,_,_=>by simp at h
 | e :: l,d,h,n,hn=>by
  simp only[DataW.weightsAll,Ah];rcases List.mem_cons.1 h with h | h
  ·subst h;exact .inl hn
  ·exact .inr (aXp h n hn)
theorem cWk{a:Addr}{cs:List Ca}(h:w.cells? 0 a k=some cs):cs.length=k/\∀ j,j<k->w.cell? (a.add j)=cs[j]?:=by
 obtain⟨_,h1,h2⟩:=World.cells?_some h;exact⟨h1,h2⟩
theorem bQf{α:Type}{k:Nat}{R:CY->List Ca->α->Prop}{a:Addr}{m:Nat}(f:0<k)(hc:∀ i,i<m->∃ (cs:List Ca) (x:α),cs.length=k/\(∀ j,j<k->w.cell? (a.add (i*k+j))=cs[j]?)/\R w cs x):
  ∀ len,len<=m->∃ (l:List α) (vs:List (List Ca)),l.length=len/\vs.length=len/\(∀ r∈vs,r.length=k)/\(∀ (i:Nat) (r:List Ca) (x:α),vs[i]? = some r->l[i]? = some x->R w r x)/\Src w (some a) (len*k) vs.flatten
 | 0,_=>⟨[],[],rfl,rfl,by simp,by simp,by rw[BX];exact Src.nil _ _⟩
 | len+1,h=>by
  obtain⟨l,vs,h1,h2,p,q,g⟩:=bQf f hc len (by omega);obtain⟨cs,x,c1,s,t⟩:=hc len (by omega);obtain⟨aj,x0,d1,v,_⟩:=hc 0 (by omega);have n:=v 0 f;rw[show a.add (0*k+0)=a by simp[Addr.add],Aq (by omega)]at n;obtain⟨hs,z⟩:=cWe n;obtain⟨A,d,B⟩:=a;have C:B=none:=hs;subst C;have o:vs.flatten.length=len*k:=(by have:=g.1;exact this);refine⟨l ++ [x],vs ++ [cs],by simp[h1],by simp[h2],fun r hr=>?_,fun i r y q1 c=>?_,?_⟩
  ·rcases List.mem_append.1 hr with hr | hr
   ·exact p r hr
   ·simp at hr;rw[hr];exact c1
  ·by_cases hi:i<len
   ·rw[AZ (by omega)]at q1 c;exact q i r y q1 c
   ·have D:i=len:=by
     have:=(List.getElem?_eq_some_iff.1 q1).1;simp[h2]at this;omega
    subst D;rw[Aw (by omega),h2,Bh]at q1;rw[Aw (by omega),h1,Bh]at c;simp at q1 c;subst q1;subst c;exact t
  ·refine⟨by simp only[Bb,List.length_append,o,Ad,Cz,Cy,c1];rw[Ck];omega,fun _=>⟨A,d,rfl,z,fun j u b=>?_⟩⟩;simp only[Bb,Ad,Cz,Cy]at b;by_cases hj:j<len*k
   ·rw[AZ (by omega)]at b;obtain⟨b',o',e,_,E⟩:=g.2 (by omega);injection e with e;injection e with F e2;subst F;subst e2;exact E j u b
   ·rw[Aw (by omega),o]at b;have G:j - len*k<k:=(by have:=(List.getElem?_eq_some_iff.1 b).1;omega);have:=s (j - len*k) G;rw[Bq,b,show d+(len*k+(j - len*k))=d+j by omega]at this;exact this
theorem uY{α:Type}{R:CY->List Ca->α->Prop}(b:P.underlying t=some (.slice e))(p:P.cellsOf e=k)(r:0<k)(s:1<=P.bytesOf e)(u:qX enc P w e R):
  qX enc P w t (fun w cs (l:List α)=>∃ v,cs = [v]/\Structs k R w v l/\∀ A n c,v = .slice A n c->c*P.bytesOf e<=reachBytes):=by
 intro fuel cs x h f;rcases open_slice b h with⟨rfl,_⟩ | ⟨a,len,cap,m,n,D,Pl,rfl,_,z,hm,B,C,hi⟩
 ·exact⟨[],_,rfl,⟨none,0,[],rfl,Aj _,fun _=>rfl,by simp,rfl,by simp,by simp,by rw[List.length_nil,BX];exact Src.nil _ _⟩,fun A n c e=>by injection e with _ _ e;subst e;simp⟩
 ·have al:m=cap:=(by simpa using B);have hd:x.1=_:=congrArg Prod.fst C
  have E:∀ d,(d∈(CW len).map D\/d∈(CW (m - len)).map fun j=>D (len+j))->aVf P e d:=fun d F q hq=>by
   refine f q ?_;rw[hd];simp only[DataW.weights,b,Bc,Ah];rcases F with h1 | h1
   ·exact .inr (.inl (aXp h1 q hq))
   ·exact .inr (.inr (aXp h1 q hq))
  have g:cap*P.bytesOf e<=reachBytes:=by
   refine f _ ?_;rw[hd];simp only[DataW.weights,b,Bc,Cv,List.length_range]
   left
   rw[show len+(m - len)=cap by omega]
  have ad:cap<=140737488351232:=by have:=BJ (Nat.mul_le_mul_left cap s) g;rw[Bw]at this;exact this
  obtain⟨l,vs,h1,h2,G,H,I⟩:=bQf (w:=w) (R:=R) (a:=a) (m:=m) r (fun i J=>by
   obtain⟨o,q1,K⟩:=hi i J;rw[p]at q1
   obtain⟨y,L⟩:=u n o _ K (E _ (by
    by_cases M:i<len
    ·exact .inl (List.mem_map.2 ⟨i,by simpa using M,rfl⟩)
    ·exact .inr (List.mem_map.2 ⟨i - len,by simp;omega,by show D (len+(i - len))=D i;rw[show len+(i - len)=i by omega]⟩)))
   obtain⟨c1,N⟩:=cWk q1
   exact⟨o,y,c1,fun j hj=>by rw[<-N j hj,Go.Deep.add_add],L⟩) len (by omega)
  subst h1;exact⟨l,_,rfl,⟨some a,cap,vs,rfl,z,(fun e=>by cases e),⟨by omega,by omega⟩,h2,G,H,I⟩,fun A n c e=>by injection e with _ _ e;subst e;exact g⟩
theorem cJg(f:P.underlying t=some (.slice e))(he:P.underlying e=some (.int .i64))(g:P.cellsOf e=1)(k:P.bytesOf e=8):
  qX enc P w t (fun w cs (l:List Int)=>∃ v,cs = [v]/\Ints w v l):=by
 intro fuel cs x h m;obtain⟨l,v,rfl,⟨A,c,vs,rfl,h1,h2,h3,h4,n,o,b⟩,p⟩:=uY (enc:=enc) (w:=w) f g (by omega) (by omega) (aJt he) fuel cs x h m;have a:=p _ _ _ rfl;rw[k]at a;refine⟨l,_,rfl,A,c,rfl,?_,h1,h2,by have q:c*8<=140737488351232:=a;omega,by have q:c*8<=140737488351232:=a;omega⟩
 have r:vs.flatten=i64s l:=by
  apply Ac;intro i;by_cases hi:i<l.length
  ·have d:vs[i]? = some (vs[i]'(by omega)):=Aq (by omega);have hr:=(o i _ _ d (Aq hi)).1;have:=aXf (j:=0) n d (by rw[hr];rfl);rw[Bw,CZ]at this;rw[this];simp[i64s,AQ,Aq hi]
  ·have s:=b.1;rw[Ay (by rw[s];omega),Ay (by simp[i64s];omega)]
 rw[<-r]
 simpa using b
theorem bXp(c:P.underlying t=some .bool):qX enc P w t (fun _ cs (a:Bool)=>cs = [.bool a]):=by
 intro fuel cs x h _;obtain⟨b,e,_⟩:=DataW.trod_bool c h;exact⟨b,e⟩
theorem cQz(d:P.underlying t=some (.slice e))(he:P.underlying e=some .bool)(f:P.cellsOf e=1)(g:1<=P.bytesOf e):
  qX enc P w t (fun w cs (l:List Bool)=>∃ v,cs = [v]/\Bools w v l):=by
 intro fuel cs x h k;obtain⟨l,v,rfl,⟨A,c,vs,rfl,h1,h2,m,h4,n,o,a⟩,_⟩:=uY (enc:=enc) (w:=w) d f (by omega) g (bXp he) fuel cs x h k;refine⟨l,_,rfl,A,c,rfl,?_,h1,h2,m⟩
 have p:vs.flatten=boolsV l:=by
  apply Ac;intro i;by_cases hi:i<l.length
  ·have b:vs[i]? = some (vs[i]'(by omega)):=Aq (by omega);have hr:=o i _ _ b (Aq hi);have:=aXf (j:=0) n b (by rw[hr];rfl);rw[Bw,CZ]at this;rw[this];simp[boolsV,AQ,Aq hi]
  ·have q:=a.1;rw[Ay (by rw[q];omega),Ay (by simp[boolsV];omega)]
 rw[<-p]
 simpa using a
theorem cXa{fs:Array Field}{fuel:Nat}{cs:List Ca}{x:DataW H×List MemPlace}(b:P.underlying t=some (.struct fs))(h:DataW.trod enc P w 0 (fun _=>true) true fuel t cs=some x)(c:aVf P t x.1)
  {α:Type} {R:CY->List Ca->α->Prop} (i:Nat) {f:Field} (hf:fs[i]? = some f) (e:qX enc P w f.type R):cs.length=P.cellsOf t/\∃ a,R w ((cs.drop f.offset).take (P.cellsOf f.type)) a:=by
 obtain⟨xs,n,_,g,k,ab,hg⟩:=DataW.trod_struct b h;have hi:i<fs.size:=(Array.getElem?_eq_some_iff.1 hf).1;have h1:=hg i f hf;rw[Aq (by omega)]at h1;refine⟨k,e n _ _ h1 (fun q hq=>c q ?_)⟩;rw[show x.1=_ from congrArg Prod.fst g];simp only[DataW.weights,b];refine DataW.weights_mem_each (j:=i) (t:=f.type) (d:=(xs[i]'(by omega)).1) ?_ ?_ q hq
 ·rw[AQ];have:fs.toList[i]? = some f:=(by simpa using hf);rw[this];rfl
 ·rw[AQ,Aq (by omega)];rfl
theorem kZ{fs:Array Field}{fuel:Nat}{cs:List Ca}{x:DataW H×List MemPlace}(b:P.underlying t=some (.struct fs))(h:DataW.trod enc P w 0 (fun _=>true) true fuel t cs=some x)(c:aVf P t x.1)
  {α:Type} {R:CY->List Ca->α->Prop} (i o k e:Nat) {f:Field} (hf:fs[i]? = some f) (d:qX enc P w e R) (he:f.type=e) (g:f.offset=o) (j:P.cellsOf e=k):∃ a,R w ((cs.drop o).take k) a:=by
 subst he;subst g;subst j;exact(cXa b h c i hf d).2
end
end
theorem bVn(z:Ca)(n:Nat):madeCells #[z] n=(CX n z).toArray:=by
 apply Array.ext';simp[toList_madeCells_one]
theorem vZ{P:Ce}(t e:Cd)(z:Ca)(bytes:Nat)(a:P.underlying t=some (.slice e))(hinfo:(P.info? e).map (fun i=>(i.zero,i.size,i.bytes))=some (some z,1,bytes))(hz:z.cells=#[z])(n:Nat)(hb:bytes*n<=281474976710656)(hm:n<=9223372036854775807):
  ∀ u:CY,(Instr.makeSlice t (.int .i64 (n:Int)) (.int .i64 (n:Int))).run P u = .ok (.slice (some ⟨u.heap.size,0,none⟩) n n) (u.alloc (.cells (CX n z).toArray e)):=by
 intro u;obtain⟨i0,hi,b,c,d⟩:=info_parts hinfo
 have f:(i0.bytes:Int)*(n:Int)<=281474976710656:=by
  rw[d];have h:((bytes*n:Nat):Int)<=281474976710656:=(by omega)
  rwa[Int.natCast_mul]at h
 have h:=run_make (P:=P) u t e i0 z a hi b .i64 .i64 (n:Int) (n:Int) (by omega) (Int.le_refl _) f (by omega);simp only[Int.toNat_natCast]at h;rw[h,c,Bw,hz,bVn]
section
open Go.ChangeMaps
def setKV(s:List Int):KV:=s.map fun k=>(k,CV true)
def ins(s:List Int)(k:Int):List Int:=if k∈s then s else s ++ [k]
def lY(s:List Int):List Int->List Int
 | []=>s
 | k :: l=>lY (ins s k) l
theorem bKb(s:List Int):(setKV s).length=s.length:=by simp[setKV]
theorem aWj(s:List Int)(k:Int):aJa (setKV s) k=if k∈s then some (.bool true)else none:=by
 induction s with
 | nil=>simp[setKV,aJa]
 | cons a s b=>
  simp only[setKV,Az,aJa]at b ⊢;by_cases h:k=a
  ·subst h;simp
  ·rw[if_neg h,b];simp[h]
theorem aWk(s:List Int)(k:Int):aJb (setKV s) k (.bool true)=setKV (ins s k):=by
 induction s with
 | nil=>simp[setKV,aJb,ins]
 | cons a s b=>
  simp only[setKV,Az,aJb]at b ⊢;by_cases h:k=a
  ·subst h;simp[ins]
  ·rw[if_neg h,b];by_cases c:k∈s
   ·simp[ins,h,c]
   ·simp[ins,h,c]
theorem sV{k x:Int}:x∈ins s k↔x∈s\/x=k:=by
 unfold ins
 split
 ·rename_i h;constructor
  ·exact .inl
  ·rintro(h1 | h1)
   ·exact h1
   ·rw[h1];exact h
 ·simp
theorem aXv{k:Int}(h:s.Nodup):(ins s k).Nodup:=by
 unfold ins
 split
 ·exact h
 ·rename_i d;rw[Ab];exact⟨h,by simp,fun a ha b c e=>by simp at c;subst c;subst e;exact d ha⟩
theorem aZk{x:Int}:x∈lY s l↔x∈s\/x∈l:=by
 induction l generalizing s with
 | nil=>simp[lY]
 | cons a l b=>
  rw[lY,b,sV,Bc];constructor
  ·rintro((h | h) | h)
   ·exact .inl h
   ·exact .inr (.inl h)
   ·exact .inr (.inr h)
  ·rintro(h | h | h)
   ·exact .inl (.inl h)
   ·exact .inl (.inr h)
   ·exact .inr h
theorem bWo(h:s.Nodup):(lY s l).Nodup:=by
 induction l generalizing s with
 | nil=>exact h
 | cons a l b=>exact b (aXv h)
theorem bQg(s l:List Int)(k:Int):lY s (l ++ [k])=ins (lY s l) k:=by
 induction l generalizing s with
 | nil=>rfl
 | cons a l b=>simp only[By,lY,b]
theorem cZd(s:List Int)(k:Int):s.length<=(ins s k).length:=by
 unfold ins;split <;> simp
theorem cJh(l s:List Int):s.length<=(lY s l).length:=by
 induction l generalizing s with
 | nil=>exact Aj _
 | cons a l b=>exact BJ (cZd s a) (b _)
theorem cXb(h:(lY s l).length<=s.length):lY s l=s:=by
 induction l generalizing s with
 | nil=>rfl
 | cons a l b=>
  rw[lY]at h ⊢;have h1:=cJh l (ins s a);have h2:=cZd s a
  have c:ins s a=s:=by
   unfold ins at h2 h1 h ⊢
   split
   ·rfl
   ·rename_i d;rw[if_neg d]at h h1;simp at h h1;omega
  rw[c]at h ⊢;exact b h
theorem IM.fXt{m:KV}(h:IM w b m)(o:Nat):w.cell? ⟨b,o,none⟩=none:=by
 obtain⟨es,clock,a,_⟩:=h;unfold BK;rw[a]
theorem IM.fXu{m:KV}{xs:List Ca}(h:IM w b m)(hs:Src w A n xs)(hn:0<n):∀ a,A=some a->a.block≠b:=by
 intro a ha e;subst ha;obtain⟨g,o,c,_,hc⟩:=hs.2 hn;injection c with c;subst c;subst e;have:=hc 0 _ (Aq (by rw[hs.1];exact hn));rw[h.fXt]at this;cases this
theorem IM.fQi{m:KV}{cs:Array Ca}(h:IM w b m)(k:Blk w g t cs):b≠g:=by
 intro e;subst e;obtain⟨es,clock,a,_⟩:=h;have:=a.symm.trans k;injection this with this;cases this
theorem IM.fQk{m:KV}{xs:List Ca}(h:IM w b m)(k:w.ownsRow base t size v n xs):v.ownBlock≠some b:=by
 rcases k.2 with⟨h1,_⟩ | ⟨g,cap,cur,h1,h2,a,_⟩
 ·subst h1;simp[CQ]
 ·subst h1;intro e;injection e with e;exact h.fQi (show Blk w g t cur from a) e.symm
theorem IM.fXf{P:Ce}{m:KV}(h:IM w b m){c d:Cd}(e:P.underlying t=some (.map c d))(f:Cd):(Builtin.len_ #[t] f #[.map (some b)]).run P w = .ok (.int .i64 (m.length:Int)) w:=by
 obtain⟨es,clock,g,he,_⟩:=h;have a:=he.len;simp only[Ba]at a;simp[Builtin.len_,run_underlying e,aQs g,goInt,Result.andThen,a]
def IE(w:CY)(b:Nat)(m:KV)(k:Int)(stamp:Nat):Prop:=
 ∃ (a:Array MapEntry) (z:Ca),w.heap[b]? = some (.map (a.push { key:=.int .i64 k,val:=z,born:=stamp }) (stamp+1))/\EM a.toList m/\(a.toList.map (·.born)).Nodup/\∀ e∈a.toList,e.born<stamp
section
variable {P:Ce} {ops:Array Oper} {rest:List Oper} {o:Oper} {a:Act} {Q:Exit->Act->CY->Prop}
theorem IM.entry{P:Ce}{m:KV}(h:IM w b m){d:Cd}{z:Ca}(l:P.underlying t=some (.map d e))(f:P.underlying d=some (.int .i64))(hz:∀ w,(zeroValue e).run P w = .ok z w)(k:Int)(hn:aJa m k=none):
  ∃ w' stamp,(Instr.mapEntry t (.map (some b)) (.int .i64 k)).run P w = .ok (.tuple #[z,.int .i64 (stamp:Nat)]) w'/\IE w' b m k stamp/\w.grownBy w' (some b)/\w'.heap.size=w.heap.size:=by
 have g:=h.lt;obtain⟨a,clock,i,he,n,hc⟩:=h;have h1:=aQs (P:=P) i;have h2:=fun c=>yY (P:=P) w c 9999 d .i64 k f;have j:=aZz (P:=P) (w:=w) f (aYn k a.toList m 0 he)
 have o:lQ k m 0=none:=by
  have:=bQv k m 0;rw[hn,Ae]at this;exact this
 rw[o]at j;have p:=aKm (P:=P) (.map (a.push { key:=.int .i64 k,val:=z,born:=clock }) (clock+1)) i;refine⟨{ w with heap:=w.heap.setIfInBounds b (.map (a.push { key:=.int .i64 k,val:=z,born:=clock }) (clock+1)) },clock,?_,⟨a,z,by simp[g],he,n,hc⟩,aJs _ g,by simp⟩;unfold Instr.mapEntry;simp only[Sem.run_bind,run_underlying l,Result.andThen_ok,h1,h2,j,hz,p];simp[goInt]
theorem IE.store{P:Ce}{m:KV}{k:Int}{stamp:Nat}(h:IE w b m k stamp)(t:Cd)(v:Ca):
  ∃ w',(Instr.entryStore t (.map (some b)) (.int .i64 (stamp:Nat)) v).run P w = .ok () w'/\IM w' b (m ++ [(k,v)])/\w.grownBy w' (some b)/\w'.heap.size=w.heap.size:=by
 obtain⟨d,z,g,he,o,hc⟩:=h;have i:b<w.heap.size:=(Array.getElem?_eq_some_iff.1 g).1;have h1:=aQs (P:=P) g
 have hf:(d.push { key:=.int .i64 k,val:=z,born:=stamp }).findIdx? (fun e=>(e.born:Int) == (stamp:Int))=some d.size:=by
  rw[Array.findIdx?_eq_some_iff_getElem];refine⟨by simp,by simp,fun j hj=>?_⟩;rw[Array.getElem_push_lt hj];have:=hc d[j] (by simp);simp;omega
 have l:=aKm (P:=P) (.map ((d.push { key:=.int .i64 k,val:=z,born:=stamp }).modify d.size fun e=>{ e with val:=v }) (stamp+1)) g
 have n:((d.push { key:=.int .i64 k,val:=z,born:=stamp }).modify d.size fun e=>{ e with val:=v })=d.push { key:=.int .i64 k,val:=v,born:=stamp }:=by
  apply Be;intro j;rw[Ag];by_cases hj:d.size=j
  ·subst hj;simp
  ·rw[if_neg hj];simp only[BY];rw[if_neg (by omega),if_neg (by omega)]
 rw[n]at l;refine⟨{ w with heap:=w.heap.setIfInBounds b (.map (d.push { key:=.int .i64 k,val:=v,born:=stamp }) (stamp+1)) },?_,IM.put i (d.push { key:=.int .i64 k,val:=v,born:=stamp }) (stamp+1) ?_ ?_ ?_,aJs _ i,by simp⟩
 ·unfold Instr.entryStore;simp only[Sem.run_bind,h1,Result.andThen_ok,asInt,asIntOf,Sem.run_pure,hf,n];exact l
 ·simp only[EM,AJ,AV,Az,AY]at he ⊢;rw[he]
 ·simp only[AJ,AV,Az,AY];rw[Ab];refine⟨o,by simp,fun a ha c p=>?_⟩;obtain⟨e,f,rfl⟩:=List.mem_map.1 ha;simp at p;have:=hc e f;omega
 ·intro e f;simp only[AJ,Ah,Bf]at f;rcases f with h | h
  ·have:=hc e h;omega
  ·subst h;simp
end
end
def tQ:List (Int×Int×Int×Int):=[(69,1,0,127),(70,10,1,127),(80,1,0,126),(81,10,1,126),(103,3,2,127),(106,15,3,127),(121,3,2,126),(124,15,3,126),(167,1,4,126),(172,2,5,127),(192,2,6,127),(194,3,6,126)]
def inG(op:Int)(g:Int×Int×Int×Int):Bool:=decide (g.1<=op) && decide (op - g.1<g.2.1)
def fY(op:Int):Option (Int×Int×Int×Int):=tQ.find? (inG op)
def gV(g:Int×Int×Int×Int):Ca:=.agg #[.int .i64 g.1,.int .i64 g.2.1,.int .i64 g.2.2.1,.int .i64 g.2.2.2]
def tX:Array Ca:=(tQ.flatMap fun g=>[AW .i64 g.1,.int .i64 g.2.1,.int .i64 g.2.2.1,.int .i64 g.2.2.2]).toArray
theorem eJj:∀ i,i<12->∃ a b c d,tQ[i]? = some (a,b,c,d)/\tX[i*4]? = some (.int .i64 a)/\tX[i*4+1]? = some (.int .i64 b)/\tX[i*4+2]? = some (.int .i64 c)/\tX[i*4+3]? = some (.int .i64 d)/\69<=a/\a<=194/\1<=b/\b<=15:=by
 intro i hi;have h:i=0\/i=1\/i=2\/i=3\/i=4\/i=5\/i=6\/i=7\/i=8\/i=9\/i=10\/i=11:=(by omega);rcases h with rfl | rfl | rfl | rfl | rfl | rfl | rfl | rfl | rfl | rfl | rfl | rfl <;> exact⟨_,_,_,_,rfl,rfl,rfl,rfl,rfl,by decide,by decide,by decide,by decide⟩
theorem oZ{g:Int×Int×Int×Int}(a:∀ j,j<k->∀ g,tQ[j]? = some g->inG op g=false)(hg:tQ[k]? = some g)(h:inG op g=true):fY op=some g:=by
 rw[fY,List.find?_eq_some_iff_getElem];obtain⟨b,e⟩:=List.getElem?_eq_some_iff.1 hg;exact⟨h,k,b,e,fun j hj=>by simp[a j hj _ (Aq (by omega))]⟩
theorem bXs(a:∀ j,j<12->∀ g,tQ[j]? = some g->inG op g=false):fY op=none:=by
 rw[fY,List.find?_eq_none];intro g hg;obtain⟨j,hj,e⟩:=List.mem_iff_getElem.1 hg;simp[a j (by simpa[tQ]using hj) g (by rw[<-e];exact Aq hj)]
theorem cJj(w:CY):Cc fZ 158 #[] w fun e w'=>e = .returned (.slice (some ⟨w.heap.size,0,none⟩) 12 12)/\w.alloc (.cells tX 201)=w':=by
 go_in;go_wp2;go_ret;exact⟨rfl,rfl⟩
def dYs(w0:CY)(G:Nat)(op:Int)(a:Nat)(i:Ca)(wr:CY):Prop:=
 ∃ k:Nat,k<=12/\i = .int .i64 k/\Hid (∀ j,j<k->∀ g,tQ[j]? = some g->inG op g=false)/\Hid (Blk wr G 201 tX)/\Hid (Blk wr a 201 #[.int .i64 0,.int .i64 0,.int .i64 0,.int .i64 0])/\Hid (Cb w0.heap.size w0 wr)
theorem cZe{wr:CY}{G:Nat}{g:Int×Int×Int×Int}{o:Obj}(h:Hid (∀ j,j<k->∀ g,tQ[j]? = some g->inG op g=false))(c:Hid (Blk wr G 201 tX))(d:Hid (Blk wr b 201 #[.int .i64 0,.int .i64 0,.int .i64 0,.int .i64 0]))(f:Hid (Cb w.heap.size w wr))
  (hg:tQ[k]? = some g) (hn:inG op g=false) (hk:k<12):dYs w G op b (.int .i64 ((k:Int)+1)) (wr.alloc o)/\13 - (intOf (.int .i64 ((k:Int)+1))).toNat<13 - (intOf (.int .i64 (k:Int))).toNat:=by
 refine⟨⟨k+1,by omega,by simp,fQ (fun j hj x a=>?_),fQ (c.out.below ((Ax wr.heap.size _).alloc (Aj _) _) c.out.lt),fQ (d.out.below ((Ax wr.heap.size _).alloc (Aj _) _) d.out.lt),fQ (f.out.alloc f.out.size _)⟩,by simp[intOf];omega⟩;by_cases e:j=k
 ·subst e;rw[hg]at a;injection a with a;rw[<-a];exact hn
 ·exact h.out j (by omega) x a
def aVj(op:Int):Ca:=match fY op with
 | none=>.tuple #[.agg #[.int .i64 0,.int .i64 0,.int .i64 0,.int .i64 0],.int .i64 0,.bool false]
 | some g=>.tuple #[gV g,.int .i64 (op - g.1),.bool true]
theorem bQz(op:Int)(w:CY)(h1 : -9223372036854775808<=op)(h2:op<=9223372036854775807):Cc fZ 148 #[.int .i64 op] w fun e w'=>e = .returned (aVj op)/\Cb w.heap.size w w':=by
 go_in;go_wp2_with fail;refine(cJj _).mono ?_;rintro e w1 ⟨rfl,rfl⟩;go_wp2_with fail;have u:=fQ (show Cb w.heap.size w ((w.alloc (.cells #[.int .i64 0,.int .i64 0,.int .i64 0,.int .i64 0] 201)).alloc (.cells tX 201))from((Ax _ _).alloc (Aj _) _).alloc (by simp) _)
 have x:=fQ (show Blk ((w.alloc (.cells #[.int .i64 0,.int .i64 0,.int .i64 0,.int .i64 0] 201)).alloc (.cells tX 201)) w.heap.size 201 #[.int .i64 0,.int .i64 0,.int .i64 0,.int .i64 0]from
  (Blk.new w 201 _).below ((Ax (w.heap.size+1) _).alloc (by simp) _) (by omega))
 have y:=fQ (show Blk ((w.alloc (.cells #[.int .i64 0,.int .i64 0,.int .i64 0,.int .i64 0] 201)).alloc (.cells tX 201)) (w.heap.size+1) 201 tX from by
  have:=Blk.new (w.alloc (.cells #[.int .i64 0,.int .i64 0,.int .i64 0,.int .i64 0] 201)) 201 tX
  simpa using this)
 go_loopw [9] (fun i wr=>dYs w (w.heap.size+1) op w.heap.size i wr) (fun i _=>13 - (intOf i).toNat)
 case atStart=>exact⟨0,by omega,rfl,fQ (fun j hj=>by omega),y,x,u⟩
 case round=>
  clear u x y;obtain⟨k,hk,rfl,o,g,f,q⟩:=hrel;by_cases s:k<12
  ·have ag:decide ((k:Int)<12)=true:=(by simp;omega);obtain⟨a,b,c,d,hg,e0,z,e2,A,ak,al,an,ao⟩:=eJj k s;have c0:=(g.out.cell (k*4)).trans e0;have c1:=(g.out.cell (k*4+1)).trans z;have c2:=(g.out.cell (k*4+2)).trans e2;have c3:=(g.out.cell (k*4+3)).trans A;have t:=fQ hg;have aq:w.heap.size+1<wr.heap.size:=g.out.lt;have B:w.heap.size<wr.heap.size:=(by omega);have h:=f.out.cell 0;have l:=f.out.cell 1;have m:=f.out.cell 2;have n:=f.out.cell 3;simp at h l m n;have C:=frozen_of_row wr w.heap.size 0 _ _ f.out;have D:=frozen_of_row wr w.heap.size 1 _ _ f.out;have E:=frozen_of_row wr w.heap.size 2 _ _ f.out;have F:=frozen_of_row wr w.heap.size 3 _ _ f.out;clear e0 z e2 A hg;by_cases q1:a<=op
   ·have G:decide (a<=op)=true:=(by simpa using q1);by_cases r:op - a<b
    ·have H:decide (op - a<b)=true:=(by simpa using r);go_wp2_with fail;go_region;go_wp2;refine bodyPost_ret (v:=.tuple #[.agg #[.int .i64 a,.int .i64 b,.int .i64 c,.int .i64 d],.int .i64 (op - a),.bool true]) (by simp[results,results148,go_sem,B,h,l,m,n]) rfl ⟨?_,?_⟩
     ·rw[aVj,oZ o.out t.out (by simp[inG,q1,r])];rfl
     ·exact(((((q.out.setCell (p:=⟨w.heap.size,0,none⟩) (Aj _) _).setCell (p:=⟨w.heap.size,1,none⟩) (Aj _) _).setCell (p:=⟨w.heap.size,2,none⟩) (Aj _) _).setCell (p:=⟨w.heap.size,3,none⟩) (Aj _) _).alloc (by simp;omega) _).drew
    ·have H:decide (op - a<b)=false:=(by simpa using r);go_wp2;exact cZe o g f q t.out (by simp[inG,r]) s
   ·have G:decide (a<=op)=false:=(by simpa using q1);go_wp2;exact cZe o g f q t.out (by simp[inG,q1]) s
  ·obtain rfl:k=12:=(by omega);have h:=f.out.cell 0;have l:=f.out.cell 1;have m:=f.out.cell 2;have n:=f.out.cell 3;simp at h l m n;have C:=frozen_of_row wr w.heap.size 0 _ _ f.out;have D:=frozen_of_row wr w.heap.size 1 _ _ f.out;have E:=frozen_of_row wr w.heap.size 2 _ _ f.out;have F:=frozen_of_row wr w.heap.size 3 _ _ f.out;go_wp2;refine bodyPost_ret (v:=.tuple #[.agg #[.int .i64 0,.int .i64 0,.int .i64 0,.int .i64 0],.int .i64 0,.bool false]) (by simp[results,results148,go_sem,h,l,m,n]) rfl ⟨?_,?_⟩
   ·rw[aVj,bXs o.out]
   ·exact(((q.out.setCell (p:=⟨w.heap.size,0,none⟩) (Aj _) _).setCell (p:=⟨w.heap.size,1,none⟩) (Aj _) _).setCell (p:=⟨w.heap.size,2,none⟩) (Aj _) _).setCell (p:=⟨w.heap.size,3,none⟩) (Aj _) _
def gJ(op:Int):List Int:=match fY op with
 | none=>[]
 | some (_,_,c,d)=>if c=1\/c=3 then[d,d]else[d]
def kW(op:Int):Int:=match fY op with
 | none=>0
 | some (_,_,c,d)=>if c=0\/c=1\/c=4 then 127 else if c=5 then 126 else d
def bXt(l:List Int):List Ca:=l.map (AW .i64)
theorem aVk{b c d:Int}(h:fY op=some (a,b,c,d)):(c=0\/c=1\/c=2\/c=3\/c=4\/c=5\/c=6)/\(d=126\/d=127)/\69<=a/\a<=op/\op - a<b/\b<=15/\a<=194:=by
 have e:=Bk h;have hp:=CJ h;have f:∀ g∈tQ,(g.2.2.1=0\/g.2.2.1=1\/g.2.2.1=2\/g.2.2.1=3\/g.2.2.1=4\/g.2.2.1=5\/g.2.2.1=6)/\(g.2.2.2=126\/g.2.2.2=127)/\69<=g.1/\g.2.1<=15/\g.1<=194:=(by decide);obtain⟨h1,h2,i,j,k⟩:=f _ e;simp[inG]at hp;exact⟨h1,h2,i,hp.1,hp.2,j,k⟩
def b01(b:Bool):Int:=if b then 1 else 0
def iV(t:Int)(n:Nat):Bool:=decide (t=126\/(t=127/\n<4294967296))
theorem oK:(fZ.info? 3).map (fun i=>(i.zero,i.size,i.bytes))=some (some (.int .i64 0),1,8):=by kernel_rfl
def oJ(op:Int)(w:CY)(e:Ending)(w':CY):Prop:=
 ∃ A c,e = .returned (.tuple #[.slice A (gJ op).length c,.int .i64 (kW op),.bool (fY op).isSome])/\w'.ownsRow w.heap.size 3 1 (.slice A (gJ op).length c) (gJ op).length (bXt (gJ op))/\Cb w.heap.size w w'
theorem cZf(op:Int)(w:CY)(h1 : -9223372036854775808<=op)(h2:op<=9223372036854775807):Cc fZ 124 #[.int .i64 op] w (oJ op w):=by
 cases hg:fY op with
 | none=>
  have i:=fQ (show aVj op = .tuple #[.agg #[.int .i64 0,.int .i64 0,.int .i64 0,.int .i64 0],.int .i64 0,.bool false] by simp[aVj,hg]);have j:=fQ (show gJ op = [] by simp[gJ,hg]);have k:=fQ (show kW op=0 by simp[kW,hg]);have l:=fQ (show(fY op).isSome=false by simp[hg]);clear hg;go_in;go_wp2_with fail;refine(bQz op _ h1 h2).mono ?_;rintro e w1 ⟨rfl,h⟩;rw[i.out];have f:=fQ h;clear h;go_wp2;go_ret3;unfold oJ;rw[j.out,k.out,l.out];exact⟨none,0,rfl,Aa _ _ _ _,f.out.alloc f.out.size _⟩
 | some g=>
  obtain⟨a,b,c,d⟩:=g;have i:=fQ (show aVj op = .tuple #[.agg #[.int .i64 a,.int .i64 b,.int .i64 c,.int .i64 d],.int .i64 (op - a),.bool true] by simp[aVj,hg,gV]);have j:=fQ (show gJ op=if c=1\/c=3 then[d,d]else[d] by simp[gJ,hg]);have k:=fQ (show kW op=if c=0\/c=1\/c=4 then 127 else if c=5 then 126 else d by simp[kW,hg]);have l:=fQ (show(fY op).isSome=true by simp[hg]);obtain⟨hc,_,_,_,_,_,_⟩:=aVk hg;clear hg;have q:(c=1\/c=3)\/(c=0\/c=2\/c=4\/c=5\/c=6):=(by omega);clear hc;rcases q with hc | hc
  ·rcases hc with rfl | rfl
   all_goals
    go_in;go_wp2_with fail;refine(bQz op _ h1 h2).mono ?_;rintro e w1 ⟨rfl,h⟩;rw[i.out];have f:=fQ h;clear h;go_wp2_with fail;go_region;go_wp2_with (at_builtin;refine aXd _ rfl (.tmp 28) (.tmp 31) 23 rfl (w1.heap.size+1) 3 (.int .i64 0) 8 underlying23 oK rfl (.slice (some ⟨w1.heap.size+1,0,none⟩) 1 1) 1 [.int .i64 d] rfl ?_ (some ⟨w1.heap.size+1+1,0,none⟩) 1 1 [.int .i64 d] rfl ?_ (aZo _ _) (by unfold maxLen;omega) (by omega) ?_ ?_)
    ·exact Blk.own (n:=1) (cs:=#[.int .i64 d]) (((Blk.newAt _ _ _ (by simp)).alloc _).drew) (Aj _) rfl (by unfold maxLen;omega)
    ·exact Blk.fQc (cs:=#[.int .i64 d]) (Blk.newAt _ _ _ (by simp)).drew rfl
    ·simp
    rintro v r m o;have s:=o.cell (p:=⟨w1.heap.size,2,none⟩) (by simp);simp at s;have t:=fQ (jX m (by have:=f.out.size;omega:w.heap.size<=w1.heap.size+1));have u:=fQ (show Cb w.heap.size w r from((((f.out.alloc f.out.size _).alloc (by have:=f.out.size;simp;omega) _).alloc (by have:=f.out.size;simp;omega) _).drew).trans (o.mono (by have:=f.out.size;omega)));obtain⟨A2,c2,rfl,_⟩:=fW m;clear m o;go_wp2;go_ret3;unfold oJ;rw[j.out,k.out,l.out];exact⟨_,_,rfl,t.out,u.out⟩
  ·rcases hc with rfl | rfl | rfl | rfl | rfl
   all_goals
    go_in;go_wp2_with fail;refine(bQz op _ h1 h2).mono ?_;rintro e w1 ⟨rfl,h⟩;rw[i.out];have f:=fQ h;clear h;go_wp2_with fail;go_region;go_wp2;go_ret3;unfold oJ;rw[j.out,k.out,l.out];exact⟨_,_,rfl,Blk.own (n:=1) (cs:=#[.int .i64 d]) (Blk.newAt _ _ _ (by simp)).drew (by have:=f.out.size;omega) rfl (by unfold maxLen;omega),((f.out.alloc f.out.size _).alloc (by have:=f.out.size;simp;omega) _).drew⟩
theorem xV(d:Int):(w.alloc (.cells #[.int .i64 d,.int .i64 d] 3)).ownsRow w.heap.size 3 1 (.slice (some ⟨w.heap.size,0,none⟩) 1 2) 1 (bXt [d]):=
 ⟨by simp[bXt],.inr ⟨w.heap.size,2,#[.int .i64 d,.int .i64 d],rfl,Aj _,Blk.new w 3 _,by omega,by unfold maxLen;omega,by simp,by simp[bXt]⟩⟩
def inB(op a b:Int):Bool:=decide (a<=op/\op<=b)
theorem inT{b:Int}(h1:a<=op)(h2:op<=b):inB op a b=true:=by simp[inB,h1,h2]
theorem inF{b:Int}(h:op<a\/b<op):inB op a b=false:=by simp[inB];omega
theorem eqF(h:op<a\/a<op):(op == a)=false:=by simp;omega
theorem eqT(h1:a<=op)(h2:op<=a):(op == a)=true:=by simp;omega
theorem iW(op a b:Int)(w:CY):Cc fZ 140 #[.int .i64 op,.int .i64 a,.int .i64 b] w fun e w'=>e = .returned (.bool (inB op a b))/\w=w':=by
 by_cases h1:a<=op
 ·have d:decide (a<=op)=true:=(by simpa using h1);have c:=fQ (show inB op a b=decide (op<=b) by simp[inB,h1]);clear h1;go_in;go_wp2;go_ret;rw[c.out];exact⟨rfl,rfl⟩
 ·have d:decide (a<=op)=false:=(by simpa using h1);have c:=fQ (show inB op a b=false by simp[inB,h1]);clear h1;go_in;go_wp2;go_ret;rw[c.out];exact⟨rfl,rfl⟩
theorem pK(op:Int):(fY op=none/\(op<69\/90<op)/\(op<103\/138<op)/\(op<167\/167<op)/\(op<172\/173<op)/\(op<192\/196<op))\/(fY op=some (69,1,0,127)/\69<=op/\op<=69)\/(fY op=some (70,10,1,127)/\70<=op/\op<=79)\/(fY op=some (80,1,0,126)/\80<=op/\op<=80)\/(fY op=some (81,10,1,126)/\81<=op/\op<=90)\/(fY op=some (103,3,2,127)/\103<=op/\op<=105)\/(fY op=some (106,15,3,127)/\106<=op/\op<=120)\/(fY op=some (121,3,2,126)/\121<=op/\op<=123)\/(fY op=some (124,15,3,126)/\124<=op/\op<=138)\/(fY op=some (167,1,4,126)/\167<=op/\op<=167)\/(fY op=some (172,2,5,127)/\172<=op/\op<=173)\/(fY op=some (192,2,6,127)/\192<=op/\op<=193)\/(fY op=some (194,3,6,126)/\194<=op/\op<=196):=by
 have key:∀ g:Int×Int×Int×Int,inG op g=decide (g.1<=op/\op - g.1<g.2.1):=fun g=>by simp[inG]
 by_cases c:69<=op/\op<=69
 ·refine .inr (.inl ⟨oZ (k:=0) (fun j hj x a=>?_) (show tQ[0]? = some (69,1,0,127)from rfl) (by rw[key];simp;omega),c.1,c.2⟩);omega
 by_cases h1:70<=op/\op<=79
 ·refine .inr (.inr (.inl ⟨oZ (k:=1) (fun j hj x a=>?_) (show tQ[1]? = some (70,10,1,127)from rfl) (by rw[key];simp;omega),h1.1,h1.2⟩));have b:j=0:=(by omega);rcases b with rfl <;> (injection a with a;subst a;rw[key];simp;omega)
 by_cases h2:80<=op/\op<=80
 ·refine .inr (.inr (.inr (.inl ⟨oZ (k:=2) (fun j hj x a=>?_) (show tQ[2]? = some (80,1,0,126)from rfl) (by rw[key];simp;omega),h2.1,h2.2⟩)));have b:j=0\/j=1:=(by omega);rcases b with rfl | rfl <;> (injection a with a;subst a;rw[key];simp;omega)
 by_cases d:81<=op/\op<=90
 ·refine .inr (.inr (.inr (.inr (.inl ⟨oZ (k:=3) (fun j hj x a=>?_) (show tQ[3]? = some (81,10,1,126)from rfl) (by rw[key];simp;omega),d.1,d.2⟩))));have b:j=0\/j=1\/j=2:=(by omega);rcases b with rfl | rfl | rfl <;> (injection a with a;subst a;rw[key];simp;omega)
 by_cases e:103<=op/\op<=105
 ·refine .inr (.inr (.inr (.inr (.inr (.inl ⟨oZ (k:=4) (fun j hj x a=>?_) (show tQ[4]? = some (103,3,2,127)from rfl) (by rw[key];simp;omega),e.1,e.2⟩)))));have b:j=0\/j=1\/j=2\/j=3:=(by omega);rcases b with rfl | rfl | rfl | rfl <;> (injection a with a;subst a;rw[key];simp;omega)
 by_cases f:106<=op/\op<=120
 ·refine .inr (.inr (.inr (.inr (.inr (.inr (.inl ⟨oZ (k:=5) (fun j hj x a=>?_) (show tQ[5]? = some (106,15,3,127)from rfl) (by rw[key];simp;omega),f.1,f.2⟩))))));have b:j=0\/j=1\/j=2\/j=3\/j=4:=(by omega);rcases b with rfl | rfl | rfl | rfl | rfl <;> (injection a with a;subst a;rw[key];simp;omega)
 by_cases h:121<=op/\op<=123
 ·refine .inr (.inr (.inr (.inr (.inr (.inr (.inr (.inl ⟨oZ (k:=6) (fun j hj x a=>?_) (show tQ[6]? = some (121,3,2,126)from rfl) (by rw[key];simp;omega),h.1,h.2⟩)))))));have b:j=0\/j=1\/j=2\/j=3\/j=4\/j=5:=(by omega);rcases b with rfl | rfl | rfl | rfl | rfl | rfl <;> (injection a with a;subst a;rw[key];simp;omega)
 by_cases i:124<=op/\op<=138
 ·refine .inr (.inr (.inr (.inr (.inr (.inr (.inr (.inr (.inl ⟨oZ (k:=7) (fun j hj x a=>?_) (show tQ[7]? = some (124,15,3,126)from rfl) (by rw[key];simp;omega),i.1,i.2⟩))))))));have b:j=0\/j=1\/j=2\/j=3\/j=4\/j=5\/j=6:=(by omega);rcases b with rfl | rfl | rfl | rfl | rfl | rfl | rfl <;> (injection a with a;subst a;rw[key];simp;omega)
 by_cases l:167<=op/\op<=167
 ·refine .inr (.inr (.inr (.inr (.inr (.inr (.inr (.inr (.inr (.inl ⟨oZ (k:=8) (fun j hj x a=>?_) (show tQ[8]? = some (167,1,4,126)from rfl) (by rw[key];simp;omega),l.1,l.2⟩)))))))));have b:j=0\/j=1\/j=2\/j=3\/j=4\/j=5\/j=6\/j=7:=(by omega);rcases b with rfl | rfl | rfl | rfl | rfl | rfl | rfl | rfl <;> (injection a with a;subst a;rw[key];simp;omega)
 by_cases m:172<=op/\op<=173
 ·refine .inr (.inr (.inr (.inr (.inr (.inr (.inr (.inr (.inr (.inr (.inl ⟨oZ (k:=9) (fun j hj x a=>?_) (show tQ[9]? = some (172,2,5,127)from rfl) (by rw[key];simp;omega),m.1,m.2⟩))))))))));have b:j=0\/j=1\/j=2\/j=3\/j=4\/j=5\/j=6\/j=7\/j=8:=(by omega);rcases b with rfl | rfl | rfl | rfl | rfl | rfl | rfl | rfl | rfl <;> (injection a with a;subst a;rw[key];simp;omega)
 by_cases n:192<=op/\op<=193
 ·refine .inr (.inr (.inr (.inr (.inr (.inr (.inr (.inr (.inr (.inr (.inr (.inl ⟨oZ (k:=10) (fun j hj x a=>?_) (show tQ[10]? = some (192,2,6,127)from rfl) (by rw[key];simp;omega),n.1,n.2⟩)))))))))));have b:j=0\/j=1\/j=2\/j=3\/j=4\/j=5\/j=6\/j=7\/j=8\/j=9:=(by omega);rcases b with rfl | rfl | rfl | rfl | rfl | rfl | rfl | rfl | rfl | rfl <;> (injection a with a;subst a;rw[key];simp;omega)
 by_cases o:194<=op/\op<=196
 ·refine .inr (.inr (.inr (.inr (.inr (.inr (.inr (.inr (.inr (.inr (.inr (.inr (⟨oZ (k:=11) (fun j hj x a=>?_) (show tQ[11]? = some (194,3,6,126)from rfl) (by rw[key];simp;omega),o.1,o.2⟩))))))))))));have b:j=0\/j=1\/j=2\/j=3\/j=4\/j=5\/j=6\/j=7\/j=8\/j=9\/j=10:=(by omega);rcases b with rfl | rfl | rfl | rfl | rfl | rfl | rfl | rfl | rfl | rfl | rfl <;> (injection a with a;subst a;rw[key];simp;omega)
 refine .inl ⟨bXs (fun j hj x a=>?_),by omega,by omega,by omega,by omega,by omega⟩;have b:j=0\/j=1\/j=2\/j=3\/j=4\/j=5\/j=6\/j=7\/j=8\/j=9\/j=10\/j=11:=(by omega);rcases b with rfl | rfl | rfl | rfl | rfl | rfl | rfl | rfl | rfl | rfl | rfl | rfl <;> (injection a with a;subst a;rw[key];simp;omega)
def ofV(op:Int):Int:=match fY op with
 | none=>0
 | some g=>g.2.2.2
theorem vJ(op:Int)(w:CY):Cc fZ 146 #[.int .i64 op] w fun e w'=>e = .returned (.int .i64 (ofV op))/\w=w':=by
 rcases pK op with⟨hg,b,c,o,p,q⟩ | ⟨hg,b,c⟩ | ⟨hg,b,c⟩ | ⟨hg,b,c⟩ | ⟨hg,b,c⟩ | ⟨hg,b,c⟩ | ⟨hg,b,c⟩ | ⟨hg,b,c⟩ | ⟨hg,b,c⟩ | ⟨hg,b,c⟩ | ⟨hg,b,c⟩ | ⟨hg,b,c⟩ | ⟨hg,b,c⟩
 ·have a:=fQ (show ofV op=0 by simp[ofV,hg]);have d:inB op 69 79=false:=inF (by omega);have f:inB op 103 120=false:=inF (by omega);have j:(op == 172)=false:=eqF (by omega);have k:(op == 173)=false:=eqF (by omega);have l:(op == 192)=false:=eqF (by omega);have m:(op == 193)=false:=eqF (by omega);have g:inB op 80 90=false:=inF (by omega);have h:inB op 121 138=false:=inF (by omega);have n:(op == 167)=false:=eqF (by omega);have i:inB op 194 196=false:=inF (by omega);clear hg b c o p q;go_in;go_wp2_with (go_at_call 140;refine(iW _ _ _ _).mono ?_;rintro e w1 ⟨rfl,rfl⟩);go_ret;rw[a.out];exact⟨rfl,rfl⟩
 ·have a:=fQ (show ofV op=127 by simp[ofV,hg]);have d:inB op 69 79=true:=inT (by omega) (by omega);have f:inB op 103 120=false:=inF (by omega);have j:(op == 172)=false:=eqF (by omega);have k:(op == 173)=false:=eqF (by omega);have l:(op == 192)=false:=eqF (by omega);have m:(op == 193)=false:=eqF (by omega);have g:inB op 80 90=false:=inF (by omega);have h:inB op 121 138=false:=inF (by omega);have n:(op == 167)=false:=eqF (by omega);have i:inB op 194 196=false:=inF (by omega);clear hg b c;go_in;go_wp2_with (go_at_call 140;refine(iW _ _ _ _).mono ?_;rintro e w1 ⟨rfl,rfl⟩);go_ret;rw[a.out];exact⟨rfl,rfl⟩
 ·have a:=fQ (show ofV op=127 by simp[ofV,hg]);have d:inB op 69 79=true:=inT (by omega) (by omega);have f:inB op 103 120=false:=inF (by omega);have j:(op == 172)=false:=eqF (by omega);have k:(op == 173)=false:=eqF (by omega);have l:(op == 192)=false:=eqF (by omega);have m:(op == 193)=false:=eqF (by omega);have g:inB op 80 90=false:=inF (by omega);have h:inB op 121 138=false:=inF (by omega);have n:(op == 167)=false:=eqF (by omega);have i:inB op 194 196=false:=inF (by omega);clear hg b c;go_in;go_wp2_with (go_at_call 140;refine(iW _ _ _ _).mono ?_;rintro e w1 ⟨rfl,rfl⟩);go_ret;rw[a.out];exact⟨rfl,rfl⟩
 ·have a:=fQ (show ofV op=126 by simp[ofV,hg]);have d:inB op 69 79=false:=inF (by omega);have f:inB op 103 120=false:=inF (by omega);have j:(op == 172)=false:=eqF (by omega);have k:(op == 173)=false:=eqF (by omega);have l:(op == 192)=false:=eqF (by omega);have m:(op == 193)=false:=eqF (by omega);have g:inB op 80 90=true:=inT (by omega) (by omega);have h:inB op 121 138=false:=inF (by omega);have n:(op == 167)=false:=eqF (by omega);have i:inB op 194 196=false:=inF (by omega);clear hg b c;go_in;go_wp2_with (go_at_call 140;refine(iW _ _ _ _).mono ?_;rintro e w1 ⟨rfl,rfl⟩);go_ret;rw[a.out];exact⟨rfl,rfl⟩
 ·have a:=fQ (show ofV op=126 by simp[ofV,hg]);have d:inB op 69 79=false:=inF (by omega);have f:inB op 103 120=false:=inF (by omega);have j:(op == 172)=false:=eqF (by omega);have k:(op == 173)=false:=eqF (by omega);have l:(op == 192)=false:=eqF (by omega);have m:(op == 193)=false:=eqF (by omega);have g:inB op 80 90=true:=inT (by omega) (by omega);have h:inB op 121 138=false:=inF (by omega);have n:(op == 167)=false:=eqF (by omega);have i:inB op 194 196=false:=inF (by omega);clear hg b c;go_in;go_wp2_with (go_at_call 140;refine(iW _ _ _ _).mono ?_;rintro e w1 ⟨rfl,rfl⟩);go_ret;rw[a.out];exact⟨rfl,rfl⟩
 ·have a:=fQ (show ofV op=127 by simp[ofV,hg]);have d:inB op 69 79=false:=inF (by omega);have f:inB op 103 120=true:=inT (by omega) (by omega);have j:(op == 172)=false:=eqF (by omega);have k:(op == 173)=false:=eqF (by omega);have l:(op == 192)=false:=eqF (by omega);have m:(op == 193)=false:=eqF (by omega);have g:inB op 80 90=false:=inF (by omega);have h:inB op 121 138=false:=inF (by omega);have n:(op == 167)=false:=eqF (by omega);have i:inB op 194 196=false:=inF (by omega);clear hg b c;go_in;go_wp2_with (go_at_call 140;refine(iW _ _ _ _).mono ?_;rintro e w1 ⟨rfl,rfl⟩);go_ret;rw[a.out];exact⟨rfl,rfl⟩
 ·have a:=fQ (show ofV op=127 by simp[ofV,hg]);have d:inB op 69 79=false:=inF (by omega);have f:inB op 103 120=true:=inT (by omega) (by omega);have j:(op == 172)=false:=eqF (by omega);have k:(op == 173)=false:=eqF (by omega);have l:(op == 192)=false:=eqF (by omega);have m:(op == 193)=false:=eqF (by omega);have g:inB op 80 90=false:=inF (by omega);have h:inB op 121 138=false:=inF (by omega);have n:(op == 167)=false:=eqF (by omega);have i:inB op 194 196=false:=inF (by omega);clear hg b c;go_in;go_wp2_with (go_at_call 140;refine(iW _ _ _ _).mono ?_;rintro e w1 ⟨rfl,rfl⟩);go_ret;rw[a.out];exact⟨rfl,rfl⟩
 ·have a:=fQ (show ofV op=126 by simp[ofV,hg]);have d:inB op 69 79=false:=inF (by omega);have f:inB op 103 120=false:=inF (by omega);have j:(op == 172)=false:=eqF (by omega);have k:(op == 173)=false:=eqF (by omega);have l:(op == 192)=false:=eqF (by omega);have m:(op == 193)=false:=eqF (by omega);have g:inB op 80 90=false:=inF (by omega);have h:inB op 121 138=true:=inT (by omega) (by omega);have n:(op == 167)=false:=eqF (by omega);have i:inB op 194 196=false:=inF (by omega);clear hg b c;go_in;go_wp2_with (go_at_call 140;refine(iW _ _ _ _).mono ?_;rintro e w1 ⟨rfl,rfl⟩);go_ret;rw[a.out];exact⟨rfl,rfl⟩
 ·have a:=fQ (show ofV op=126 by simp[ofV,hg]);have d:inB op 69 79=false:=inF (by omega);have f:inB op 103 120=false:=inF (by omega);have j:(op == 172)=false:=eqF (by omega);have k:(op == 173)=false:=eqF (by omega);have l:(op == 192)=false:=eqF (by omega);have m:(op == 193)=false:=eqF (by omega);have g:inB op 80 90=false:=inF (by omega);have h:inB op 121 138=true:=inT (by omega) (by omega);have n:(op == 167)=false:=eqF (by omega);have i:inB op 194 196=false:=inF (by omega);clear hg b c;go_in;go_wp2_with (go_at_call 140;refine(iW _ _ _ _).mono ?_;rintro e w1 ⟨rfl,rfl⟩);go_ret;rw[a.out];exact⟨rfl,rfl⟩
 ·have a:=fQ (show ofV op=126 by simp[ofV,hg]);have d:inB op 69 79=false:=inF (by omega);have f:inB op 103 120=false:=inF (by omega);have j:(op == 172)=false:=eqF (by omega);have k:(op == 173)=false:=eqF (by omega);have l:(op == 192)=false:=eqF (by omega);have m:(op == 193)=false:=eqF (by omega);have g:inB op 80 90=false:=inF (by omega);have h:inB op 121 138=false:=inF (by omega);have n:(op == 167)=true:=eqT (by omega) (by omega);have i:inB op 194 196=false:=inF (by omega);clear hg b c;go_in;go_wp2_with (go_at_call 140;refine(iW _ _ _ _).mono ?_;rintro e w1 ⟨rfl,rfl⟩);go_ret;rw[a.out];exact⟨rfl,rfl⟩
 ·rcases(show op=172\/op=173 by omega)with rfl | rfl
  ·have a:=fQ (show ofV 172=127 by simp[ofV,hg]);clear hg b c;have d:inB 172 69 79=false:=(by decide);have f:inB 172 103 120=false:=(by decide);have g:inB 172 80 90=false:=(by decide);have h:inB 172 121 138=false:=(by decide);have i:inB 172 194 196=false:=(by decide);go_in;go_wp2_with (go_at_call 140;refine(iW _ _ _ _).mono ?_;rintro e w1 ⟨rfl,rfl⟩);go_ret;rw[a.out];exact⟨rfl,rfl⟩
  ·have a:=fQ (show ofV 173=127 by simp[ofV,hg]);clear hg b c;have d:inB 173 69 79=false:=(by decide);have f:inB 173 103 120=false:=(by decide);have g:inB 173 80 90=false:=(by decide);have h:inB 173 121 138=false:=(by decide);have i:inB 173 194 196=false:=(by decide);go_in;go_wp2_with (go_at_call 140;refine(iW _ _ _ _).mono ?_;rintro e w1 ⟨rfl,rfl⟩);go_ret;rw[a.out];exact⟨rfl,rfl⟩
 ·rcases(show op=192\/op=193 by omega)with rfl | rfl
  ·have a:=fQ (show ofV 192=127 by simp[ofV,hg]);clear hg b c;have d:inB 192 69 79=false:=(by decide);have f:inB 192 103 120=false:=(by decide);have g:inB 192 80 90=false:=(by decide);have h:inB 192 121 138=false:=(by decide);have i:inB 192 194 196=false:=(by decide);go_in;go_wp2_with (go_at_call 140;refine(iW _ _ _ _).mono ?_;rintro e w1 ⟨rfl,rfl⟩);go_ret;rw[a.out];exact⟨rfl,rfl⟩
  ·have a:=fQ (show ofV 193=127 by simp[ofV,hg]);clear hg b c;have d:inB 193 69 79=false:=(by decide);have f:inB 193 103 120=false:=(by decide);have g:inB 193 80 90=false:=(by decide);have h:inB 193 121 138=false:=(by decide);have i:inB 193 194 196=false:=(by decide);go_in;go_wp2_with (go_at_call 140;refine(iW _ _ _ _).mono ?_;rintro e w1 ⟨rfl,rfl⟩);go_ret;rw[a.out];exact⟨rfl,rfl⟩
 ·have a:=fQ (show ofV op=126 by simp[ofV,hg]);have d:inB op 69 79=false:=inF (by omega);have f:inB op 103 120=false:=inF (by omega);have j:(op == 172)=false:=eqF (by omega);have k:(op == 173)=false:=eqF (by omega);have l:(op == 192)=false:=eqF (by omega);have m:(op == 193)=false:=eqF (by omega);have g:inB op 80 90=false:=inF (by omega);have h:inB op 121 138=false:=inF (by omega);have n:(op == 167)=false:=eqF (by omega);have i:inB op 194 196=true:=inT (by omega) (by omega);clear hg b c;go_in;go_wp2_with (go_at_call 140;refine(iW _ _ _ _).mono ?_;rintro e w1 ⟨rfl,rfl⟩);go_ret;rw[a.out];exact⟨rfl,rfl⟩
def unB(op:Int):Bool:=match fY op with
 | none=>false
 | some g=>decide (g.2.2.1≠1/\g.2.2.1≠3)
theorem pV(op:Int)(w:CY)(hs:fY op≠none):Cc fZ 147 #[.int .i64 op] w fun e w'=>e = .returned (.bool (unB op))/\w=w':=by
 rcases pK op with⟨hg,a,b,z3,z4,z5⟩ | ⟨hg,a,b⟩ | ⟨hg,a,b⟩ | ⟨hg,a,b⟩ | ⟨hg,a,b⟩ | ⟨hg,a,b⟩ | ⟨hg,a,b⟩ | ⟨hg,a,b⟩ | ⟨hg,a,b⟩ | ⟨hg,a,b⟩ | ⟨hg,a,b⟩ | ⟨hg,a,b⟩ | ⟨hg,a,b⟩
 ·exact absurd hg hs
 ·have c:=fQ (show unB op=true by simp[unB,hg]);have d:(op == 69)=true:=eqT (by omega) (by omega);have f:(op == 80)=false:=eqF (by omega);have g:inB op 103 105=false:=inF (by omega);have h:inB op 121 123=false:=inF (by omega);have i:decide (167<=op)=false:=(by simp;omega);clear hs hg a b;go_in;go_wp2_with (go_at_call 140;refine(iW _ _ _ _).mono ?_;rintro e w1 ⟨rfl,rfl⟩);go_ret;rw[c.out];exact⟨rfl,rfl⟩
 ·have c:=fQ (show unB op=false by simp[unB,hg]);have d:(op == 69)=false:=eqF (by omega);have f:(op == 80)=false:=eqF (by omega);have g:inB op 103 105=false:=inF (by omega);have h:inB op 121 123=false:=inF (by omega);have i:decide (167<=op)=false:=(by simp;omega);clear hs hg a b;go_in;go_wp2_with (go_at_call 140;refine(iW _ _ _ _).mono ?_;rintro e w1 ⟨rfl,rfl⟩);go_ret;rw[c.out];exact⟨rfl,rfl⟩
 ·have c:=fQ (show unB op=true by simp[unB,hg]);have d:(op == 69)=false:=eqF (by omega);have f:(op == 80)=true:=eqT (by omega) (by omega);have g:inB op 103 105=false:=inF (by omega);have h:inB op 121 123=false:=inF (by omega);have i:decide (167<=op)=false:=(by simp;omega);clear hs hg a b;go_in;go_wp2_with (go_at_call 140;refine(iW _ _ _ _).mono ?_;rintro e w1 ⟨rfl,rfl⟩);go_ret;rw[c.out];exact⟨rfl,rfl⟩
 ·have c:=fQ (show unB op=false by simp[unB,hg]);have d:(op == 69)=false:=eqF (by omega);have f:(op == 80)=false:=eqF (by omega);have g:inB op 103 105=false:=inF (by omega);have h:inB op 121 123=false:=inF (by omega);have i:decide (167<=op)=false:=(by simp;omega);clear hs hg a b;go_in;go_wp2_with (go_at_call 140;refine(iW _ _ _ _).mono ?_;rintro e w1 ⟨rfl,rfl⟩);go_ret;rw[c.out];exact⟨rfl,rfl⟩
 ·have c:=fQ (show unB op=true by simp[unB,hg]);have d:(op == 69)=false:=eqF (by omega);have f:(op == 80)=false:=eqF (by omega);have g:inB op 103 105=true:=inT (by omega) (by omega);have h:inB op 121 123=false:=inF (by omega);have i:decide (167<=op)=false:=(by simp;omega);clear hs hg a b;go_in;go_wp2_with (go_at_call 140;refine(iW _ _ _ _).mono ?_;rintro e w1 ⟨rfl,rfl⟩);go_ret;rw[c.out];exact⟨rfl,rfl⟩
 ·have c:=fQ (show unB op=false by simp[unB,hg]);have d:(op == 69)=false:=eqF (by omega);have f:(op == 80)=false:=eqF (by omega);have g:inB op 103 105=false:=inF (by omega);have h:inB op 121 123=false:=inF (by omega);have i:decide (167<=op)=false:=(by simp;omega);clear hs hg a b;go_in;go_wp2_with (go_at_call 140;refine(iW _ _ _ _).mono ?_;rintro e w1 ⟨rfl,rfl⟩);go_ret;rw[c.out];exact⟨rfl,rfl⟩
 ·have c:=fQ (show unB op=true by simp[unB,hg]);have d:(op == 69)=false:=eqF (by omega);have f:(op == 80)=false:=eqF (by omega);have g:inB op 103 105=false:=inF (by omega);have h:inB op 121 123=true:=inT (by omega) (by omega);have i:decide (167<=op)=false:=(by simp;omega);clear hs hg a b;go_in;go_wp2_with (go_at_call 140;refine(iW _ _ _ _).mono ?_;rintro e w1 ⟨rfl,rfl⟩);go_ret;rw[c.out];exact⟨rfl,rfl⟩
 ·have c:=fQ (show unB op=false by simp[unB,hg]);have d:(op == 69)=false:=eqF (by omega);have f:(op == 80)=false:=eqF (by omega);have g:inB op 103 105=false:=inF (by omega);have h:inB op 121 123=false:=inF (by omega);have i:decide (167<=op)=false:=(by simp;omega);clear hs hg a b;go_in;go_wp2_with (go_at_call 140;refine(iW _ _ _ _).mono ?_;rintro e w1 ⟨rfl,rfl⟩);go_ret;rw[c.out];exact⟨rfl,rfl⟩
 ·have c:=fQ (show unB op=true by simp[unB,hg]);have d:(op == 69)=false:=eqF (by omega);have f:(op == 80)=false:=eqF (by omega);have g:inB op 103 105=false:=inF (by omega);have h:inB op 121 123=false:=inF (by omega);have i:decide (167<=op)=true:=(by simp;omega);clear hs hg a b;go_in;go_wp2_with (go_at_call 140;refine(iW _ _ _ _).mono ?_;rintro e w1 ⟨rfl,rfl⟩);go_ret;rw[c.out];exact⟨rfl,rfl⟩
 ·have c:=fQ (show unB op=true by simp[unB,hg]);have d:(op == 69)=false:=eqF (by omega);have f:(op == 80)=false:=eqF (by omega);have g:inB op 103 105=false:=inF (by omega);have h:inB op 121 123=false:=inF (by omega);have i:decide (167<=op)=true:=(by simp;omega);clear hs hg a b;go_in;go_wp2_with (go_at_call 140;refine(iW _ _ _ _).mono ?_;rintro e w1 ⟨rfl,rfl⟩);go_ret;rw[c.out];exact⟨rfl,rfl⟩
 ·have c:=fQ (show unB op=true by simp[unB,hg]);have d:(op == 69)=false:=eqF (by omega);have f:(op == 80)=false:=eqF (by omega);have g:inB op 103 105=false:=inF (by omega);have h:inB op 121 123=false:=inF (by omega);have i:decide (167<=op)=true:=(by simp;omega);clear hs hg a b;go_in;go_wp2_with (go_at_call 140;refine(iW _ _ _ _).mono ?_;rintro e w1 ⟨rfl,rfl⟩);go_ret;rw[c.out];exact⟨rfl,rfl⟩
 ·have c:=fQ (show unB op=true by simp[unB,hg]);have d:(op == 69)=false:=eqF (by omega);have f:(op == 80)=false:=eqF (by omega);have g:inB op 103 105=false:=inF (by omega);have h:inB op 121 123=false:=inF (by omega);have i:decide (167<=op)=true:=(by simp;omega);clear hs hg a b;go_in;go_wp2_with (go_at_call 140;refine(iW _ _ _ _).mono ?_;rintro e w1 ⟨rfl,rfl⟩);go_ret;rw[c.out];exact⟨rfl,rfl⟩
theorem jW(op:Int)(w:CY):Cc fZ 122 #[.int .i64 op] w (oJ op w):=by
 rcases pK op with⟨hg,f,g,o,p,q⟩ | ⟨hg,f,g⟩ | ⟨hg,f,g⟩ | ⟨hg,f,g⟩ | ⟨hg,f,g⟩ | ⟨hg,f,g⟩ | ⟨hg,f,g⟩ | ⟨hg,f,g⟩ | ⟨hg,f,g⟩ | ⟨hg,f,g⟩ | ⟨hg,f,g⟩ | ⟨hg,f,g⟩ | ⟨hg,f,g⟩
 ·have a:=fQ (show ofV op=0 by simp[ofV,hg]);have b:=fQ (show gJ op = [] by simp[gJ,hg]);have c:=fQ (show kW op=0 by simp[kW,hg]);have d:=fQ (show(fY op).isSome=false by simp[hg]);clear hg f g o p q;go_in;go_wp2_with fail;refine(vJ op _).mono ?_;rintro e w1 ⟨rfl,rfl⟩;rw[a.out];go_wp2;go_ret3;unfold oJ;rw[b.out,c.out,d.out];exact⟨none,0,rfl,Aa _ _ _ _,Ax _ _⟩
 ·have a:=fQ (show ofV op=127 by simp[ofV,hg]);have h:=fQ (show unB op=true by simp[unB,hg]);have b:=fQ (show gJ op = [127] by simp[gJ,hg]);have c:=fQ (show kW op=127 by simp[kW,hg]);have d:=fQ (show(fY op).isSome=true by simp[hg]);have i:=fQ (show fY op≠none by simp[hg]);have j:inB op 69 90=true:=inT (by omega) (by omega);have k:(op == 167)=false:=eqF (by omega);have l:(op == 172)=false:=eqF (by omega);have m:(op == 173)=false:=eqF (by omega);clear hg f g;go_in;go_wp2_with fail;refine(vJ op _).mono ?_;rintro e w1 ⟨rfl,rfl⟩;rw[a.out];go_wp2_with fail;refine(pV op _ i.out).mono ?_;rintro e w1 ⟨rfl,rfl⟩;rw[h.out];go_wp2_with (go_at_call 140;refine(iW _ _ _ _).mono ?_;rintro e w1 ⟨rfl,rfl⟩);go_ret3;unfold oJ;rw[b.out,c.out,d.out];exact⟨_,_,rfl,xV 127,(Ax _ _).alloc (Aj _) _⟩
 ·have a:=fQ (show ofV op=127 by simp[ofV,hg]);have h:=fQ (show unB op=false by simp[unB,hg]);have b:=fQ (show gJ op = [127,127] by simp[gJ,hg]);have c:=fQ (show kW op=127 by simp[kW,hg]);have d:=fQ (show(fY op).isSome=true by simp[hg]);have i:=fQ (show fY op≠none by simp[hg]);have j:inB op 69 90=true:=inT (by omega) (by omega);have k:(op == 167)=false:=eqF (by omega);have l:(op == 172)=false:=eqF (by omega);have m:(op == 173)=false:=eqF (by omega);clear hg f g;go_in;go_wp2_with fail;refine(vJ op _).mono ?_;rintro e w1 ⟨rfl,rfl⟩;rw[a.out];go_wp2_with fail;refine(pV op _ i.out).mono ?_;rintro e w1 ⟨rfl,rfl⟩;rw[h.out];go_wp2_with (go_at_call 140;refine(iW _ _ _ _).mono ?_;rintro e w1 ⟨rfl,rfl⟩);go_ret3;unfold oJ;rw[b.out,c.out,d.out];exact⟨_,_,rfl,Blk.own (n:=2) (cs:=#[.int .i64 127,.int .i64 127]) (Blk.newAt _ _ _ rfl) (Aj _) rfl (by unfold maxLen;omega),(Ax _ _).alloc (Aj _) _⟩
 ·have a:=fQ (show ofV op=126 by simp[ofV,hg]);have h:=fQ (show unB op=true by simp[unB,hg]);have b:=fQ (show gJ op = [126] by simp[gJ,hg]);have c:=fQ (show kW op=127 by simp[kW,hg]);have d:=fQ (show(fY op).isSome=true by simp[hg]);have i:=fQ (show fY op≠none by simp[hg]);have j:inB op 69 90=true:=inT (by omega) (by omega);have k:(op == 167)=false:=eqF (by omega);have l:(op == 172)=false:=eqF (by omega);have m:(op == 173)=false:=eqF (by omega);clear hg f g;go_in;go_wp2_with fail;refine(vJ op _).mono ?_;rintro e w1 ⟨rfl,rfl⟩;rw[a.out];go_wp2_with fail;refine(pV op _ i.out).mono ?_;rintro e w1 ⟨rfl,rfl⟩;rw[h.out];go_wp2_with (go_at_call 140;refine(iW _ _ _ _).mono ?_;rintro e w1 ⟨rfl,rfl⟩);go_ret3;unfold oJ;rw[b.out,c.out,d.out];exact⟨_,_,rfl,xV 126,(Ax _ _).alloc (Aj _) _⟩
 ·have a:=fQ (show ofV op=126 by simp[ofV,hg]);have h:=fQ (show unB op=false by simp[unB,hg]);have b:=fQ (show gJ op = [126,126] by simp[gJ,hg]);have c:=fQ (show kW op=127 by simp[kW,hg]);have d:=fQ (show(fY op).isSome=true by simp[hg]);have i:=fQ (show fY op≠none by simp[hg]);have j:inB op 69 90=true:=inT (by omega) (by omega);have k:(op == 167)=false:=eqF (by omega);have l:(op == 172)=false:=eqF (by omega);have m:(op == 173)=false:=eqF (by omega);clear hg f g;go_in;go_wp2_with fail;refine(vJ op _).mono ?_;rintro e w1 ⟨rfl,rfl⟩;rw[a.out];go_wp2_with fail;refine(pV op _ i.out).mono ?_;rintro e w1 ⟨rfl,rfl⟩;rw[h.out];go_wp2_with (go_at_call 140;refine(iW _ _ _ _).mono ?_;rintro e w1 ⟨rfl,rfl⟩);go_ret3;unfold oJ;rw[b.out,c.out,d.out];exact⟨_,_,rfl,Blk.own (n:=2) (cs:=#[.int .i64 126,.int .i64 126]) (Blk.newAt _ _ _ rfl) (Aj _) rfl (by unfold maxLen;omega),(Ax _ _).alloc (Aj _) _⟩
 ·have a:=fQ (show ofV op=127 by simp[ofV,hg]);have h:=fQ (show unB op=true by simp[unB,hg]);have b:=fQ (show gJ op = [127] by simp[gJ,hg]);have c:=fQ (show kW op=127 by simp[kW,hg]);have d:=fQ (show(fY op).isSome=true by simp[hg]);have i:=fQ (show fY op≠none by simp[hg]);have j:inB op 69 90=false:=inF (by omega);have k:(op == 167)=false:=eqF (by omega);have l:(op == 172)=false:=eqF (by omega);have m:(op == 173)=false:=eqF (by omega);clear hg f g;go_in;go_wp2_with fail;refine(vJ op _).mono ?_;rintro e w1 ⟨rfl,rfl⟩;rw[a.out];go_wp2_with fail;refine(pV op _ i.out).mono ?_;rintro e w1 ⟨rfl,rfl⟩;rw[h.out];go_wp2_with (go_at_call 140;refine(iW _ _ _ _).mono ?_;rintro e w1 ⟨rfl,rfl⟩);go_ret3;unfold oJ;rw[b.out,c.out,d.out];exact⟨_,_,rfl,xV 127,(Ax _ _).alloc (Aj _) _⟩
 ·have a:=fQ (show ofV op=127 by simp[ofV,hg]);have h:=fQ (show unB op=false by simp[unB,hg]);have b:=fQ (show gJ op = [127,127] by simp[gJ,hg]);have c:=fQ (show kW op=127 by simp[kW,hg]);have d:=fQ (show(fY op).isSome=true by simp[hg]);have i:=fQ (show fY op≠none by simp[hg]);have j:inB op 69 90=false:=inF (by omega);have k:(op == 167)=false:=eqF (by omega);have l:(op == 172)=false:=eqF (by omega);have m:(op == 173)=false:=eqF (by omega);clear hg f g;go_in;go_wp2_with fail;refine(vJ op _).mono ?_;rintro e w1 ⟨rfl,rfl⟩;rw[a.out];go_wp2_with fail;refine(pV op _ i.out).mono ?_;rintro e w1 ⟨rfl,rfl⟩;rw[h.out];go_wp2_with (go_at_call 140;refine(iW _ _ _ _).mono ?_;rintro e w1 ⟨rfl,rfl⟩);go_ret3;unfold oJ;rw[b.out,c.out,d.out];exact⟨_,_,rfl,Blk.own (n:=2) (cs:=#[.int .i64 127,.int .i64 127]) (Blk.newAt _ _ _ rfl) (Aj _) rfl (by unfold maxLen;omega),(Ax _ _).alloc (Aj _) _⟩
 ·have a:=fQ (show ofV op=126 by simp[ofV,hg]);have h:=fQ (show unB op=true by simp[unB,hg]);have b:=fQ (show gJ op = [126] by simp[gJ,hg]);have c:=fQ (show kW op=126 by simp[kW,hg]);have d:=fQ (show(fY op).isSome=true by simp[hg]);have i:=fQ (show fY op≠none by simp[hg]);have j:inB op 69 90=false:=inF (by omega);have k:(op == 167)=false:=eqF (by omega);have l:(op == 172)=false:=eqF (by omega);have m:(op == 173)=false:=eqF (by omega);clear hg f g;go_in;go_wp2_with fail;refine(vJ op _).mono ?_;rintro e w1 ⟨rfl,rfl⟩;rw[a.out];go_wp2_with fail;refine(pV op _ i.out).mono ?_;rintro e w1 ⟨rfl,rfl⟩;rw[h.out];go_wp2_with (go_at_call 140;refine(iW _ _ _ _).mono ?_;rintro e w1 ⟨rfl,rfl⟩);go_ret3;unfold oJ;rw[b.out,c.out,d.out];exact⟨_,_,rfl,xV 126,(Ax _ _).alloc (Aj _) _⟩
 ·have a:=fQ (show ofV op=126 by simp[ofV,hg]);have h:=fQ (show unB op=false by simp[unB,hg]);have b:=fQ (show gJ op = [126,126] by simp[gJ,hg]);have c:=fQ (show kW op=126 by simp[kW,hg]);have d:=fQ (show(fY op).isSome=true by simp[hg]);have i:=fQ (show fY op≠none by simp[hg]);have j:inB op 69 90=false:=inF (by omega);have k:(op == 167)=false:=eqF (by omega);have l:(op == 172)=false:=eqF (by omega);have m:(op == 173)=false:=eqF (by omega);clear hg f g;go_in;go_wp2_with fail;refine(vJ op _).mono ?_;rintro e w1 ⟨rfl,rfl⟩;rw[a.out];go_wp2_with fail;refine(pV op _ i.out).mono ?_;rintro e w1 ⟨rfl,rfl⟩;rw[h.out];go_wp2_with (go_at_call 140;refine(iW _ _ _ _).mono ?_;rintro e w1 ⟨rfl,rfl⟩);go_ret3;unfold oJ;rw[b.out,c.out,d.out];exact⟨_,_,rfl,Blk.own (n:=2) (cs:=#[.int .i64 126,.int .i64 126]) (Blk.newAt _ _ _ rfl) (Aj _) rfl (by unfold maxLen;omega),(Ax _ _).alloc (Aj _) _⟩
 ·have a:=fQ (show ofV op=126 by simp[ofV,hg]);have h:=fQ (show unB op=true by simp[unB,hg]);have b:=fQ (show gJ op = [126] by simp[gJ,hg]);have c:=fQ (show kW op=127 by simp[kW,hg]);have d:=fQ (show(fY op).isSome=true by simp[hg]);have i:=fQ (show fY op≠none by simp[hg]);have j:inB op 69 90=false:=inF (by omega);have k:(op == 167)=true:=eqT (by omega) (by omega);have l:(op == 172)=false:=eqF (by omega);have m:(op == 173)=false:=eqF (by omega);clear hg f g;go_in;go_wp2_with fail;refine(vJ op _).mono ?_;rintro e w1 ⟨rfl,rfl⟩;rw[a.out];go_wp2_with fail;refine(pV op _ i.out).mono ?_;rintro e w1 ⟨rfl,rfl⟩;rw[h.out];go_wp2_with (go_at_call 140;refine(iW _ _ _ _).mono ?_;rintro e w1 ⟨rfl,rfl⟩);go_ret3;unfold oJ;rw[b.out,c.out,d.out];exact⟨_,_,rfl,xV 126,(Ax _ _).alloc (Aj _) _⟩
 ·rcases(show op=172\/op=173 by omega)with rfl | rfl
  ·have a:=fQ (show ofV 172=127 by simp[ofV,hg]);have h:=fQ (show unB 172=true by simp[unB,hg]);have b:=fQ (show gJ 172 = [127] by simp[gJ,hg]);have c:=fQ (show kW 172=126 by simp[kW,hg]);have d:=fQ (show(fY 172).isSome=true by simp[hg]);have i:=fQ (show fY 172≠none by simp[hg]);have j:inB 172 69 90=false:=(by decide);clear hg f g;go_in;go_wp2_with fail;refine(vJ 172 _).mono ?_;rintro e w1 ⟨rfl,rfl⟩;rw[a.out];go_wp2_with fail;refine(pV 172 _ i.out).mono ?_;rintro e w1 ⟨rfl,rfl⟩;rw[h.out];go_wp2_with (go_at_call 140;refine(iW _ _ _ _).mono ?_;rintro e w1 ⟨rfl,rfl⟩);go_ret3;unfold oJ;rw[b.out,c.out,d.out];exact⟨_,_,rfl,xV 127,(Ax _ _).alloc (Aj _) _⟩
  ·have a:=fQ (show ofV 173=127 by simp[ofV,hg]);have h:=fQ (show unB 173=true by simp[unB,hg]);have b:=fQ (show gJ 173 = [127] by simp[gJ,hg]);have c:=fQ (show kW 173=126 by simp[kW,hg]);have d:=fQ (show(fY 173).isSome=true by simp[hg]);have i:=fQ (show fY 173≠none by simp[hg]);have j:inB 173 69 90=false:=(by decide);clear hg f g;go_in;go_wp2_with fail;refine(vJ 173 _).mono ?_;rintro e w1 ⟨rfl,rfl⟩;rw[a.out];go_wp2_with fail;refine(pV 173 _ i.out).mono ?_;rintro e w1 ⟨rfl,rfl⟩;rw[h.out];go_wp2_with (go_at_call 140;refine(iW _ _ _ _).mono ?_;rintro e w1 ⟨rfl,rfl⟩);go_ret3;unfold oJ;rw[b.out,c.out,d.out];exact⟨_,_,rfl,xV 127,(Ax _ _).alloc (Aj _) _⟩
 ·have a:=fQ (show ofV op=127 by simp[ofV,hg]);have h:=fQ (show unB op=true by simp[unB,hg]);have b:=fQ (show gJ op = [127] by simp[gJ,hg]);have c:=fQ (show kW op=127 by simp[kW,hg]);have d:=fQ (show(fY op).isSome=true by simp[hg]);have i:=fQ (show fY op≠none by simp[hg]);have j:inB op 69 90=false:=inF (by omega);have k:(op == 167)=false:=eqF (by omega);have l:(op == 172)=false:=eqF (by omega);have m:(op == 173)=false:=eqF (by omega);clear hg f g;go_in;go_wp2_with fail;refine(vJ op _).mono ?_;rintro e w1 ⟨rfl,rfl⟩;rw[a.out];go_wp2_with fail;refine(pV op _ i.out).mono ?_;rintro e w1 ⟨rfl,rfl⟩;rw[h.out];go_wp2_with (go_at_call 140;refine(iW _ _ _ _).mono ?_;rintro e w1 ⟨rfl,rfl⟩);go_ret3;unfold oJ;rw[b.out,c.out,d.out];exact⟨_,_,rfl,xV 127,(Ax _ _).alloc (Aj _) _⟩
 ·have a:=fQ (show ofV op=126 by simp[ofV,hg]);have h:=fQ (show unB op=true by simp[unB,hg]);have b:=fQ (show gJ op = [126] by simp[gJ,hg]);have c:=fQ (show kW op=126 by simp[kW,hg]);have d:=fQ (show(fY op).isSome=true by simp[hg]);have i:=fQ (show fY op≠none by simp[hg]);have j:inB op 69 90=false:=inF (by omega);have k:(op == 167)=false:=eqF (by omega);have l:(op == 172)=false:=eqF (by omega);have m:(op == 173)=false:=eqF (by omega);clear hg f g;go_in;go_wp2_with fail;refine(vJ op _).mono ?_;rintro e w1 ⟨rfl,rfl⟩;rw[a.out];go_wp2_with fail;refine(pV op _ i.out).mono ?_;rintro e w1 ⟨rfl,rfl⟩;rw[h.out];go_wp2_with (go_at_call 140;refine(iW _ _ _ _).mono ?_;rintro e w1 ⟨rfl,rfl⟩);go_ret3;unfold oJ;rw[b.out,c.out,d.out];exact⟨_,_,rfl,xV 126,(Ax _ _).alloc (Aj _) _⟩
def bWq(k w:Int)(st a:Bool):Ca:=.agg #[.int .i64 k,.int .i64 w,.bool st,.bool a]
def aJu:List (Int×Int×Int×Bool×Bool):=[
 (40,127,4,false,false),
 (41,126,8,false,false),
 (44,127,1,false,true),
 (45,127,1,false,false),
 (46,127,2,false,true),
 (47,127,2,false,false),
 (48,126,1,false,true),
 (49,126,1,false,false),
 (50,126,2,false,true),
 (51,126,2,false,false),
 (52,126,4,false,true),
 (53,126,4,false,false),
 (54,127,4,true,false),
 (55,126,8,true,false),
 (58,127,1,true,false),
 (59,127,2,true,false),
 (60,126,1,true,false),
 (61,126,2,true,false),
 (62,126,4,true,false)]
def nY:List (Int×Ca):=aJu.map fun r=>(r.1,bWq r.2.1 r.2.2.1 r.2.2.2.1 r.2.2.2.2)
def acc(op:Int):Option (Int×Int×Bool×Bool):=(aJu.find? fun r=>decide (op=r.1)).map (·.2)
theorem aWm(op:Int):∀ (l:List (Int×Int×Int×Bool×Bool)) (j:Nat),
  (lQ op (l.map fun r=>(r.1,bWq r.2.1 r.2.2.1 r.2.2.2.1 r.2.2.2.2)) j).map (·.2)=(l.find? fun r=>decide (op=r.1)).map fun r=>bWq r.2.1 r.2.2.1 r.2.2.2.1 r.2.2.2.2
 | [],_=>rfl
 | r :: l,j=>by
  simp only[Az,lQ,List.find?_cons];by_cases h:op=r.1
  ·simp[h]
  ·simp only[if_neg h,decide_eq_false h];exact aWm op l (j+1)
theorem cJk(h:acc op=none):lQ op nY 0=none:=by
 have h1:=aWm op aJu 0;unfold acc at h;rw[Ae]at h;rw[h,Option.map_none,Ae]at h1;exact h1
theorem cWl{k wd:Int}{a:Bool}(h:acc op=some (k,wd,st,a)):∃ j,lQ op nY 0=some (j,bWq k wd st a):=by
 have h1:=aWm op aJu 0;unfold acc at h;rw[Af]at h;obtain⟨r,hr,b⟩:=h;rw[hr,BZ,Af]at h1;obtain⟨p,hp,he⟩:=h1;refine⟨p.1,?_⟩;rw[b]at he;show lQ op (aJu.map _) 0=_;rw[hp,<-he]
theorem nW{k wd:Int}{a:Bool}(h:acc op=some (k,wd,st,a)):(k=127\/k=126)/\(wd=1\/wd=2\/wd=4\/wd=8)/\40<=op/\op<=62:=by
 unfold acc at h;rw[Af]at h;obtain⟨r,hr,b⟩:=h;have c:=Bk hr;have hp:=CJ hr;have d:∀ r∈aJu,(r.2.1=127\/r.2.1=126)/\(r.2.2.1=1\/r.2.2.1=2\/r.2.2.1=4\/r.2.2.1=8)/\40<=r.1/\r.1<=62:=(by decide);have:=d r c;rw[b]at this;simp at hp;rw[hp];exact this
def mX(i:Nat):Obj:=lit (nY.take i)
theorem eYk(W:CY):(Instr.mapUpdate 216 (.map (some W.heap.size)) (.int .i64 40) (.agg #[.int .i64 127,.int .i64 4,.bool false,.bool false])).run fZ (W.alloc (mX 0)) = .ok () (W.alloc (mX 1)):=
 jJ W 216 3 214 (nY.take 0) 40 _ underlying216 underlying3 (by decide +kernel)
theorem eYl(W:CY):(Instr.mapUpdate 216 (.map (some W.heap.size)) (.int .i64 41) (.agg #[.int .i64 126,.int .i64 8,.bool false,.bool false])).run fZ (W.alloc (mX 1)) = .ok () (W.alloc (mX 2)):=
 jJ W 216 3 214 (nY.take 1) 41 _ underlying216 underlying3 (by decide +kernel)
theorem eYm(W:CY):(Instr.mapUpdate 216 (.map (some W.heap.size)) (.int .i64 44) (.agg #[.int .i64 127,.int .i64 1,.bool false,.bool true])).run fZ (W.alloc (mX 2)) = .ok () (W.alloc (mX 3)):=
 jJ W 216 3 214 (nY.take 2) 44 _ underlying216 underlying3 (by decide +kernel)
theorem eYn(W:CY):(Instr.mapUpdate 216 (.map (some W.heap.size)) (.int .i64 45) (.agg #[.int .i64 127,.int .i64 1,.bool false,.bool false])).run fZ (W.alloc (mX 3)) = .ok () (W.alloc (mX 4)):=
 jJ W 216 3 214 (nY.take 3) 45 _ underlying216 underlying3 (by decide +kernel)
theorem eYo(W:CY):(Instr.mapUpdate 216 (.map (some W.heap.size)) (.int .i64 46) (.agg #[.int .i64 127,.int .i64 2,.bool false,.bool true])).run fZ (W.alloc (mX 4)) = .ok () (W.alloc (mX 5)):=
 jJ W 216 3 214 (nY.take 4) 46 _ underlying216 underlying3 (by decide +kernel)
theorem eYp(W:CY):(Instr.mapUpdate 216 (.map (some W.heap.size)) (.int .i64 47) (.agg #[.int .i64 127,.int .i64 2,.bool false,.bool false])).run fZ (W.alloc (mX 5)) = .ok () (W.alloc (mX 6)):=
 jJ W 216 3 214 (nY.take 5) 47 _ underlying216 underlying3 (by decide +kernel)
theorem eYq(W:CY):(Instr.mapUpdate 216 (.map (some W.heap.size)) (.int .i64 48) (.agg #[.int .i64 126,.int .i64 1,.bool false,.bool true])).run fZ (W.alloc (mX 6)) = .ok () (W.alloc (mX 7)):=
 jJ W 216 3 214 (nY.take 6) 48 _ underlying216 underlying3 (by decide +kernel)
theorem eYr(W:CY):(Instr.mapUpdate 216 (.map (some W.heap.size)) (.int .i64 49) (.agg #[.int .i64 126,.int .i64 1,.bool false,.bool false])).run fZ (W.alloc (mX 7)) = .ok () (W.alloc (mX 8)):=
 jJ W 216 3 214 (nY.take 7) 49 _ underlying216 underlying3 (by decide +kernel)
theorem eYs(W:CY):(Instr.mapUpdate 216 (.map (some W.heap.size)) (.int .i64 50) (.agg #[.int .i64 126,.int .i64 2,.bool false,.bool true])).run fZ (W.alloc (mX 8)) = .ok () (W.alloc (mX 9)):=
 jJ W 216 3 214 (nY.take 8) 50 _ underlying216 underlying3 (by decide +kernel)
theorem eYt(W:CY):(Instr.mapUpdate 216 (.map (some W.heap.size)) (.int .i64 51) (.agg #[.int .i64 126,.int .i64 2,.bool false,.bool false])).run fZ (W.alloc (mX 9)) = .ok () (W.alloc (mX 10)):=
 jJ W 216 3 214 (nY.take 9) 51 _ underlying216 underlying3 (by decide +kernel)
theorem eWn(W:CY):(Instr.mapUpdate 216 (.map (some W.heap.size)) (.int .i64 52) (.agg #[.int .i64 126,.int .i64 4,.bool false,.bool true])).run fZ (W.alloc (mX 10)) = .ok () (W.alloc (mX 11)):=
 jJ W 216 3 214 (nY.take 10) 52 _ underlying216 underlying3 (by decide +kernel)
theorem eWo(W:CY):(Instr.mapUpdate 216 (.map (some W.heap.size)) (.int .i64 53) (.agg #[.int .i64 126,.int .i64 4,.bool false,.bool false])).run fZ (W.alloc (mX 11)) = .ok () (W.alloc (mX 12)):=
 jJ W 216 3 214 (nY.take 11) 53 _ underlying216 underlying3 (by decide +kernel)
theorem eWp(W:CY):(Instr.mapUpdate 216 (.map (some W.heap.size)) (.int .i64 54) (.agg #[.int .i64 127,.int .i64 4,.bool true,.bool false])).run fZ (W.alloc (mX 12)) = .ok () (W.alloc (mX 13)):=
 jJ W 216 3 214 (nY.take 12) 54 _ underlying216 underlying3 (by decide +kernel)
theorem eWq(W:CY):(Instr.mapUpdate 216 (.map (some W.heap.size)) (.int .i64 55) (.agg #[.int .i64 126,.int .i64 8,.bool true,.bool false])).run fZ (W.alloc (mX 13)) = .ok () (W.alloc (mX 14)):=
 jJ W 216 3 214 (nY.take 13) 55 _ underlying216 underlying3 (by decide +kernel)
theorem eWr(W:CY):(Instr.mapUpdate 216 (.map (some W.heap.size)) (.int .i64 58) (.agg #[.int .i64 127,.int .i64 1,.bool true,.bool false])).run fZ (W.alloc (mX 14)) = .ok () (W.alloc (mX 15)):=
 jJ W 216 3 214 (nY.take 14) 58 _ underlying216 underlying3 (by decide +kernel)
theorem eWs(W:CY):(Instr.mapUpdate 216 (.map (some W.heap.size)) (.int .i64 59) (.agg #[.int .i64 127,.int .i64 2,.bool true,.bool false])).run fZ (W.alloc (mX 15)) = .ok () (W.alloc (mX 16)):=
 jJ W 216 3 214 (nY.take 15) 59 _ underlying216 underlying3 (by decide +kernel)
theorem eWt(W:CY):(Instr.mapUpdate 216 (.map (some W.heap.size)) (.int .i64 60) (.agg #[.int .i64 126,.int .i64 1,.bool true,.bool false])).run fZ (W.alloc (mX 16)) = .ok () (W.alloc (mX 17)):=
 jJ W 216 3 214 (nY.take 16) 60 _ underlying216 underlying3 (by decide +kernel)
theorem eWu(W:CY):(Instr.mapUpdate 216 (.map (some W.heap.size)) (.int .i64 61) (.agg #[.int .i64 126,.int .i64 2,.bool true,.bool false])).run fZ (W.alloc (mX 17)) = .ok () (W.alloc (mX 18)):=
 jJ W 216 3 214 (nY.take 17) 61 _ underlying216 underlying3 (by decide +kernel)
theorem eWv(W:CY):(Instr.mapUpdate 216 (.map (some W.heap.size)) (.int .i64 62) (.agg #[.int .i64 126,.int .i64 4,.bool true,.bool false])).run fZ (W.alloc (mX 18)) = .ok () (W.alloc (mX 19)):=
 jJ W 216 3 214 (nY.take 18) 62 _ underlying216 underlying3 (by decide +kernel)
theorem aWn(w:CY):Cc fZ 159 #[] w fun e w'=>e = .returned (.map (some w.heap.size))/\w.alloc (mX 19)=w':=by
 have aa:∀ (t:Cd) (w:CY),(Instr.makeMap t none).run fZ w = .ok (.map (some w.heap.size)) (w.alloc (mX 0)):=fun _ _=>rfl;have i0:=eYk;have i1:=eYl;have i2:=eYm;have i3:=eYn;have i4:=eYo;have i5:=eYp;have i6:=eYq;have i7:=eYr;have i8:=eYs;have i9:=eYt;have ab:=eWn;have ad:=eWo;have i12:=eWp;have ae:=eWq;have af:=eWr;have ag:=eWs;have i16:=eWt;have ah:=eWu;have ai:=eWv;go_in;go_wp2;go_ret;exact⟨rfl,rfl⟩
theorem cZg(w:CY):(zeroValue 214).run fZ w = .ok (bWq 0 0 false false) w:=by kernel_rfl
theorem cWm(h:acc op=none)(W:CY):(Instr.lookup 216 (.map (some W.heap.size)) (.int .i64 op) true).run fZ (W.alloc (mX 19)) = .ok (.tuple #[.agg #[.int .i64 0,.int .i64 0,.bool false,.bool false],.bool false]) (W.alloc (mX 19)):=by
 have:=aKn (P:=fZ) W 216 3 214 _ (nY.take 19) op underlying216 underlying3 cZg;rw[show nY.take 19=nY from rfl,cJk h]at this;exact this
theorem cWn{k wd:Int}{a:Bool}(h:acc op=some (k,wd,st,a))(W:CY):(Instr.lookup 216 (.map (some W.heap.size)) (.int .i64 op) true).run fZ (W.alloc (mX 19)) = .ok (.tuple #[.agg #[.int .i64 k,.int .i64 wd,.bool st,.bool a],.bool true]) (W.alloc (mX 19)):=by
 have:=aKn (P:=fZ) W 216 3 214 _ (nY.take 19) op underlying216 underlying3 cZg;obtain⟨j,hj⟩:=cWl h;rw[show nY.take 19=nY from rfl,hj]at this;exact this
def fJ(op:Int):Ca:=match acc op with
 | some (k,wd,st,_)=>.tuple #[.int .i64 k,.int .i64 wd,.bool st,.bool true]
 | none=>.tuple #[.int .i64 0,.int .i64 0,.bool false,.bool false]
theorem jV{fn:Func}{t u v x:Tmp}(h:fn.results=#[.tmp t,.tmp u,.tmp v,.tmp x])(tmps:Array Ca)(P:Ce)(w:CY):
  (results fn tmps).run P w = .ok (.tuple #[tmps.getD t undef,tmps.getD u undef,tmps.getD v undef,tmps.getD x undef]) w:=by simp[results,h]
theorem zY(op:Int)(w:CY):Cc fZ 149 #[.int .i64 op] w fun e w'=>e = .returned (fJ op)/\Cb w.heap.size w w':=by
 have b:Cb w.heap.size w (w.alloc (mX 19)):=(Ax _ _).alloc (Aj _) _
 cases h:acc op with
 | none=>
  have a:=fQ (show fJ op = .tuple #[.int .i64 0,.int .i64 0,.bool false,.bool false] by simp[fJ,h]);have c:=cWm h;clear h;go_in;go_wp2_with fail;refine(aWn _).mono ?_;rintro e w1 ⟨rfl,rfl⟩;go_wp2_with fail;go_quiet (fail);go_wp2;refine bodyPost_ret (jV rfl _ _ _) rfl ⟨?_,?_⟩
  ·rw[a.out];rfl
  ·exact fK (b.alloc (by simp) _) _
 | some r=>
  obtain⟨k,wd,st,sg⟩:=r;have a:=fQ (show fJ op = .tuple #[.int .i64 k,.int .i64 wd,.bool st,.bool true] by simp[fJ,h]);have c:=cWn h;clear h;go_in;go_wp2_with fail;refine(aWn _).mono ?_;rintro e w1 ⟨rfl,rfl⟩;go_wp2_with fail;go_quiet (fail);go_wp2;refine bodyPost_ret (jV rfl _ _ _) rfl ⟨?_,?_⟩
  ·rw[a.out];rfl
  ·exact fK (b.alloc (by simp) _) _
theorem cWo:acc 40=some (127,4,false,false):=by kernel_rfl
theorem cWp:acc 41=some (126,8,false,false):=by kernel_rfl
theorem cWq:acc 44=some (127,1,false,true):=by kernel_rfl
theorem cWr:acc 45=some (127,1,false,false):=by kernel_rfl
theorem cWs:acc 46=some (127,2,false,true):=by kernel_rfl
theorem cWt:acc 47=some (127,2,false,false):=by kernel_rfl
theorem cWu:acc 48=some (126,1,false,true):=by kernel_rfl
theorem cWv:acc 49=some (126,1,false,false):=by kernel_rfl
theorem cWw:acc 50=some (126,2,false,true):=by kernel_rfl
theorem cWx:acc 51=some (126,2,false,false):=by kernel_rfl
theorem cWy:acc 52=some (126,4,false,true):=by kernel_rfl
theorem cWz:acc 53=some (126,4,false,false):=by kernel_rfl
theorem cYa:acc 54=some (127,4,true,false):=by kernel_rfl
theorem cYb:acc 55=some (126,8,true,false):=by kernel_rfl
theorem cYc:acc 58=some (127,1,true,false):=by kernel_rfl
theorem cYd:acc 59=some (127,2,true,false):=by kernel_rfl
theorem cYe:acc 60=some (126,1,true,false):=by kernel_rfl
theorem cYf:acc 61=some (126,2,true,false):=by kernel_rfl
theorem cYg:acc 62=some (126,4,true,false):=by kernel_rfl
theorem bKd{Q:Int->Prop}(t:Q 40)(u:Q 41)(v:Q 44)(w:Q 45)(x:Q 46)(y:Q 47)(z:Q 48)(A:Q 49)(B:Q 50)(C:Q 51)(D:Q 52)(E:Q 53)(F:Q 54)(G:Q 55)(H:Q 58)(I:Q 59)(J:Q 60)(K:Q 61)(L:Q 62)(hn:∀ op,(op == 40)=false->(op == 41)=false->(op == 44)=false->(op == 45)=false->(op == 46)=false->(op == 47)=false->(op == 48)=false->(op == 49)=false->(op == 50)=false->(op == 51)=false->(op == 52)=false->(op == 53)=false->(op == 54)=false->(op == 55)=false->(op == 58)=false->(op == 59)=false->(op == 60)=false->(op == 61)=false->(op == 62)=false->Q op)(op:Int):Q op:=by
 by_cases a:op=40
 ·subst a;exact t
 by_cases b:op=41
 ·subst b;exact u
 by_cases c:op=44
 ·subst c;exact v
 by_cases d:op=45
 ·subst d;exact w
 by_cases e:op=46
 ·subst e;exact x
 by_cases f:op=47
 ·subst f;exact y
 by_cases g:op=48
 ·subst g;exact z
 by_cases h:op=49
 ·subst h;exact A
 by_cases i:op=50
 ·subst i;exact B
 by_cases j:op=51
 ·subst j;exact C
 by_cases k:op=52
 ·subst k;exact D
 by_cases l:op=53
 ·subst l;exact E
 by_cases m:op=54
 ·subst m;exact F
 by_cases n:op=55
 ·subst n;exact G
 by_cases o:op=58
 ·subst o;exact H
 by_cases p:op=59
 ·subst p;exact I
 by_cases q:op=60
 ·subst q;exact J
 by_cases r:op=61
 ·subst r;exact K
 by_cases s:op=62
 ·subst s;exact L
 exact hn op (beq_false_of_ne a) (beq_false_of_ne b) (beq_false_of_ne c) (beq_false_of_ne d) (beq_false_of_ne e) (beq_false_of_ne f) (beq_false_of_ne g) (beq_false_of_ne h) (beq_false_of_ne i) (beq_false_of_ne j) (beq_false_of_ne k) (beq_false_of_ne l) (beq_false_of_ne m) (beq_false_of_ne n) (beq_false_of_ne o) (beq_false_of_ne p) (beq_false_of_ne q) (beq_false_of_ne r) (beq_false_of_ne s)
theorem cZh(aa:(op == 40)=false)(ab:(op == 41)=false)(ad:(op == 44)=false)(ae:(op == 45)=false)(af:(op == 46)=false)(ag:(op == 47)=false)(ah:(op == 48)=false)(ai:(op == 49)=false)(aj:(op == 50)=false)(ak:(op == 51)=false)(al:(op == 52)=false)(an:(op == 53)=false)(ao:(op == 54)=false)(aq:(op == 55)=false)(ar:(op == 58)=false)(au:(op == 59)=false)(av:(op == 60)=false)(aw:(op == 61)=false)(ax:(op == 62)=false):acc op=none:=by
 simp only[beq_eq_false_iff_ne,ne_eq]at *;simp[acc,aJu, *]
theorem cYh(w:CY):Cc fZ 116 #[.int .i64 40] w fun e w'=>e = .returned (.tuple #[.int .i64 127,.int .i64 4,.bool false,.bool true])/\w=w':=by
 go_in;go_wp2;refine bodyPost_ret (jV rfl _ _ _) rfl ⟨rfl,rfl⟩
theorem cYi(w:CY):Cc fZ 116 #[.int .i64 41] w fun e w'=>e = .returned (.tuple #[.int .i64 126,.int .i64 8,.bool false,.bool true])/\w=w':=by
 go_in;go_wp2;refine bodyPost_ret (jV rfl _ _ _) rfl ⟨rfl,rfl⟩
theorem cYj(w:CY):Cc fZ 116 #[.int .i64 44] w fun e w'=>e = .returned (.tuple #[.int .i64 127,.int .i64 1,.bool false,.bool true])/\w=w':=by
 go_in;go_wp2;refine bodyPost_ret (jV rfl _ _ _) rfl ⟨rfl,rfl⟩
theorem cYk(w:CY):Cc fZ 116 #[.int .i64 45] w fun e w'=>e = .returned (.tuple #[.int .i64 127,.int .i64 1,.bool false,.bool true])/\w=w':=by
 go_in;go_wp2;refine bodyPost_ret (jV rfl _ _ _) rfl ⟨rfl,rfl⟩
theorem cYl(w:CY):Cc fZ 116 #[.int .i64 46] w fun e w'=>e = .returned (.tuple #[.int .i64 127,.int .i64 2,.bool false,.bool true])/\w=w':=by
 go_in;go_wp2;refine bodyPost_ret (jV rfl _ _ _) rfl ⟨rfl,rfl⟩
theorem cYm(w:CY):Cc fZ 116 #[.int .i64 47] w fun e w'=>e = .returned (.tuple #[.int .i64 127,.int .i64 2,.bool false,.bool true])/\w=w':=by
 go_in;go_wp2;refine bodyPost_ret (jV rfl _ _ _) rfl ⟨rfl,rfl⟩
theorem cYn(w:CY):Cc fZ 116 #[.int .i64 48] w fun e w'=>e = .returned (.tuple #[.int .i64 126,.int .i64 1,.bool false,.bool true])/\w=w':=by
 go_in;go_wp2;refine bodyPost_ret (jV rfl _ _ _) rfl ⟨rfl,rfl⟩
theorem cYo(w:CY):Cc fZ 116 #[.int .i64 49] w fun e w'=>e = .returned (.tuple #[.int .i64 126,.int .i64 1,.bool false,.bool true])/\w=w':=by
 go_in;go_wp2;refine bodyPost_ret (jV rfl _ _ _) rfl ⟨rfl,rfl⟩
theorem cYp(w:CY):Cc fZ 116 #[.int .i64 50] w fun e w'=>e = .returned (.tuple #[.int .i64 126,.int .i64 2,.bool false,.bool true])/\w=w':=by
 go_in;go_wp2;refine bodyPost_ret (jV rfl _ _ _) rfl ⟨rfl,rfl⟩
theorem cYq(w:CY):Cc fZ 116 #[.int .i64 51] w fun e w'=>e = .returned (.tuple #[.int .i64 126,.int .i64 2,.bool false,.bool true])/\w=w':=by
 go_in;go_wp2;refine bodyPost_ret (jV rfl _ _ _) rfl ⟨rfl,rfl⟩
theorem cYr(w:CY):Cc fZ 116 #[.int .i64 52] w fun e w'=>e = .returned (.tuple #[.int .i64 126,.int .i64 4,.bool false,.bool true])/\w=w':=by
 go_in;go_wp2;refine bodyPost_ret (jV rfl _ _ _) rfl ⟨rfl,rfl⟩
theorem cYs(w:CY):Cc fZ 116 #[.int .i64 53] w fun e w'=>e = .returned (.tuple #[.int .i64 126,.int .i64 4,.bool false,.bool true])/\w=w':=by
 go_in;go_wp2;refine bodyPost_ret (jV rfl _ _ _) rfl ⟨rfl,rfl⟩
theorem cYt(w:CY):Cc fZ 116 #[.int .i64 54] w fun e w'=>e = .returned (.tuple #[.int .i64 127,.int .i64 4,.bool true,.bool true])/\w=w':=by
 go_in;go_wp2;refine bodyPost_ret (jV rfl _ _ _) rfl ⟨rfl,rfl⟩
theorem cYu(w:CY):Cc fZ 116 #[.int .i64 55] w fun e w'=>e = .returned (.tuple #[.int .i64 126,.int .i64 8,.bool true,.bool true])/\w=w':=by
 go_in;go_wp2;refine bodyPost_ret (jV rfl _ _ _) rfl ⟨rfl,rfl⟩
theorem cYv(w:CY):Cc fZ 116 #[.int .i64 58] w fun e w'=>e = .returned (.tuple #[.int .i64 127,.int .i64 1,.bool true,.bool true])/\w=w':=by
 go_in;go_wp2;refine bodyPost_ret (jV rfl _ _ _) rfl ⟨rfl,rfl⟩
theorem cYw(w:CY):Cc fZ 116 #[.int .i64 59] w fun e w'=>e = .returned (.tuple #[.int .i64 127,.int .i64 2,.bool true,.bool true])/\w=w':=by
 go_in;go_wp2;refine bodyPost_ret (jV rfl _ _ _) rfl ⟨rfl,rfl⟩
theorem cYx(w:CY):Cc fZ 116 #[.int .i64 60] w fun e w'=>e = .returned (.tuple #[.int .i64 126,.int .i64 1,.bool true,.bool true])/\w=w':=by
 go_in;go_wp2;refine bodyPost_ret (jV rfl _ _ _) rfl ⟨rfl,rfl⟩
theorem cYy(w:CY):Cc fZ 116 #[.int .i64 61] w fun e w'=>e = .returned (.tuple #[.int .i64 126,.int .i64 2,.bool true,.bool true])/\w=w':=by
 go_in;go_wp2;refine bodyPost_ret (jV rfl _ _ _) rfl ⟨rfl,rfl⟩
theorem cYz(w:CY):Cc fZ 116 #[.int .i64 62] w fun e w'=>e = .returned (.tuple #[.int .i64 126,.int .i64 4,.bool true,.bool true])/\w=w':=by
 go_in;go_wp2;refine bodyPost_ret (jV rfl _ _ _) rfl ⟨rfl,rfl⟩
theorem cJl(w:CY)(aa:(op == 40)=false)(ab:(op == 41)=false)(ad:(op == 44)=false)(ae:(op == 45)=false)(af:(op == 46)=false)(ag:(op == 47)=false)(ah:(op == 48)=false)(ai:(op == 49)=false)(aj:(op == 50)=false)(ak:(op == 51)=false)(al:(op == 52)=false)(an:(op == 53)=false)(ao:(op == 54)=false)(aq:(op == 55)=false)(ar:(op == 58)=false)(au:(op == 59)=false)(av:(op == 60)=false)(aw:(op == 61)=false)(ax:(op == 62)=false):Cc fZ 116 #[.int .i64 op] w fun e w'=>e = .returned (.tuple #[.int .i64 0,.int .i64 0,.bool false,.bool false])/\w=w':=by
 go_in;go_wp2;refine bodyPost_ret (jV rfl _ _ _) rfl ⟨rfl,rfl⟩
theorem gZ(op:Int)(w:CY):Cc fZ 116 #[.int .i64 op] w fun e w'=>e = .returned (fJ op)/\w=w':=by
 revert op
 refine bKd (by rw[fJ,cWo];exact cYh w) (by rw[fJ,cWp];exact cYi w) (by rw[fJ,cWq];exact cYj w) (by rw[fJ,cWr];exact cYk w) (by rw[fJ,cWs];exact cYl w) (by rw[fJ,cWt];exact cYm w) (by rw[fJ,cWu];exact cYn w) (by rw[fJ,cWv];exact cYo w) (by rw[fJ,cWw];exact cYp w) (by rw[fJ,cWx];exact cYq w) (by rw[fJ,cWy];exact cYr w) (by rw[fJ,cWz];exact cYs w) (by rw[fJ,cYa];exact cYt w) (by rw[fJ,cYb];exact cYu w) (by rw[fJ,cYc];exact cYv w) (by rw[fJ,cYd];exact cYw w) (by rw[fJ,cYe];exact cYx w) (by rw[fJ,cYf];exact cYy w) (by rw[fJ,cYg];exact cYz w) ?_;intro op a b c d f g h i j k l m n o p q r s t;rw[fJ,cZh a b c d f g h i j k l m n o p q r s t];exact cJl w a b c d f g h i j k l m n o p q r s t
def sgn(op:Int):Bool:=match acc op with
 | some (_,_,_,a)=>a
 | none=>false
theorem cJm{k wd:Int}{a:Bool}(h:acc op=some (k,wd,st,a))(w:CY):Cc fZ 137 #[.int .i64 op] w fun e w'=>e = .returned (.bool a)/\w=w':=by
 have key:∀ op:Int,sgn op=(op == 44 || (op == 46 || (op == 48 || (op == 50 || op == 52)))):=by
  refine bKd (by rw[sgn,cWo];rfl) (by rw[sgn,cWp];rfl) (by rw[sgn,cWq];rfl) (by rw[sgn,cWr];rfl) (by rw[sgn,cWs];rfl) (by rw[sgn,cWt];rfl) (by rw[sgn,cWu];rfl) (by rw[sgn,cWv];rfl) (by rw[sgn,cWw];rfl) (by rw[sgn,cWx];rfl) (by rw[sgn,cWy];rfl) (by rw[sgn,cWz];rfl) (by rw[sgn,cYa];rfl) (by rw[sgn,cYb];rfl) (by rw[sgn,cYc];rfl) (by rw[sgn,cYd];rfl) (by rw[sgn,cYe];rfl) (by rw[sgn,cYf];rfl) (by rw[sgn,cYg];rfl) ?_;intro op i j b l c m d n f o g p q r s t u v x;rw[sgn,cZh i j b l c m d n f o g p q r s t u v x,b,c,d,f,g];rfl
 have y:=fQ (show a=(op == 44 || (op == 46 || (op == 48 || (op == 50 || op == 52)))) by rw[<-key op,sgn,h]);clear h key;go_in;go_wp2
 all_goals go_ret
 all_goals refine⟨?_,rfl⟩
 all_goals rw[y.out]
 all_goals (simp_all [Bool.or_assoc])
end Go.Proofs.YtabibkpfgmolkaaGreat

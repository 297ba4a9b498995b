/- Lemmas for the claim, part 1. Conditions: none. -/
import Derived.BigQuiet
import Derived.Deep.Slices
import Derived.Lib.Hide
import Derived.Sort.Grow
import Derived.Test.YtabibkpfgmolkaaGreatDoorProg
import Derived.WalkLawsBesides
import Derived.WalkSpells
set_option maxRecDepth 100000
set_option maxHeartbeats 16000000
set_option linter.unusedVariables false
set_option linter.unusedSimpArgs false
open Go.Lib renaming hid→fQ
open Go.Proofs.Tryz renaming prog→fZ
open Go.Proofs.Tryz
open Go.RowKit
open Nat renaming le_refl→Aj,eq_zero_or_pos→AY,mul_one→Ac,zero_mul→Ah,mul_le_mul_right→Bx,le_trans→Bw,zero_add→By,sub_self→BJ,mod_eq_of_lt→BK,add_mul→BY,min_eq_left→Bc,add_zero→Bh,mul_pos→Cj
open List renaming getElem?_eq_getElem→Aq,getElem?_append_right→Az,map_cons→Ak,eq_nil_of_length_eq_zero→Av,getElem?_eq_none→Aw,getElem?_map→Ay,getElem?_append_left→AJ,flatten_cons→AX,mem_of_find?_eq_some→Aa,ext_getElem?→Ae,map_nil→Af,take_of_length_le→Ag,mem_append→Bj,getElem?_modify→Bq,flatten_append→Bk,getElem?_take→Bv,map_toArray→BQ,getElem_mem→BX,length_take→BZ,cons_append→BV,flatten_nil→BW,length_map→Ba,map_append→Bb,append_nil→Bd,find?_some→Be,replicate→Bf,mem_cons→Bg,range→Cq
open Go.RowKit.Below renaming refl→Ax
open Go.World renaming ownsRow_nil→AQ,cell?→Bi
open Option renaming map_eq_some_iff→AZ,map_eq_none_iff→Ai
open Array renaming getElem?_setIfInBounds→AK,toList_modify→AV,toList_push→Ad
open Go.Addr renaming add_lit→AW
open UInt8 renaming ofNat→Ab
open Go.Value renaming int→Bz
open Go renaming World→Cx,Value→Cz,Calls→Cv,TypeId→Cw,Program→Cy
open Go.RowKit renaming Below→Ck
open Go.Value renaming int->fF,slice->fG,bool->fH,tuple->fI,agg->fM
open Go.IntKind renaming i64->fN,u64->fO
open Go.Obj renaming cells->fP
open Go.Ending renaming returned->fR
open Or renaming inl->fS,inr->fT
open Option renaming none->fU,some->gh
open Bool renaming true->gj,false->gm
namespace Go.Proofs.YtabibkpfgmolkaaGreatDoor
theorem fu {p:Prop}(h:p:=by omega):p:=h
theorem fw {p:Prop}(h:p:=by simp;omega):p:=h
theorem fx {p:Prop}(h:p:=by kernel_rfl):p:=h
theorem fy {p:Prop}(h:p:=by decide):p:=h
theorem fz {p:Prop}(h:p:=by simp):p:=h
theorem fB {p:Prop}(h:p:=by simp[intOf];omega):p:=h
theorem fC {p:Prop}(h:p:=by decide +kernel):p:=h
theorem fD {p:Prop}(h:p:=by first|(simp;done)|(simp;omega)):p:=h
theorem fE {p:Prop}(h:p:=by first|(simp[intOf];done)|(simp[intOf];omega)):p:=h
theorem gr {P:Go.Program}{f:Nat}{a:Array Go.Value}{w:Go.World}{Q:Go.Ending->Go.World->Prop}{A:Go.Ending}{B:Go.World}(h:Go.Calls P f a w (fun e v=>e=A/\v=B))(k:Q A B):Go.Calls P f a w Q:=h.mono (by rintro e v ⟨rfl,rfl⟩;exact k)
theorem gu {P:Go.Program}{f:Nat}{a:Array Go.Value}{w:Go.World}{Q:Go.Ending->Go.World->Prop}{A:Go.Ending}{B:Go.World}(h:Go.Calls P f a w (fun e v=>e=A/\B=v))(k:Q A B):Go.Calls P f a w Q:=h.mono (by rintro e v ⟨rfl,rfl⟩;exact k)
theorem gw {α:Type _}{l:List α}{i:Nat}{a:α}:l[i]? = some a->∃ h:i<l.length,l[i]'(h)=a:=List.getElem?_eq_some_iff.1
theorem gy {c:Prop}{h:Decidable c}(k:¬c){α:Sort _}{t e:α}:ite c t e=e:=if_neg k
theorem gz {c:Prop}{h:Decidable c}(k:c){α:Sort _}{t e:α}:ite c t e=t:=if_pos k
theorem gD {p:Prop}[i:Decidable p]:p->decide p=true:=decide_eq_true
theorem gE {p:Prop}[i:Decidable p]:¬p->decide p=false:=decide_eq_false
theorem gG {α:Sort _}{β:Sort _}{a b:α}(f:α->β)(h:a=b):f a=f b:=congrArg f h
def gH {a:Prop}{b:Sort _}(h:a)(k:¬a):b:=absurd h k
theorem fX {α:Sort _}(a:α):∃ b,a=b:=⟨a,rfl⟩
variable {w w':Cx}{e t:Cw}{n k base b size g B p:Nat}{op a:Int}{v:Cz}{A:Option Addr}{st:Bool}
def Src(w:Cx)(A:Option Addr)(n:Nat)(a:List Cz):Prop:=
 a.length=n/\(0<n->∃ b o,A=gh ⟨b,o,fU⟩/\b<w.heap.size/\∀ j u,a[j]? = gh u->w.cell? ⟨b,o+j,fU⟩=gh u)
theorem Src.nil(w:Cx)(A:Option Addr):Src w A 0 []:=⟨rfl,fun h=>gH h fu⟩
theorem Src.C{a:List Cz}(h:Src w A n a)(c:Ck B w w')(hB:w.heap.size<=B):Src w' A n a:=
 ⟨h.1,fun hn=>by
  obtain⟨b,o,e,d,hc⟩:=h.2 hn
  exact⟨b,o,e,Nat.lt_of_lt_of_le d c.size,fun j u f=>(c.cell (by show b<B;omega)).trans (hc j u f)⟩⟩
theorem Src.at_{o:Nat}{s:Option Nat}{a:List Cz}(h:Src w (gh ⟨b,o,s⟩) n a)(c:k<n):
  w.cell? ⟨b,o+k,fU⟩=gh (a[k]'(by rw[h.1];exact c)):=by
 obtain⟨b',o',e,_,hc⟩:=h.2 fu;injection e with e;injection e with d e2;subst d;subst e2;exact hc k _ (Aq (by rw[h.1];exact c))
theorem Src.addr{a:List Cz}(h:Src w A n a)(hn:0<n):∃ b o,A=gh ⟨b,o,fU⟩/\b<w.heap.size:=by
 obtain⟨b,o,e,c,_⟩:=h.2 hn;exact⟨b,o,e,c⟩
theorem Src.mf{c:Nat}{a:List Cz}(h:w.ownsRow base e 1 (fG A n c) n a):Src w A n a:=by
 refine⟨by simpa using h.1,fun hn=>?_⟩;rcases h.2 with⟨h1,h2⟩|⟨g,cap,cur,h1,_,hg,_,_,_,_⟩
 ·omega
 ·have b:A=gh ⟨g,0,fU⟩:=(by injection h1);subst b;refine⟨g,0,rfl,(Array.getElem?_eq_some_iff.1 hg).1,fun j u d=>?_⟩;have:=h.cells (g:=g) rfl j u d
  rwa[AW]at this
theorem iJ{a:List Cz}(h:w.ownsRow base e size v n a)(b:Ck B w w')(hB:w.heap.size<=B):w'.ownsRow base e size v n a:=by
 refine⟨h.1,?_⟩;rcases h.2 with h2|⟨g,cap,cur,h1,h2,hg,r⟩
 ·exact fS h2
 ·refine fT ⟨g,cap,cur,h1,h2,?_,r⟩;rw[b.block g (by have:=(Array.getElem?_eq_some_iff.1 hg).1;omega)];exact hg
theorem iQ{a:Nat}{b:List Cz}(h:w.ownsRow base e size v n b)(c:a<=base):w.ownsRow a e size v n b:=by
 refine⟨h.1,?_⟩;rcases h.2 with h2|⟨g,cap,cur,h1,h2,r⟩
 ·exact fS h2
 ·exact fT ⟨g,cap,cur,h1,Bw c h2,r⟩
theorem fJ{a:List Cz}(h:w.ownsRow base e size v n a):
  ∃ A c,v = fG A n c/\n<=c:=by
 rcases h.2 with⟨h1,h2⟩|⟨g,cap,cur,h1,_,_,b,_⟩
 ·subst h2;exact⟨fU,0,h1,Aj _⟩
 ·exact⟨_,_,h1,b⟩
theorem bZt{P:Cy}{ops:Array Oper}{rest:List Oper}{o:Oper}{a:Act}{Q:Exit->Act->Cx->Prop}(w:Cx)(C:o.guard=fU)(s x:Operand)(t:Cw)
  (D:o.op = .call { callee:=.builtin .append,args:=#[s,x],argTypes:=#[t,t] })
  (base:Nat) (e:Cw) (z:Cz) (bytes:Nat) (k:P.underlying t=gh (.slice e)) (hinfo:(P.info? e).map (fun i=>(i.zero,i.size,i.bytes))=gh (gh z,1,bytes)) (E:z.cells.size=1)
  (v:Cz) (n:Nat) (f:List Cz) (hs:a.eval s=v) (l:w.ownsRow base e 1 v n f)
  (A:Option Addr) (m c:Nat) (news:List Cz) (F:a.eval x = fG A m c) (d:Src w A m news) (h1:∀ u∈news,u.oneCell'=gj)
  (G:n+m<=maxLen) (hbytes:(n+m)*bytes<=140737488355328) (hbase:base<=w.heap.size)
  (h:∀ v' w',w'.ownsRow base e 1 v' (n+m) (f++news)->w.grownBy w' v.ownBlock->wpList P ops Q rest (a.put o.dst v') w'):wpList P ops Q (o :: rest) a w:=by
 obtain⟨i,hi,H,I,J⟩:=info_parts hinfo
 have key:∃ v' w',(Builtin.append_ #[t,t] o.type #[v,fG A m c]).run P w = .ok v' w'/\w'.ownsRow base e 1 v' (n+m) (f++news)/\w.grownBy w' v.ownBlock:=by
  rcases A with _|L
  ·have y:m=0:=by
    rcases AY m with p|p
    ·exact p
    ·obtain⟨b,o,M,_⟩:=d.2 p;cases M
   have N:news = []:=Av (by rw[d.1,y]);subst N;subst y;refine⟨v,w,?_,by simpa using l,World.grownBy.refl w _⟩;rcases l.2 with⟨rfl,rfl⟩|⟨g,cap,cur,rfl,_,_,O,_⟩
   ·simp[Builtin.append_,run_underlying k,sizeOf,typeInfo,hi,Builtin.lenOf,Builtin.firstCells]
   ·simp[Builtin.append_,run_underlying k,sizeOf,typeInfo,hi,Builtin.lenOf,Builtin.firstCells,O,storeCells]
  ·obtain⟨v',w',q,h2,r,_⟩:=run_append_own (P:=P) w base t o.type e i z 1 bytes k hi H I J E fu v n f l L m c news (by simpa using d.1)
    (fun j u B=>by
     have hj:=(gw B).1;obtain⟨b,o,e',_,hc⟩:=d.2 (by have:=d.1;omega);injection e' with e';subst e';rw[AW]
     exact hc j u B) h1 G hbytes hbase
   exact⟨v',w',q,h2,r⟩
 obtain⟨v',w',q,h2,r⟩:=key;refine wpList_plain C fun K R=>?_;unfold Oper.wp execOp;simp only[D,resolve,invoke,builtin,Sem.run_bind,Sem.run_pure,Result.andThen_ok,BQ,Ak,Af,hs,F,q];exact R _ _ (h v' w' h2 r)
theorem aKa{a:Cx}{b:List Cz}(h:Ck B a w)(hg:w.grownBy w' v.ownBlock)(c:w.ownsRow base e size v n b)(d:B<=base)(hs:B<=w.heap.size):Ck B a w':=
 h.grown hg hs (fun k f=>Bw d (c.lt k f).1)
def jv(l:List Nat):List Cz:=l.map fun c:Nat=>fF .u8 (c:Int)
theorem ox(l:List Nat):(jv l).length=l.length:=by simp[jv]
theorem nI(l:List Nat):∀ u∈jv l,u.oneCell'=gj:=by
 intro u a;obtain⟨_,_,rfl⟩:=List.mem_map.1 a;rfl
theorem cJs(a b:List Nat):jv (a++b)=jv a++jv b:=by simp[jv]
theorem cJt{l:List Nat}(h:k<(jv l).length):(jv l)[k] = fF .u8 ((l[k]'(by simpa[jv]using h):Nat):Int):=by simp[jv]
theorem bKh(l:List Nat)(k c:Nat):(jv l).set k (fF .u8 (c:Int))=jv (l.set k c):=by
 unfold jv;rw[List.map_set]
def jw(l:List Nat):Prop:=∀ c∈l,c<256
theorem jw.get{l:List Nat}(h:jw l)(a:k<l.length):l[k]<256:=h _ (BX a)
theorem eKv(w:Cx)(v:Cz)(e:Cw):Src (w.alloc (fP #[v] e)) (gh ⟨w.heap.size,0,fU⟩) 1 [v]:=by
 refine⟨rfl,fun _=>⟨_,_,rfl,fz,fun j u a=>?_⟩⟩
 match j,a with
 | 0,a=>
  simp at a;subst a;simp
def rN(l:List Nat):ByteArray:=⟨(l.map Ab).toArray⟩
theorem bXm(l:List Nat):(rN l).toList=l.map Ab:=by
 unfold rN;rw[ByteArray.toList_mk]
theorem aWz:∀ (a b:List Nat),jw a->jw b->a.map Ab=b.map Ab->a=b
 | [],[],_,_,_=>rfl
 | [],y :: b,_,_,h=>by simp at h
 | x :: a,[],_,_,h=>by simp at h
 | x :: a,y :: b,ha,d,h=>by
  simp only[Ak,List.cons.injEq]at h;obtain⟨h1,h2⟩:=h;have hx:x<256:=ha x fz;have hy:y<256:=d y fz;have e:=gG UInt8.toNat h1;simp only[UInt8.toNat_ofNat']at e;rw[aWz a b (fun c hc=>ha c (by simp[hc])) (fun c hc=>d c (by simp[hc])) h2];rw[show x=y from by omega]
theorem eKw{a b:List Nat}(ha:jw a)(c:jw b):((rN a).toList == (rN b).toList)=decide (a=b):=by
 rw[bXm,bXm,Bool.eq_iff_iff];simp only[beq_iff_eq,decide_eq_true_eq];exact⟨aWz a b ha c,fun h=>by rw[h]⟩
theorem bYs{P:Cy}(w:Cx)(src dst e:Cw)(hs:P.underlying src=gh (.slice e))(he:P.underlying e=gh (.int .u8))(hd:P.underlying dst=gh .string)
  (A:Option Addr) (n c:Nat) (l:List Nat) (h:Src w A n (jv l)) (g:jw l):(convert src dst (fG A n c)).run P w = .ok (.string (rN l)) w:=by
 have hn:l.length=n:=(by rw[<-h.1,ox]);rcases A with _|i
 ·have d:n=0:=by
   rcases AY n with d|d
   ·exact d
   ·obtain⟨b,o,a,_⟩:=h.2 d;cases a
  have:l = []:=Av fu;subst this;rw[run_convert_bytes_nil w src e hs he n c dst hd];rfl
 ·have f:=run_convert_bytes_back (P:=P) w src dst e i c (l.map Ab) hs he hd (fun j hj=>by
   have m:j<n:=(by simp at hj;omega);obtain⟨b,o,a,_,hc⟩:=h.2 fu;injection a with a;subst a;rw[AW,hc j _ (Aq (by rw[h.1];exact m)),cJt];have:=g.get (k:=j) fu;simp
   omega)
  rw[Ba,hn]at f;exact f
theorem aYe{x:Addr}(h:w.cell? x=gh v):x.spot=fU/\x.block<w.heap.size:=by
 unfold Bi at h
 split at h
 ·rename_i a
  split at h
  ·cases h
  ·rename_i hs;exact⟨by simpa using hs,(Array.getElem?_eq_some_iff.1 a).1⟩
 ·cases h
theorem qu{P:Cy}{ops:Array Oper}{rest:List Oper}{o:Oper}{a:Act}{Q:Exit->Act->Cx->Prop}(w:Cx)(b:o.guard=fU)(s x:Operand)(t:Cw)
  (d:o.op = .call { callee:=.builtin .append,args:=#[s,x],argTypes:=#[t,t] })
  (e:Cw) (z:Cz) (bytes:Nat) (f:P.underlying t=gh (.slice e)) (hinfo:(P.info? e).map (fun i=>(i.zero,i.size,i.bytes))=gh (gh z,1,bytes)) (g:z.cells.size=1)
  (hs:a.eval s = fG fU 0 0)
  (A:Option Addr) (m c:Nat) (news:List Cz) (j:a.eval x = fG A m c) (k:Src w A m news) (h1:∀ u∈news,u.oneCell'=gj)
  (ae:m<=maxLen) (hbytes:m*bytes<=140737488355328)
  (h:∀ v' w',w'.ownsRow w.heap.size e 1 v' m news->Ck w.heap.size w w'->wpList P ops Q rest (a.put o.dst v') w'):wpList P ops Q (o :: rest) a w:=
 bZt w b s x t d w.heap.size e z bytes f hinfo g (fG fU 0 0) 0 [] hs (AQ _ _ _ _) A m c news j k h1 fu (by rw[By];exact hbytes) (Aj _) fun v' w' h2 l=>
  h v' w' (by simpa using h2) (aKa (Ax _ _) l (AQ w w.heap.size e 1) (Aj _) (Aj _))
theorem qv{P:Cy}{ops:Array Oper}{rest:List Oper}{o:Oper}{a:Act}{Q:Exit->Act->Cx->Prop}(w:Cx)(f:o.guard=fU)(s x:Operand)(t:Cw)
  (g:o.op = .call { callee:=.builtin .append,args:=#[s,x],argTypes:=#[t,t] })
  (base:Nat) (e:Cw) (z:Cz) (bytes:Nat) (j:P.underlying t=gh (.slice e)) (hinfo:(P.info? e).map (fun i=>(i.zero,i.size,i.bytes))=gh (gh z,1,bytes)) (k:z.cells.size=1)
  (v:Cz) (n:Nat) (b:List Cz) (hs:a.eval s=v) (d:w.ownsRow base e 1 v n b)
  (A:Option Addr) (m c:Nat) (news:List Cz) (l:a.eval x = fG A m c) (p:Src w A m news) (h1:∀ u∈news,u.oneCell'=gj)
  (q:n+m<=maxLen) (hbytes:(n+m)*bytes<=140737488355328) (hbase:base<=w.heap.size)
  (h:∀ v' w',w'.ownsRow base e 1 v' (n+m) (b++news)->Ck base w w'->wpList P ops Q rest (a.put o.dst v') w'):wpList P ops Q (o :: rest) a w:=
 bZt w f s x t g base e z bytes j hinfo k v n b hs d A m c news l p h1 q hbytes hbase fun v' w' h2 r=>
  h v' w' h2 (aKa (Ax _ _) r d (Aj _) hbase)
def gO(w:Cx)(g:Nat)(e:Cw)(cs:Array Cz):Prop:=w.heap[g]? = gh (fP cs e (0,0))
theorem gO.lt{cs:Array Cz}(h:gO w g e cs):g<w.heap.size:=(Array.getElem?_eq_some_iff.1 h).1
theorem gO.a4(w:Cx)(e:Cw)(cs:Array Cz):gO (w.alloc (fP cs e)) w.heap.size e cs:=heap_alloc_new w _
theorem gO.C{cs:Array Cz}(h:gO w g e cs)(a:Ck B w w')(b:g<B):gO w' g e cs:=(a.block g b).trans h
theorem gO.cell{w:Cx}{g:Nat}{e:Cw}{cs:Array Cz}(h:gO w g e cs)(i:Nat):w.cell? ⟨g,i,fU⟩=cs[i]?:=cell_of_row w g i cs e (0,0) h
theorem gO.src{cs:Array Cz}(h:gO w g e cs)(n:Nat)(hn:n<=cs.size):Src w (gh ⟨g,0,fU⟩) n (cs.toList.take n):=by
 refine⟨fw,fun _=>⟨g,0,rfl,h.lt,fun j u a=>?_⟩⟩;rw[By,h.cell];rw[Bv]at a
 split at a
 ·simpa using a
 ·cases a
theorem cKz{W w1:Cx}(a:Ck W.heap.size W w1):(∀ b o,b<W.heap.size->w1.cell? ⟨b,o,fU⟩=W.cell? ⟨b,o,fU⟩)/\(∀ b o,b<W.heap.size->w1.frozen? ⟨b,o,fU⟩=W.frozen? ⟨b,o,fU⟩):=
 ⟨fun b _ h=>a.cell (p:=⟨b,_,fU⟩) h,fun b _ h=>a.frozen (p:=⟨b,_,fU⟩) h⟩
theorem fK{a:Cx}(h:Ck B a w)(n:Nat):Ck B a (w.drewN n):=⟨h.os,h.tape,h.output,h.size,h.block⟩
theorem cJu(k:IntKind)(x:Int):∀ u ∈ [Bz k x],u.oneCell'=gj:=by
 intro u a;obtain rfl:=List.mem_singleton.1 a;rfl
theorem lZ{a:List Cz}(h:w.ownsRow p e 1 v n a)(hn:1<=n):∃ g c,v = fG (gh ⟨g,0,fU⟩) n c/\g<w.heap.size/\p<=g/\n<=c:=by
 rcases h.2 with⟨_,h⟩|⟨g',aa,cur,rfl,h1,h2,b,r⟩
 ·omega
 ·exact⟨_,_,rfl,(Array.getElem?_eq_some_iff.1 h2).1,h1,b⟩
theorem aWd{a c:Nat}{d:List Cz}(h:w.ownsRow p e 1 (fG (gh ⟨b,0,fU⟩) a c) a d)(hk:k<a):∃ v,w.cell? ⟨b,k,fU⟩=gh v:=by
 have hl:=h.1;rw[h.cellAt k fu];exact⟨_,Aq fu⟩
theorem Src.take{w:Cx}{A:Option Addr}{n i:Nat}{c:List Cz}(h:Src w A n c)(hi:i<=n):Src w A i (c.take i):=by
 refine⟨by rw[BZ,h.1];omega,fun h0=>?_⟩;obtain⟨b,o,e,d,hc⟩:=h.2 fu;refine⟨b,o,e,d,fun j u a=>hc j u ?_⟩;rw[Bv]at a
 split at a
 ·exact a
 ·cases a
theorem Src.drop{w:Cx}{b o n i:Nat}{a:List Cz}(h:Src w (gh ⟨b,o,fU⟩) n a)(hi:i<=n):Src w (gh ⟨b,o+i,fU⟩) (n - i) (a.drop i):=by
 refine⟨by rw[List.length_drop,h.1],fun h0=>?_⟩;obtain⟨b',o',e,c,hc⟩:=h.2 fu;injection e with e;injection e with d e2;subst d;subst e2;refine⟨b,o+i,rfl,c,fun j u f=>?_⟩;rw[Nat.add_assoc];exact hc (i+j) u (by rw[<-f,List.getElem?_drop])
theorem cYv(h:(Lit.int .u8 a).wf=gj):0<=a/\a<256:=by
 simp[Lit.wf,IntKind.min,IntKind.max,IntKind.bits,IntKind.signed]at h;omega
theorem bZu(h:(Lit.int fO a).wf=gj):0<=a/\a<18446744073709551616:=by
 simp[Lit.wf,IntKind.min,IntKind.max,IntKind.bits,IntKind.signed]at h;omega
theorem bZv(h:(Lit.int fN a).wf=gj): -9223372036854775808<=a/\a<=9223372036854775807:=by
 simp[Lit.wf,IntKind.min,IntKind.max,IntKind.bits,IntKind.signed]at h;omega
theorem qZ(h:n<18446744073709551616):IntKind.u64.wrap (n:Int)=(n:Int):=by
 rw[IntKind.wrap_u64];omega
theorem aVc{a:Nat}(ha:a<18446744073709551616)(hb:b<18446744073709551616):bits .or fO (a:Int) (b:Int)=((a ||| b:Nat):Int):=by
 have hx:a ||| b<2 ^ 64:=Nat.or_lt_two_pow fu fu;show IntKind.u64.wrap ((BitVec.ofInt 64 (a:Int) ||| BitVec.ofInt 64 (b:Int)).toNat:Int)=_;rw[BitVec.toNat_or,BitVec.ofInt_natCast,BitVec.ofInt_natCast,BitVec.toNat_ofNat,BitVec.toNat_ofNat,BK fu,BK fu];exact qZ fu
def mB:Nat->List (Int×Cz)->List MapEntry
 | _,[]=>[]
 | i,(k,v) :: r=>{ key:=fF fN k,val:=v,born:=i } :: mB (i+1) r
theorem bYt:∀ (i:Nat) (a b:List (Int×Cz)),mB i (a++b)=mB i a++mB (i+a.length) b
 | i,[],b=>by simp[mB]
 | i,(k,v) :: a,b=>by
  simp only[BV,mB,bYt (i+1) a b,List.length_cons];rw[show i+1+a.length=i+(a.length+1)from by omega]
def kK(op:Int):List (Int×Cz)->Nat->Option (Nat×Cz)
 | [],_=>fU
 | (k,v) :: r,j=>if op=k then gh (j,v)else kK op r (j+1)
theorem aKb(op:Int):∀ (l:List (Int×Cz)) (i j:Nat),Instr.findNow (.int fN) (fF fN op) (mB i l) j=gh (kK op l j)
 | [],_,_=>rfl
 | (k,v) :: r,i,j=>by
  simp only[mB,Instr.findNow,Instr.sameNow,kK,if_true];by_cases h:op=k
  ·simp[h]
  ·have:(op == k)=gm:=(by simp[h]);rw[this];simp only[gy h];exact aKb op r (i+1) (j+1)
def lit(l:List (Int×Cz)):Obj:=.map (mB 0 l).toArray l.length
theorem aKc{P:Cy}(w:Cx)(b:Bool)(n:Nat)(t:Cw)(k:IntKind)(x:Int)(h:P.underlying t=gh (.int fN)):(Instr.checkKey b (n+1) t (.int k x)).run P w = .ok () w:=by
 simp[Instr.checkKey,run_underlying h]
theorem bKi{P:Cy}{r:Nat}{a:Array MapEntry}{clock:Nat}(b:w.heap[r]? = gh (.map a clock)):(getObj r).run P w = .ok (.map a clock) w:=by
 simp[getObj,Sem.run,b]
theorem bKj{P:Cy}{r:Nat}{a:Array MapEntry}{clock:Nat}(o:Obj)(b:w.heap[r]? = gh (.map a clock)):(setObj r o).run P w = .ok () { w with heap:=w.heap.setIfInBounds r o }:=by
 simp[setObj,Sem.run,b]
theorem bXz{P:Cy}{b:Cw}{d:TypeDesc}{k:Cz}{l:List MapEntry}{a:Option (Nat×Cz)}(hd:P.underlying b=gh d)(h:Instr.findNow d k l 0=gh a):(Instr.findKey b k l).run P w = .ok a w:=by
 simp[Instr.findKey,run_underlying hd,h]
theorem cYw(W:Cx)(o a:Obj):({ W.alloc o with heap:=(W.alloc o).heap.setIfInBounds W.heap.size a }:Cx)=W.alloc a:=by
 show({ ({ W with heap:=W.heap.push o }:Cx)with heap:=(W.heap.push o).setIfInBounds W.heap.size a }:Cx)={ W with heap:=W.heap.push a }
 have e:(W.heap.push o).setIfInBounds W.heap.size a=W.heap.push a:=by
  apply Array.ext_getElem?;intro i;simp only[AK,Array.getElem?_push,Array.size_push];by_cases h:W.heap.size=i
  ·subst h;simp
  ·rw[gy h,gy fu,gy fu]
 rw[e]
theorem jJ{P:Cy}(W:Cx)(t a g:Cw)(l:List (Int×Cz))(k:Int)(v:Cz)(h:P.underlying t=gh (.map a g))(b:P.underlying a=gh (.int fN))(hn:kK k l 0=fU):
  (Instr.mapUpdate t (.map (gh W.heap.size)) (fF fN k) v).run P (W.alloc (lit l)) = .ok () (W.alloc (lit (l ++ [(k,v)]))):=by
 have c:(W.alloc (lit l)).heap[W.heap.size]? = gh (.map (mB 0 l).toArray l.length):=heap_alloc_new W _;have h1:=bKi (P:=P) c;have h2:=aKc (P:=P) (W.alloc (lit l)) gm 9999 a fN k b;have d:=bXz (P:=P) (w:=W.alloc (lit l)) b (aKb k l 0 0);rw[hn]at d;have f:=bKj (P:=P) (.map ((mB 0 l).toArray.push { key:=fF fN k,val:=v,born:=l.length }) (l.length+1)) c;rw[cYw]at f
 have e:lit (l ++ [(k,v)]) = .map ((mB 0 l).toArray.push { key:=fF fN k,val:=v,born:=l.length }) (l.length+1):=by
  unfold lit;rw[bYt];simp[mB]
 rw[e];unfold Instr.mapUpdate;simp only[Sem.run_bind,run_underlying h,Result.andThen_ok,h1,h2,d,f]
theorem qK{P:Cy}(W:Cx)(t a c:Cw)(z:Cz)(l:List (Int×Cz))(k:Int)(e:P.underlying t=gh (.map a c))(d:P.underlying a=gh (.int fN))(f:∀ w,(zeroValue c).run P w = .ok z w):
  (Instr.lookup t (.map (gh W.heap.size)) (fF fN k) gj).run P (W.alloc (lit l)) = .ok (fI #[((kK k l 0).map (·.2)).getD z,fH (kK k l 0).isSome]) (W.alloc (lit l)):=by
 have g:(W.alloc (lit l)).heap[W.heap.size]? = gh (.map (mB 0 l).toArray l.length):=heap_alloc_new W _;have h1:=bKi (P:=P) g;have h2:=fun b=>aKc (P:=P) (W.alloc (lit l)) b 9999 a fN k d;have h:=bXz (P:=P) (w:=W.alloc (lit l)) d (aKb k l 0 0);unfold Instr.lookup;simp only[Sem.run_bind,run_underlying e,Result.andThen_ok,h1,Sem.run_pure,h2,h]
 cases kK k l 0 with
 | none=>simp[f,Result.andThen]
 | some p=>simp[Sem.run_pure]
theorem gO.alloc{w:Cx}{g:Nat}{e:Cw}{cs:Array Cz}(h:gO w g e cs)(o:Obj):gO (w.alloc o) g e cs:=h.C ((Ax w.heap.size _).alloc (Aj _) _) h.lt
theorem gO.X(w:Cx){N:Nat}(e:Cw)(cs:Array Cz)(h:w.heap.size=N):gO (w.alloc (fP cs e)) N e cs:=by
 subst h;exact gO.a4 w e cs
theorem gO.drew{w:Cx}{g:Nat}{e:Cw}{cs:Array Cz}(h:gO w g e cs):gO w.drew g e cs:=h
theorem gO.drewN{w:Cx}{g:Nat}{e:Cw}{cs:Array Cz}(h:gO w g e cs)(n:Nat):gO (w.drewN n) g e cs:=h
theorem gO.own{cs:Array Cz}(h:gO w g e cs)(a:base<=g)(hn:cs.size=n)(b:n<=maxLen):w.ownsRow base e 1 (fG (gh ⟨g,0,fU⟩) n n) n cs.toList:=by
 subst hn;exact⟨fz,fT ⟨g,cs.size,cs,rfl,a,h,Aj _,b,fz,by rw[Ac];exact Ag fz⟩⟩
theorem gO.kE{cs:Array Cz}(h:gO w g e cs)(hn:cs.size=n):Src w (gh ⟨g,0,fU⟩) n cs.toList:=by
 have:=h.src n fu
 rwa[Ag fw]at this
theorem lJ{a:List Cz}(h:w.ownsRow base e size v n a)(o:Obj):(w.alloc o).ownsRow base e size v n a:=iJ h ((Ax w.heap.size _).alloc (Aj _) _) (Aj _)
theorem nQ{P:Cy}{ops:Array Oper}{rest:List Oper}{o:Oper}{a:Act}{Q:Exit->Act->Cx->Prop}(w:Cx)(E:o.guard=fU)(s x:Operand)(t:Cw)
  (F:o.op = .call { callee:=.builtin .append,args:=#[s,x],argTypes:=#[t,t] })
  (base:Nat) (e:Cw) (z:Cz) (size bytes:Nat) (k:P.underlying t=gh (.slice e)) (hinfo:(P.info? e).map (fun i=>(i.zero,i.size,i.bytes))=gh (gh z,size,bytes)) (G:z.cells.size=size) (C:0<size)
  (v:Cz) (n:Nat) (f:List Cz) (hs:a.eval s=v) (l:w.ownsRow base e size v n f)
  (A:Option Addr) (m c:Nat) (news:List Cz) (H:a.eval x = fG A m c) (d:Src w A (m*size) news) (h1:∀ u∈news,u.oneCell'=gj)
  (I:n+m<=maxLen) (hbytes:(n+m)*bytes<=140737488355328) (hbase:base<=w.heap.size)
  (h:∀ v' w',w'.ownsRow base e size v' (n+m) (f++news)->w.grownBy w' v.ownBlock->(v'.ownBlock=v.ownBlock\/v'.ownBlock=gh w.heap.size)->(v' = fG fU 0 0↔v = fG fU 0 0/\m=0)->wpList P ops Q rest (a.put o.dst v') w'):wpList P ops Q (o :: rest) a w:=by
 obtain⟨i,hi,J,L,M⟩:=info_parts hinfo
 have key:∃ v' w',(Builtin.append_ #[t,t] o.type #[v,fG A m c]).run P w = .ok v' w'/\w'.ownsRow base e size v' (n+m) (f++news)/\w.grownBy w' v.ownBlock/\(v'.ownBlock=v.ownBlock\/v'.ownBlock=gh w.heap.size)/\(v' = fG fU 0 0↔v = fG fU 0 0/\m=0):=by
  rcases A with _|N
  ·have O:m=0:=by
    rcases AY m with p|p
    ·exact p
    ·obtain⟨b,o,R,_⟩:=d.2 (Cj p C);cases R
   subst O;have S:news = []:=Av (by rw[d.1,Ah]);subst S;refine⟨v,w,?_,by simpa using l,World.grownBy.refl w _,fS rfl,fz⟩;rcases l.2 with⟨rfl,rfl⟩|⟨g,cap,cur,rfl,_,_,T,_⟩
   ·simp[Builtin.append_,run_underlying k,sizeOf,typeInfo,hi,Builtin.lenOf,Builtin.firstCells]
   ·simp[Builtin.append_,run_underlying k,sizeOf,typeInfo,hi,Builtin.lenOf,Builtin.firstCells,T,storeCells]
  ·obtain⟨v',w',q,h2,r,y,B⟩:=run_append_own_at (P:=P) w base t o.type e i z size bytes k hi J L M G C v n f l N m c news d.1
    (fun j u D=>by
     have hj:=(gw D).1;obtain⟨b,o,e',_,hc⟩:=d.2 (by have:=d.1;omega);injection e' with e';subst e';rw[AW]
     exact hc j u D) h1 I hbytes hbase
   exact⟨v',w',q,h2,r,B,y⟩
 obtain⟨v',w',q,h2,r,y,B⟩:=key;refine wpList_plain E fun K U=>?_;unfold Oper.wp execOp;simp only[F,resolve,invoke,builtin,Sem.run_bind,Sem.run_pure,Result.andThen_ok,BQ,Ak,Af,hs,H,q];exact U _ _ (h v' w' h2 r y B)
theorem gO.grown{cs:Array Cz}{r:Option Nat}(h:gO w g e cs)(hg:w.grownBy w' r)(a:r≠gh g):gO w' g e cs:=by
 unfold gO;rw[hg.block g h.lt (fun e=>a e.symm)];exact h
theorem rO{a:List Cz}{r:Option Nat}(h:w.ownsRow base e size v n a)(hg:w.grownBy w' r)(b:∀ g,v.ownBlock=gh g->r≠gh g):w'.ownsRow base e size v n a:=by
 refine h.kept hg ?_
 cases hv:v.ownBlock with
 | none=>exact fS rfl
 | some g=>exact fT (fun e=>b g hv e.symm)
theorem oQ{a:Cx}{r:Option Nat}(h:Ck B a w)(hg:w.grownBy w' r)(hs:B<=w.heap.size)(b:∀ k,r=gh k->B<=k):Ck B a w':=h.grown hg hs b
abbrev KV:=List (Int×Cz)
def pk:KV->Int->Cz->KV
 | [],k,v=>[(k,v)]
 | (a,x) :: r,k,v=>if k=a then(a,v) :: r else(a,x) :: pk r k v
def EM(a:List MapEntry)(m:KV):Prop:=a.map (fun e=>(e.key,e.val))=m.map fun p=>(Bz fN p.1,p.2)
theorem EM.cons{e:MapEntry}{a:List MapEntry}{m:KV}(h:EM (e :: a) m):∃ k v r,m=(k,v) :: r/\e.key = fF fN k/\e.val=v/\EM a r:=by
 cases m with
 | nil=>simp[EM]at h
 | cons p r=>
  obtain⟨k,v⟩:=p;simp only[EM,Ak,List.cons.injEq,Prod.mk.injEq]at h;exact⟨k,v,r,rfl,h.1.1,h.1.2,h.2⟩
theorem EM.mk{e:MapEntry}{a:List MapEntry}{k:Int}{v:Cz}{r:KV}(h1:e.key = fF fN k)(h2:e.val=v)(h:EM a r):EM (e :: a) ((k,v) :: r):=by
 simp only[EM,Ak,List.cons.injEq,Prod.mk.injEq]at h ⊢;exact⟨⟨h1,h2⟩,h⟩
theorem cJv(k:Int):∀ (b:List MapEntry) (m:KV) (j:Nat),EM b m->Instr.findNow (.int fN) (fF fN k) b j=gh (kK k m j)
 | [],m,j,h=>by
  cases m with
  | nil=>rfl
  | cons p r=>simp[EM]at h
 | e :: b,m,j,h=>by
  obtain⟨a,v,r,rfl,h1,h2,d⟩:=h.cons;simp only[Instr.findNow,h1,Instr.sameNow,if_true,kK];by_cases c:k=a
  ·simp[c,h2]
  ·have:(k == a)=gm:=(by simp[c]);rw[this];simp only[gy c];exact cJv k b r (j+1) d
theorem bVa{k:Int}:∀ {m:KV} {j:Nat},kK k m j=fU->∀ v,pk m k v=m ++ [(k,v)]
 | [],_,_,v=>rfl
 | (a,x) :: r,j,h,v=>by
  simp only[kK]at h;by_cases b:k=a
  ·simp[b]at h
  ·simp only[gy b]at h;simp only[pk,gy b,BV,bVa h v]
theorem cYx{k:Int}{v:Cz}:∀ {b:List MapEntry} {m:KV} {j i:Nat} {x:Cz},EM b m->kK k m j=gh (i,x) ->
  j<=i/\(∃ e,b[i - j]? = gh e/\e.key = fF fN k)/\EM (b.modify (i - j) fun e=>{ e with key:=fF fN k,val:=v }) (pk m k v)
 | [],m,j,i,x,h,hf=>by
  cases m with
  | nil=>simp[kK]at hf
  | cons p r=>simp[EM]at h
 | e :: b,m,j,i,x,h,hf=>by
  obtain⟨a,y,r,rfl,h1,h2,d⟩:=h.cons;simp only[kK]at hf;by_cases c:k=a
  ·subst c;simp only[if_true,Option.some.injEq,Prod.mk.injEq]at hf;obtain⟨rfl,rfl⟩:=hf;refine⟨Aj _,⟨e,fz,h1⟩,?_⟩;simp only[BJ,pk,if_true];exact EM.mk rfl rfl d
  ·simp only[gy c]at hf;obtain⟨k1,⟨e',k2,f⟩,g⟩:=cYx (v:=v) d hf;have hi:i - j=(i - (j+1))+1:=fu;refine⟨fu,⟨e',by rw[hi];simpa using k2,f⟩,?_⟩;rw[hi];simp only[pk,gy c];exact EM.mk h1 h2 g
def IM(w:Cx)(b:Nat)(m:KV):Prop:=
 ∃ a clock,w.heap[b]? = gh (.map a clock)/\EM a.toList m/\(a.toList.map (·.born)).Nodup/\∀ e∈a.toList,e.born<clock
theorem IM.lt{m:KV}(h:IM w b m):b<w.heap.size:=by
 obtain⟨es,clock,a,_⟩:=h;exact(Array.getElem?_eq_some_iff.1 a).1
theorem bVb(o:Obj)(_:b<w.heap.size):w.grownBy { w with heap:=w.heap.setIfInBounds b o } (gh b):=
 ⟨rfl,rfl,rfl,fz,fun k hk a=>by
  simp only[AK]
  rw[gy (fun e=>a (by rw[e]))]⟩
theorem IM.put(c:b<w.heap.size)(a:Array MapEntry)(clock:Nat){m:KV}(h1:EM a.toList m)(h2:(a.toList.map (·.born)).Nodup)(d:∀ e∈a.toList,e.born<clock):IM { w with heap:=w.heap.setIfInBounds b (.map a clock) } b m:=
 ⟨a,clock,by simp[c],h1,h2,d⟩
theorem fJq{P:Cy}(w:Cx)(k:Int):(Instr.keyThatStays (fF fN k) (fF fN k)).run P w = .ok (fF fN k) w:=by
 simp[Instr.keyThatStays,Instr.sameBits]
theorem IM.update{P:Cy}{m:KV}(h:IM w b m){l y:Cw}(z:P.underlying t=gh (.map l y))(r:P.underlying l=gh (.int fN))(k:Int)(v:Cz):
  ∃ w',(Instr.mapUpdate t (.map (gh b)) (fF fN k) v).run P w = .ok () w'/\IM w' b (pk m k v)/\w.grownBy w' (gh b)/\w'.heap.size=w.heap.size:=by
 have g:=h.lt;obtain⟨d,clock,n,he,hn,hc⟩:=h;have h1:=bKi (P:=P) n;have h2:=fun c=>aKc (P:=P) w c 9999 l fN k r;have A:=bXz (P:=P) (w:=w) r (cJv k d.toList m 0 he);unfold Instr.mapUpdate;simp only[Sem.run_bind,run_underlying z,Result.andThen_ok,h1,h2,A]
 cases hf:kK k m 0 with
 | none=>
  have o:=bKj (P:=P) (.map (d.push { key:=fF fN k,val:=v,born:=clock }) (clock+1)) n;refine⟨_,o,IM.put g _ _ ?_ ?_ ?_,bVb _ g,fz⟩
  ·rw[bVa hf v];simp only[EM,Ad,Bb,Ak,Af]at he ⊢;rw[he]
  ·simp only[Ad,Bb,Ak,Af];rw[List.nodup_append];refine⟨hn,fz,fun a ha c B=>?_⟩;obtain⟨e,f,rfl⟩:=List.mem_map.1 ha;simp at B;have:=hc e f;omega
  ·intro e f;simp only[Ad,Bj,List.mem_singleton]at f;rcases f with h|h
   ·have:=hc e h;omega
   ·subst h;simp
 | some p=>
  obtain⟨i,x⟩:=p;obtain⟨k1,⟨e0,k2,C⟩,s⟩:=cYx (v:=v) he hf;simp only[Nat.sub_zero]at k2 s
  have D:((d[i]?).map (·.key)).getD (fF fN k) = fF fN k:=by
   have:d[i]? = gh e0:=(by simpa using k2);rw[this]
   simpa using C
  have o:=bKj (P:=P) (.map (d.modify i fun e=>{ e with key:=fF fN k,val:=v }) clock) n
  have E:(Instr.keyThatStays (((d[i]?).map (·.key)).getD (fF fN k)) (fF fN k) >>= fun key=>setObj b (.map (d.modify i fun e=>{ e with key,val:=v }) clock)).run P w = .ok () { w with heap:=w.heap.setIfInBounds b (.map (d.modify i fun e=>{ e with key:=fF fN k,val:=v }) clock) }:=by
   rw[D,Sem.run_bind,fJq,Result.andThen_ok,o]
  refine⟨_,E,IM.put g _ _ ?_ ?_ ?_,bVb _ g,fz⟩
  ·simpa[AV]using s
  ·have e:((d.modify i fun e=>{ e with key:=fF fN k,val:=v }).toList.map (·.born))=d.toList.map (·.born):=by
    rw[AV];apply Ae;intro j;simp only[Ay,Bq];by_cases hj:i=j
    ·subst hj;cases d.toList[i]? <;> simp
    ·simp[hj]
   rw[e];exact hn
  ·intro e f;rw[AV]at f;obtain⟨j,hj⟩:=List.mem_iff_getElem?.1 f;rw[Bq]at hj
   cases q:d.toList[j]? with
   | none=>rw[q]at hj;simp at hj
   | some F=>
    rw[q]at hj;have:=hc F (List.mem_of_getElem? q);by_cases u:i=j
    ·simp[u]at hj;rw[<-hj];exact this
    ·simp[u]at hj;rw[<-hj];exact this
section
open Go.ChangeMaps
def IT(w:Cx)(b r:Nat)(m L:KV):Prop:=
 ∃ a clock seen,w.heap[b]? = gh (.map a clock)/\EM a.toList m/\(a.toList.map (·.born)).Nodup/\(∀ e∈a.toList,e.born<clock)/\w.heap[r]? = gh (.mapIter (gh b) clock seen clock)/\EM (leftOf a seen).toList L
end
theorem iW{u:Cz}{b:List Cz}(h:w.ownsRow p e size v n b)(hg:v.ownBlock≠gh g):(w.setCell ⟨g,k,fU⟩ u).ownsRow p e size v n b:=by
 refine⟨h.1,?_⟩;rcases h.2 with h2|⟨a,cap,cur,rfl,h2,c,r⟩
 ·exact fS h2
 ·refine fT ⟨a,cap,cur,rfl,h2,?_,r⟩;have d:a≠g:=fun e=>hg (by simp[Value.ownBlock,e]);rw[heap_setCell_other w ⟨g,k,fU⟩ a u d];exact c
theorem tW{G:Nat}{cs:Array Cz}{u:Cz}(h:gO w G e cs)(hg:G≠g):gO (w.setCell ⟨g,k,fU⟩ u) G e cs:=by
 unfold gO;rw[heap_setCell_other w ⟨g,k,fU⟩ G u hg];exact h
section
open Go.Sort
def ix(l:List Int):List Cz:=l.map (Bz fN)
theorem dYx(l:List Int):(ix l).length=l.length:=by simp[ix]
theorem eKx{l:List Int}(h:k<l.length):(ix l)[k]'(by simpa[ix]using h) = fF fN l[k]:=by simp[ix]
theorem bVc(l:List Int)(n:Nat):(ix l).take n=ix (l.take n):=by simp[ix,List.map_take]
theorem dYy(l:List Int):∀ u∈ix l,u.oneCell'=gj:=by
 intro u a;obtain⟨_,_,rfl⟩:=List.mem_map.1 a;rfl
theorem Src.setCell{w:Cx}{A:Option Addr}{n:Nat}{c:List Cz}(h:Src w A n c){p:Addr}(v:Cz)(hp:∀ a,A=gh a->a.block≠p.block):Src (w.setCell p v) A n c:=by
 refine⟨h.1,fun hn=>?_⟩;obtain⟨b,o,e,d,hc⟩:=h.2 hn;refine⟨b,o,e,by simpa using d,fun j u f=>?_⟩;rw[<-hc j u f];have:=heap_setCell_other w p b v (hp _ e);unfold Bi;rw[this]
theorem dYz{c:Nat}{a:List Cz}(h:w.ownsRow base e size (fG A n c) n a)(b:k<=n)(d:A≠fU):w.ownsRow base e size (fG A k c) k (a.take (k*size)):=by
 rcases h.2 with⟨h1,_⟩|⟨g,cap,cur,h1,f,hg,hn,i,j,l⟩
 ·injection h1 with h1;exact gH h1 d
 ·injection h1 with h1 h2 m;subst h1;subst m;refine⟨?_,fT ⟨g,c,cur,rfl,f,hg,fu,i,j,?_⟩⟩
  ·rw[BZ,h.1];exact Bc (Bx _ b)
  ·rw[<-l,List.take_take,Bc (Bx _ b)]
end
def Ints(w:Cx)(v:Cz)(l:List Int):Prop:=∃ A c,v = fG A l.length c/\Src w A l.length (ix l)/\l.length<=c/\(A=fU->c=0)/\(l.length*8<=140737488351232/\c<=9223372036854775807)
def rQ(l:List Bool):List Cz:=l.map Value.bool
theorem bVd{l:List Bool}(h:k<l.length):(rQ l)[k]'(by simpa[rQ]using h) = fH l[k]:=by simp[rQ]
def Bools(w:Cx)(v:Cz)(l:List Bool):Prop:=∃ A c,v = fG A l.length c/\Src w A l.length (rQ l)/\l.length<=c/\(A=fU->c=0)/\(l.length<=140737488351232/\c<=9223372036854775807)
def Structs{α:Type}(k:Nat)(R:Cx->List Cz->α->Prop)(w:Cx)(v:Cz)(l:List α):Prop:=
 ∃ (A:Option Addr) (c:Nat) (vs:List (List Cz)),v = fG A l.length c/\l.length<=c/\(A=fU->c=0)/\(l.length<=140737488351232/\c<=9223372036854775807)/\vs.length=l.length/\(∀ r∈vs,r.length=k)/\(∀ (i:Nat) (r:List Cz) (x:α),vs[i]? = gh r->l[i]? = gh x->R w r x)/\Src w A (l.length*k) vs.flatten
theorem rP{k:Nat}:∀ {vs:List (List Cz)} {i j:Nat} {r:List Cz} {u:Cz},(∀ r∈vs,r.length=k)->vs[i]? = gh r->r[j]? = gh u->vs.flatten[i*k+j]? = gh u
 | [],i,j,r,u,_,h,_=>by simp at h
 | s :: vs,0,j,r,u,b,h,a=>by
  simp at h;subst h;simp only[AX,Ah,By];rw[AJ (gw a).1];exact a
 | s :: vs,i+1,j,r,u,b,h,a=>by
  simp at h;have hs:s.length=k:=b s fz;have c:=rP (vs:=vs) (fun r d=>b r (by simp[d])) h a;rw[AX,Az (by rw[hs,BY];omega),hs];rw[show(i+1)*k+j - k=i*k+j by rw[BY];omega];exact c
theorem Ints.C{w w':Cx}{B:Nat}{v:Cz}{l:List Int}(h:Ints w v l)(a:Ck B w w')(b:w.heap.size<=B):Ints w' v l:=by
 obtain⟨A,c,e,hs,r⟩:=h;exact⟨A,c,e,hs.C a b,r⟩
theorem Bools.C{w w':Cx}{B:Nat}{v:Cz}{l:List Bool}(h:Bools w v l)(a:Ck B w w')(b:w.heap.size<=B):Bools w' v l:=by
 obtain⟨A,c,e,hs,r⟩:=h;exact⟨A,c,e,hs.C a b,r⟩
theorem Structs.C{α:Type}{k:Nat}{R:Cx->List Cz->α->Prop}{w w':Cx}{B:Nat}{v:Cz}{l:List α}(h:Structs k R w v l)(a:Ck B w w')(b:w.heap.size<=B)
  (d:∀ r x,R w r x->R w' r x):Structs k R w' v l:=by
 obtain⟨A,c,vs,e,h1,h2,f,g,j,m,hs⟩:=h;exact⟨A,c,vs,e,h1,h2,f,g,j,fun i r x q1 n=>d r x (m i r x q1 n),hs.C a b⟩
theorem Structs.at{α:Type}{R:Cx->List Cz->α->Prop}{l:List α}(h:Structs k R w v l)(g:0<k){i:Nat}{x:α}(a:l[i]? = gh x):
  ∃ b o c r,v = fG (gh ⟨b,o,fU⟩) l.length c/\b<w.heap.size/\r.length=k/\R w r x/\∀ j u,r[j]? = gh u->w.cell? ⟨b,o+(i*k+j),fU⟩=gh u:=by
 obtain⟨A,c,vs,e,h1,h2,h3,h4,d,m,hs⟩:=h;have hi:i<l.length:=(gw a).1;obtain⟨b,o,rfl,n,hc⟩:=hs.2 (Cj fu g);have f:vs[i]? = gh (vs[i]' fu):=Aq fu;exact⟨b,o,c,_,e,n,d _ (BX _),m i _ x f a,fun j u p=>hc _ u (rP d f p)⟩
theorem Structs.len{α:Type}{R:Cx->List Cz->α->Prop}{l:List α}(h:Structs k R w v l):∃ A c,v = fG A l.length c/\l.length<=c/\l.length<=140737488351232/\c<=9223372036854775807:=by
 obtain⟨A,c,vs,e,h1,h2,a,_⟩:=h;exact⟨A,c,e,h1,a⟩
theorem Ints.len{l:List Int}(h:Ints w v l):∃ A c,v = fG A l.length c/\Src w A l.length (ix l)/\l.length*8<=140737488351232:=by
 obtain⟨A,c,e,hs,h1,h2,h3⟩:=h;exact⟨A,c,e,hs,fu⟩
theorem Ints.nil(w:Cx):Ints w (fG fU 0 0) []:=⟨fU,0,rfl,Src.nil _ _,Aj _,fun _=>rfl,fz⟩
structure iu where
 a1:List Int
 out:List Int
structure ia where
 R:List iu
 G:Int
 E:List Int
 a3:List Bool
 L:Bool
structure gP where
 op:Int
 n:Nat
 args:List Int
 O:List Int
 to:List Int
def gP.ok(c:gP):Prop:=c.n<18446744073709551616 /\ -9223372036854775808<=c.op/\c.op<=9223372036854775807
structure gR where
 a2:iu
 M:Int
 params:List Int
 K:List gP
def kA(w:Cx)(r:List Cz)(s:iu):Prop:=∃ a b,r = [a,b]/\Ints w a s.a1/\Ints w b s.out
def jE(w:Cx)(r:List Cz)(c:gP):Prop:=∃ a b d,r = [fF fN c.op,fF fO (c.n:Int),a,b,d]/\c.ok/\Ints w a c.args/\Ints w b c.O/\Ints w d c.to
def fVb(w:Cx)(r:List Cz)(e:ia):Prop:=∃ a b d,r = [a,fF fN e.G,b,d,fH e.L]/\Structs 2 kA w a e.R/\Ints w b e.E/\Bools w d e.a3
def kr(w:Cx)(r:List Cz)(x:gR):Prop:=∃ a b p d,r = [a,b,fF fN x.M,p,d]/\Ints w a x.a2.a1/\Ints w b x.a2.out/\Ints w p x.params/\Structs 5 jE w d x.K
theorem kA.C{w w':Cx}{B:Nat}{r:List Cz}{s:iu}(h:kA w r s)(c:Ck B w w')(d:w.heap.size<=B):kA w' r s:=by
 obtain⟨a,b,e,h1,h2⟩:=h;exact⟨a,b,e,h1.C c d,h2.C c d⟩
theorem jE.C{w w':Cx}{B:Nat}{r:List Cz}{c:gP}(h:jE w r c)(f:Ck B w w')(g:w.heap.size<=B):jE w' r c:=by
 obtain⟨a,b,d,e,i,h1,h2,j⟩:=h;exact⟨a,b,d,e,i,h1.C f g,h2.C f g,j.C f g⟩
theorem kr.C{w w':Cx}{B:Nat}{r:List Cz}{x:gR}(h:kr w r x)(c:Ck B w w')(e:w.heap.size<=B):kr w' r x:=by
 obtain⟨a,b,p,d,e',h1,h2,f,g⟩:=h;exact⟨a,b,p,d,e',h1.C c e,h2.C c e,f.C c e,g.C c e (fun r x q=>q.C c e)⟩
section
open Go.ChangeShapes Go.WideShapes Go.Deep
section
variable {H:Type} {enc:Cw×Cz->H} {P:Cy} {w:Cx}
def pn(P:Cy)(t:Cw)(d:DataW H):Prop:=∀ n∈d.weights P t,n<=reachBytes
def sZ(enc:Cw×Cz->H)(P:Cy)(w:Cx){α:Type}(t:Cw)(R:Cx->List Cz->α->Prop):Prop:=
 ∀ fuel cs x,DataW.trod enc P w 0 (fun _=>gj) gj fuel t cs=gh x->pn P t x.1->∃ a:α,R w cs a
theorem aKs{k:IntKind}(b:P.underlying t=gh (.int k)):sZ enc P w t (fun _ cs (a:Int)=>cs = [.int k a]/\(Lit.int k a).wf=gj):=by
 intro fuel cs x h _;obtain⟨n,e,_,c⟩:=DataW.trod_int b h;exact⟨n,e,c⟩
theorem aZi{t:Cw}:∀ {l:List (DataW H)} {d:DataW H},d∈l->∀ n∈d.weights P t,n∈DataW.weightsAll P t l
 | [],d,h,_,_=>by simp at h
 | e :: l,d,h,n,hn=>by
  simp only[DataW.weightsAll,Bj];rcases List.mem_cons.1 h with h|h
  ·subst h;exact fS hn
  ·exact fT (aZi h n hn)
theorem cYy{a:Addr}{cs:List Cz}(h:w.cells? 0 a k=gh cs):cs.length=k/\∀ j,j<k->w.cell? (a.add j)=cs[j]?:=by
 obtain⟨_,h1,h2⟩:=World.cells?_some h;exact⟨h1,h2⟩
theorem bXn{α:Type}{k:Nat}{R:Cx->List Cz->α->Prop}{a:Addr}{m:Nat}(g:0<k)(hc:∀ i,i<m->∃ (cs:List Cz) (x:α),cs.length=k/\(∀ j,j<k->w.cell? (a.add (i*k+j))=cs[j]?)/\R w cs x):
  ∀ len,len<=m->∃ (l:List α) (vs:List (List Cz)),l.length=len/\vs.length=len/\(∀ r∈vs,r.length=k)/\(∀ (i:Nat) (r:List Cz) (x:α),vs[i]? = gh r->l[i]? = gh x->R w r x)/\Src w (gh a) (len*k) vs.flatten
 | 0,_=>⟨[],[],rfl,rfl,fz,fz,by rw[Ah];exact Src.nil _ _⟩
 | len+1,h=>by
  obtain⟨l,vs,h1,h2,q,s,n⟩:=bXn g hc len fu;obtain⟨cs,x,c1,t,v⟩:=hc len fu;obtain⟨aj,x0,d1,z,_⟩:=hc 0 fu;have o:=z 0 g;rw[show a.add (0*k+0)=a by simp[Addr.add],Aq fu]at o;obtain⟨hs,A⟩:=aYe o;obtain⟨ab,f,B⟩:=a;have C:B=fU:=hs;subst C;have p:vs.flatten.length=len*k:=(by have:=n.1;exact this);refine⟨l ++ [x],vs ++ [cs],by simp[h1],by simp[h2],fun r b=>?_,fun i r y q1 d=>?_,?_⟩
  ·rcases List.mem_append.1 b with b|b
   ·exact q r b
   ·simp at b;rw[b];exact c1
  ·by_cases hi:i<len
   ·rw[AJ fu]at q1 d;exact s i r y q1 d
   ·have D:i=len:=by
     have:=(gw q1).1;simp[h2]at this;omega
    subst D;rw[Az fu,h2,BJ]at q1;rw[Az fu,h1,BJ]at d;simp at q1 d;subst q1;subst d;exact v
  ·refine⟨by simp only[Bk,List.length_append,p,AX,BW,Bd,c1];rw[BY];omega,fun _=>⟨ab,f,rfl,A,fun j u c=>?_⟩⟩;simp only[Bk,AX,BW,Bd]at c;by_cases hj:j<len*k
   ·rw[AJ fu]at c;obtain⟨b',o',e,_,E⟩:=n.2 fu;injection e with e;injection e with F e2;subst F;subst e2;exact E j u c
   ·rw[Az fu,p]at c;have G:j - len*k<k:=(by have:=(gw c).1;omega);have:=t (j - len*k) G;rw[AW,c,show f+(len*k+(j - len*k))=f+j by omega]at this;exact this
theorem xZ{α:Type}{R:Cx->List Cz->α->Prop}(b:P.underlying t=gh (.slice e))(p:P.cellsOf e=k)(r:0<k)(s:1<=P.bytesOf e)(u:sZ enc P w e R):
  sZ enc P w t (fun w cs (l:List α)=>∃ v,cs = [v]/\Structs k R w v l/\∀ A n c,v = fG A n c->c*P.bytesOf e<=reachBytes):=by
 intro fuel cs x h f;rcases open_slice b h with⟨rfl,_⟩|⟨a,len,cap,m,n,D,Pl,rfl,_,z,hm,B,C,hi⟩
 ·exact⟨[],_,rfl,⟨fU,0,[],rfl,Aj _,fun _=>rfl,fz,rfl,fz,fz,by rw[List.length_nil,Ah];exact Src.nil _ _⟩,fun A n c e=>by injection e with _ _ e;subst e;simp⟩
 ·have an:m=cap:=(by simpa using B);have hd:x.1=_:=gG Prod.fst C
  have E:∀ d,(d∈(Cq len).map D\/d∈(Cq (m - len)).map fun j=>D (len+j))->pn P e d:=fun d F q hq=>by
   refine f q ?_;rw[hd];simp only[DataW.weights,b,Bg,Bj];rcases F with h1|h1
   ·exact fT (fS (aZi h1 q hq))
   ·exact fT (fT (aZi h1 q hq))
  have g:cap*P.bytesOf e<=reachBytes:=by
   refine f _ ?_;rw[hd];simp only[DataW.weights,b,Bg,Ba,List.length_range]
   left
   rw[show len+(m - len)=cap by omega]
  have ae:cap<=140737488351232:=by have:=Bw (Nat.mul_le_mul_left cap s) g;rw[Ac]at this;exact this
  obtain⟨l,vs,h1,h2,G,H,I⟩:=bXn (w:=w) (R:=R) (a:=a) (m:=m) r (fun i J=>by
   obtain⟨o,q1,K⟩:=hi i J;rw[p]at q1
   obtain⟨y,L⟩:=u n o _ K (E _ (by
    by_cases M:i<len
    ·exact fS (List.mem_map.2 ⟨i,by simpa using M,rfl⟩)
    ·exact fT (List.mem_map.2 ⟨i - len,fw,by show D (len+(i - len))=D i;rw[show len+(i - len)=i by omega]⟩)))
   obtain⟨c1,N⟩:=cYy q1
   exact⟨o,y,c1,fun j hj=>by rw[<-N j hj,Go.Deep.add_add],L⟩) len fu
  subst h1;exact⟨l,_,rfl,⟨gh a,cap,vs,rfl,z,(fun e=>by cases e),⟨fu,fu⟩,h2,G,H,I⟩,fun A n c e=>by injection e with _ _ e;subst e;exact g⟩
theorem cVa(d:P.underlying t=gh (.slice e))(he:P.underlying e=gh (.int fN))(f:P.cellsOf e=1)(g:P.bytesOf e=8):
  sZ enc P w t (fun w cs (l:List Int)=>∃ v,cs = [v]/\Ints w v l):=by
 intro fuel cs x h k;obtain⟨l,v,rfl,⟨A,c,vs,rfl,h1,h2,h3,h4,m,n,b⟩,o⟩:=xZ (enc:=enc) (w:=w) d f fu fu (aKs he) fuel cs x h k;have a:=o _ _ _ rfl;rw[g]at a;refine⟨l,_,rfl,A,c,rfl,?_,h1,h2,by have p:c*8<=140737488351232:=a;omega,by have p:c*8<=140737488351232:=a;omega⟩
 have q:vs.flatten=ix l:=by
  apply Ae;intro i;by_cases hi:i<l.length
  ·have hv:vs[i]? = gh (vs[i]' fu):=Aq fu;have r:=(n i _ _ hv (Aq hi)).1;have:=rP (j:=0) m hv (by rw[r];rfl);rw[Ac,Bh]at this;rw[this];simp[ix,Ay,Aq hi]
  ·have s:=b.1;rw[Aw (by rw[s];omega),Aw (by simp[ix];omega)]
 rw[<-q]
 simpa using b
theorem bZw(c:P.underlying t=gh .bool):sZ enc P w t (fun _ cs (a:Bool)=>cs = [.bool a]):=by
 intro fuel cs x h _;obtain⟨b,e,_⟩:=DataW.trod_bool c h;exact⟨b,e⟩
theorem cZh(b:P.underlying t=gh (.slice e))(he:P.underlying e=gh .bool)(d:P.cellsOf e=1)(f:1<=P.bytesOf e):
  sZ enc P w t (fun w cs (l:List Bool)=>∃ v,cs = [v]/\Bools w v l):=by
 intro fuel cs x h g;obtain⟨l,v,rfl,⟨A,c,vs,rfl,h1,h2,k,h4,m,n,a⟩,_⟩:=xZ (enc:=enc) (w:=w) b d fu f (bZw he) fuel cs x h g;refine⟨l,_,rfl,A,c,rfl,?_,h1,h2,k⟩
 have o:vs.flatten=rQ l:=by
  apply Ae;intro i;by_cases hi:i<l.length
  ·have hv:vs[i]? = gh (vs[i]' fu):=Aq fu;have p:=n i _ _ hv (Aq hi);have:=rP (j:=0) m hv (by rw[p];rfl);rw[Ac,Bh]at this;rw[this];simp[rQ,Ay,Aq hi]
  ·have q:=a.1;rw[Aw (by rw[q];omega),Aw (by simp[rQ];omega)]
 rw[<-o]
 simpa using a
theorem cZi{fs:Array Field}{fuel:Nat}{cs:List Cz}{x:DataW H×List MemPlace}(b:P.underlying t=gh (.struct fs))(h:DataW.trod enc P w 0 (fun _=>gj) gj fuel t cs=gh x)(c:pn P t x.1)
  {α:Type} {R:Cx->List Cz->α->Prop} (i:Nat) {f:Field} (hf:fs[i]? = gh f) (e:sZ enc P w f.type R):cs.length=P.cellsOf t/\∃ a,R w ((cs.drop f.offset).take (P.cellsOf f.type)) a:=by
 obtain⟨g,n,_,k,l,ad,hg⟩:=DataW.trod_struct b h;have hi:i<fs.size:=(Array.getElem?_eq_some_iff.1 hf).1;have h1:=hg i f hf;rw[Aq fu]at h1;refine⟨l,e n _ _ h1 (fun q hq=>c q ?_)⟩;rw[show x.1=_ from gG Prod.fst k];simp only[DataW.weights,b];refine DataW.weights_mem_each (j:=i) (t:=f.type) (d:=(g[i]' fu).1) ?_ ?_ q hq
 ·rw[Ay];have:fs.toList[i]? = gh f:=(by simpa using hf);rw[this];rfl
 ·rw[Ay,Aq fu];rfl
theorem lW{fs:Array Field}{fuel:Nat}{cs:List Cz}{x:DataW H×List MemPlace}(b:P.underlying t=gh (.struct fs))(h:DataW.trod enc P w 0 (fun _=>gj) gj fuel t cs=gh x)(c:pn P t x.1)
  {α:Type} {R:Cx->List Cz->α->Prop} (i o k e:Nat) {f:Field} (hf:fs[i]? = gh f) (d:sZ enc P w e R) (he:f.type=e) (g:f.offset=o) (j:P.cellsOf e=k):∃ a,R w ((cs.drop o).take k) a:=by
 subst he;subst g;subst j;exact(cZi b h c i hf d).2
end
end
theorem bWu(z:Cz)(n:Nat):madeCells #[z] n=(Bf n z).toArray:=by
 apply Array.ext';simp[toList_madeCells_one]
theorem nL{P:Cy}(t e:Cw)(z:Cz)(bytes:Nat)(b:P.underlying t=gh (.slice e))(hinfo:(P.info? e).map (fun i=>(i.zero,i.size,i.bytes))=gh (gh z,1,bytes))(c:z.cells=#[z])(n:Nat)(hb:bytes*n<=281474976710656)(hm:n<=9223372036854775807):
  ∀ u:Cx,(Instr.makeSlice t (fF fN (n:Int)) (fF fN (n:Int))).run P u = .ok (fG (gh ⟨u.heap.size,0,fU⟩) n n) (u.alloc (fP (Bf n z).toArray e)):=by
 intro u;obtain⟨a,hi,d,f,g⟩:=info_parts hinfo
 have j:(a.bytes:Int)*(n:Int)<=281474976710656:=by
  rw[g];have h:((bytes*n:Nat):Int)<=281474976710656:=fu
  rwa[Int.natCast_mul]at h
 have h:=run_make (P:=P) u t e a z b hi d fN fN (n:Int) (n:Int) fu (Int.le_refl _) j fu;simp only[Int.toNat_natCast]at h;rw[h,f,Ac,c,bWu]
section
open Go.ChangeMaps
end
def uV:List (Int×Int×Int×Int):=[(69,1,0,127),(70,10,1,127),(80,1,0,126),(81,10,1,126),(103,3,2,127),(106,15,3,127),(121,3,2,126),(124,15,3,126),(167,1,4,126),(172,2,5,127),(192,2,6,127),(194,3,6,126)]
def mC(op:Int)(g:Int×Int×Int×Int):Bool:=decide (g.1<=op) && decide (op - g.1<g.2.1)
def gQ(op:Int):Option (Int×Int×Int×Int):=uV.find? (mC op)
def gV(g:Int×Int×Int×Int):Cz:=fM #[fF fN g.1,fF fN g.2.1,fF fN g.2.2.1,fF fN g.2.2.2]
def uW:Array Cz:=(uV.flatMap fun g=>[Bz fN g.1,fF fN g.2.1,fF fN g.2.2.1,fF fN g.2.2.2]).toArray
theorem fQp:∀ i,i<12->∃ a b c d,uV[i]? = gh (a,b,c,d)/\uW[i*4]? = gh (fF fN a)/\uW[i*4+1]? = gh (fF fN b)/\uW[i*4+2]? = gh (fF fN c)/\uW[i*4+3]? = gh (fF fN d)/\69<=a/\a<=194/\1<=b/\b<=15:=by
 intro i hi;have h:i=0\/i=1\/i=2\/i=3\/i=4\/i=5\/i=6\/i=7\/i=8\/i=9\/i=10\/i=11:=fu;rcases h with rfl|rfl|rfl|rfl|rfl|rfl|rfl|rfl|rfl|rfl|rfl|rfl <;> exact⟨_,_,_,_,rfl,rfl,rfl,rfl,rfl,fy,fy,fy,fy⟩
theorem qV{g:Int×Int×Int×Int}(a:∀ j,j<k->∀ g,uV[j]? = gh g->mC op g=gm)(hg:uV[k]? = gh g)(h:mC op g=gj):gQ op=gh g:=by
 rw[gQ,List.find?_eq_some_iff_getElem];obtain⟨b,e⟩:=gw hg;exact⟨h,k,b,e,fun j hj=>by simp[a j hj _ (Aq fu)]⟩
theorem bZy(a:∀ j,j<12->∀ g,uV[j]? = gh g->mC op g=gm):gQ op=fU:=by
 rw[gQ,List.find?_eq_none];intro g hg;obtain⟨j,hj,e⟩:=List.mem_iff_getElem.1 hg;simp[a j (by simpa[uV]using hj) g (by rw[<-e];exact Aq hj)]
theorem cVb(w:Cx):Cv fZ 146 #[] w fun e w'=>e = fR (fG (gh ⟨w.heap.size,0,fU⟩) 12 12)/\w.alloc (fP uW 181)=w':=by
 go_in;go_wp2;go_ret;exact⟨rfl,rfl⟩
def eKh(w0:Cx)(G:Nat)(op:Int)(a:Nat)(i:Cz)(wr:Cx):Prop:=
 ∃ k:Nat,k<=12/\i = fF fN k/\Hid (∀ j,j<k->∀ g,uV[j]? = gh g->mC op g=gm)/\Hid (gO wr G 181 uW)/\Hid (gO wr a 181 #[fF fN 0,fF fN 0,fF fN 0,fF fN 0])/\Hid (Ck w0.heap.size w0 wr)
theorem cJw{wr:Cx}{G:Nat}{g:Int×Int×Int×Int}{o:Obj}(h:Hid (∀ j,j<k->∀ g,uV[j]? = gh g->mC op g=gm))(c:Hid (gO wr G 181 uW))(d:Hid (gO wr b 181 #[fF fN 0,fF fN 0,fF fN 0,fF fN 0]))(f:Hid (Ck w.heap.size w wr))
  (hg:uV[k]? = gh g) (hn:mC op g=gm) (hk:k<12):eKh w G op b (fF fN ((k:Int)+1)) (wr.alloc o)/\13 - (intOf (fF fN ((k:Int)+1))).toNat<13 - (intOf (fF fN (k:Int))).toNat:=by
 refine⟨⟨k+1,fu,fz,fQ (fun j hj x a=>?_),fQ (c.C ((Ax wr.heap.size _).alloc (Aj _) _) c.lt),fQ (d.C ((Ax wr.heap.size _).alloc (Aj _) _) d.lt),fQ (f.alloc f.out.size _)⟩,fB⟩;by_cases e:j=k
 ·subst e;rw[hg]at a;injection a with a;rw[<-a];exact hn
 ·exact h.out j fu x a
def mM(op:Int):Cz:=match gQ op with
 | none=>fI #[fM #[fF fN 0,fF fN 0,fF fN 0,fF fN 0],fF fN 0,fH gm]
 | some g=>fI #[gV g,fF fN (op - g.1),fH gj]
theorem qw(op:Int)(w:Cx)(h1 : -9223372036854775808<=op)(h2:op<=9223372036854775807):Cv fZ 122 #[.int .i64 op] w fun e w'=>e = .returned (mM op)/\Ck w.heap.size w w':=by
 go_in;go_wp2_with fail;refine(cVb _).mono ?_;rintro e w1 ⟨rfl,rfl⟩;go_wp2_with fail;have u:=fQ (show Ck w.heap.size w ((w.alloc (.cells #[.int .i64 0,.int .i64 0,.int .i64 0,.int .i64 0] 181)).alloc (.cells uW 181))from((Ax _ _).alloc (Aj _) _).alloc fz _)
 have x:=fQ (show gO ((w.alloc (fP #[fF fN 0,fF fN 0,fF fN 0,fF fN 0] 181)).alloc (fP uW 181)) w.heap.size 181 #[fF fN 0,fF fN 0,fF fN 0,fF fN 0]from
  (gO.a4 w 181 _).C ((Ax (w.heap.size+1) _).alloc fz _) fu)
 have y:=fQ (show gO ((w.alloc (fP #[fF fN 0,fF fN 0,fF fN 0,fF fN 0] 181)).alloc (fP uW 181)) (w.heap.size+1) 181 uW from by
  have:=gO.a4 (w.alloc (fP #[fF fN 0,fF fN 0,fF fN 0,fF fN 0] 181)) 181 uW
  simpa using this)
 go_loopw [9] (fun i wr=>eKh w (w.heap.size+1) op w.heap.size i wr) (fun i _=>13 - (intOf i).toNat)
 case atStart=>exact⟨0,fu,rfl,fQ (fun j hj=>fu),y,x,u⟩
 case round=>
  clear u x y;obtain⟨k,hk,rfl,o,g,f,q⟩:=hrel;by_cases s:k<12
  ·have ah:decide ((k:Int)<12)=gj:=fw;obtain⟨a,b,c,d,hg,e0,z,e2,A,al,an,ao,aq⟩:=fQp k s;have c0:=(g.out.cell (k*4)).trans e0;have c1:=(g.out.cell (k*4+1)).trans z;have c2:=(g.out.cell (k*4+2)).trans e2;have c3:=(g.out.cell (k*4+3)).trans A;have t:=fQ hg;have ar:w.heap.size+1<wr.heap.size:=g.out.lt;have B:w.heap.size<wr.heap.size:=fu;have h:=f.out.cell 0;have l:=f.out.cell 1;have m:=f.out.cell 2;have n:=f.out.cell 3;simp at h l m n;have C:=frozen_of_row wr w.heap.size 0 _ _ f.out;have D:=frozen_of_row wr w.heap.size 1 _ _ f.out;have E:=frozen_of_row wr w.heap.size 2 _ _ f.out;have F:=frozen_of_row wr w.heap.size 3 _ _ f.out;clear e0 z e2 A hg;by_cases q1:a<=op
   ·by_cases r:op - a<b
    ·go_wp2_with fail;go_region;go_wp2;refine bodyPost_ret (v:=fI #[fM #[fF fN a,fF fN b,fF fN c,fF fN d],fF fN (op - a),fH gj]) (by simp[results,results122,go_sem,B,h,l,m,n]) rfl ⟨?_,?_⟩
     ·rw[mM,qV o.out t.out (by simp[mC,q1,r])];rfl
     ·exact(((((q.out.setCell (p:=⟨w.heap.size,0,fU⟩) (Aj _) _).setCell (p:=⟨w.heap.size,1,fU⟩) (Aj _) _).setCell (p:=⟨w.heap.size,2,fU⟩) (Aj _) _).setCell (p:=⟨w.heap.size,3,fU⟩) (Aj _) _).alloc fw _).drew
    ·go_wp2;exact cJw o g f q t.out (by simp[mC,r]) s
   ·go_wp2;exact cJw o g f q t.out (by simp[mC,q1]) s
  ·obtain rfl:k=12:=fu;have h:=f.out.cell 0;have l:=f.out.cell 1;have m:=f.out.cell 2;have n:=f.out.cell 3;simp at h l m n;have C:=frozen_of_row wr w.heap.size 0 _ _ f.out;have D:=frozen_of_row wr w.heap.size 1 _ _ f.out;have E:=frozen_of_row wr w.heap.size 2 _ _ f.out;have F:=frozen_of_row wr w.heap.size 3 _ _ f.out;go_wp2;refine bodyPost_ret (v:=fI #[fM #[fF fN 0,fF fN 0,fF fN 0,fF fN 0],fF fN 0,fH gm]) (by simp[results,results122,go_sem,h,l,m,n]) rfl ⟨?_,?_⟩
   ·rw[mM,bZy o.out]
   ·exact(((q.out.setCell (p:=⟨w.heap.size,0,fU⟩) (Aj _) _).setCell (p:=⟨w.heap.size,1,fU⟩) (Aj _) _).setCell (p:=⟨w.heap.size,2,fU⟩) (Aj _) _).setCell (p:=⟨w.heap.size,3,fU⟩) (Aj _) _
def gJ(op:Int):List Int:=match gQ op with
 | none=>[]
 | some (_,_,c,d)=>if c=1\/c=3 then[d,d]else[d]
def mX(op:Int):Int:=match gQ op with
 | none=>0
 | some (_,_,c,d)=>if c=0\/c=1\/c=4 then 127 else if c=5 then 126 else d
def qz(l:List Int):List Cz:=l.map (Bz fN)
theorem pq{b c d:Int}(h:gQ op=gh (a,b,c,d)):(c=0\/c=1\/c=2\/c=3\/c=4\/c=5\/c=6)/\(d=126\/d=127)/\69<=a/\a<=op/\op - a<b/\b<=15/\a<=194:=by
 have e:=Aa h;have hp:=Be h;have f:∀ g∈uV,(g.2.2.1=0\/g.2.2.1=1\/g.2.2.1=2\/g.2.2.1=3\/g.2.2.1=4\/g.2.2.1=5\/g.2.2.1=6)/\(g.2.2.2=126\/g.2.2.2=127)/\69<=g.1/\g.2.1<=15/\g.1<=194:=fy;obtain⟨h1,h2,i,j,k⟩:=f _ e;simp[mC]at hp;exact⟨h1,h2,i,hp.1,hp.2,j,k⟩
def b01(b:Bool):Int:=if b then 1 else 0
def iK(t:Int)(n:Nat):Bool:=decide (t=126\/(t=127/\n<4294967296))
theorem qB:(fZ.info? 3).map (fun i=>(i.zero,i.size,i.bytes))=gh (gh (fF fN 0),1,8):=fx
theorem bKk(b:Bool)(w:Cx):Cv fZ 124 #[fH b] w fun e w'=>e = fR (fF fO (b01 b))/\w=w':=by
 cases b with
 | true=>
  go_in;go_wp2;go_ret;exact⟨rfl,rfl⟩
 | false=>
  go_in;go_wp2;go_ret;exact⟨rfl,rfl⟩
def mN(k:Int):Bool:=decide (3<=k/\k<=6)
theorem wW(k:Int)(w:Cx):Cv fZ 155 #[fF fN k] w fun e w'=>e = fR (fH (mN k))/\w=w':=by
 by_cases h1:3<=k
 ·have b:decide (3<=k)=gj:=(by simpa using h1);have a:=fQ (show mN k=decide (k<=6) by simp[mN,h1]);clear h1;go_in;go_wp2;go_ret;rw[a.out];exact⟨rfl,rfl⟩
 ·have b:decide (3<=k)=gm:=(by simpa using h1);have a:=fQ (show mN k=gm by simp[mN,h1]);clear h1;go_in;go_wp2;go_ret;rw[a.out];exact⟨rfl,rfl⟩
theorem bZb(t:Int)(n:Nat)(w:Cx)(hn:n<18446744073709551616):Cv fZ 25 #[fF fN t,fF fO n] w fun e w'=>e = fR (fH (iK t n))/\w=w':=by
 by_cases h2:t=127
 ·have b:(t == 127)=gj:=(by simp[h2]);have a:=fQ (show iK t n=((n:Int) / 4294967296 == 0) by rw[Bool.eq_iff_iff];simp[iK,h2];omega);clear h2;go_in;go_wp2;go_ret;rw[a.out];exact⟨rfl,rfl⟩
 ·have b:(t == 127)=gm:=(by simp[h2]);by_cases h1:t=126
  ·have c:(t == 126)=gj:=(by simp[h1]);have a:=fQ (show iK t n=gj by simp[iK,h1]);clear h1 h2;go_in;go_wp2;go_ret;rw[a.out];exact⟨rfl,rfl⟩
  ·have c:(t == 126)=gm:=(by simp[h1]);have a:=fQ (show iK t n=gm by simp[iK,h1,h2]);clear h1 h2;go_in;go_wp2;go_ret;rw[a.out];exact⟨rfl,rfl⟩
def qW(op:Int)(w:Cx)(e:Ending)(w':Cx):Prop:=
 ∃ A c,e = fR (fI #[fG A (gJ op).length c,fF fN (mX op),fH (gQ op).isSome])/\w'.ownsRow w.heap.size 3 1 (fG A (gJ op).length c) (gJ op).length (qz (gJ op))/\Ck w.heap.size w w'
theorem qC(op:Int)(w:Cx)(h1 : -9223372036854775808<=op)(h2:op<=9223372036854775807):Cv fZ 93 #[fF fN op] w (qW op w):=by
 cases hg:gQ op with
 | none=>
  have i:=fQ (show mM op = fI #[fM #[fF fN 0,fF fN 0,fF fN 0,fF fN 0],fF fN 0,fH gm] by simp[mM,hg]);have j:=fQ (show gJ op = [] by simp[gJ,hg]);have k:=fQ (show mX op=0 by simp[mX,hg]);have l:=fQ (show(gQ op).isSome=gm by simp[hg]);clear hg;go_in;go_wp2_with fail;refine(qw op _ h1 h2).mono ?_;rintro e w1 ⟨rfl,h⟩;rw[i.out];have f:=fQ h;clear h;go_wp2;go_ret3;unfold qW;rw[j.out,k.out,l.out];exact⟨fU,0,rfl,AQ _ _ _ _,f.alloc f.out.size _⟩
 | some g=>
  obtain⟨a,b,c,d⟩:=g;have i:=fQ (show mM op = fI #[fM #[fF fN a,fF fN b,fF fN c,fF fN d],fF fN (op - a),fH gj] by simp[mM,hg,gV]);have j:=fQ (show gJ op=if c=1\/c=3 then[d,d]else[d] by simp[gJ,hg]);have k:=fQ (show mX op=if c=0\/c=1\/c=4 then 127 else if c=5 then 126 else d by simp[mX,hg]);have l:=fQ (show(gQ op).isSome=gj by simp[hg]);obtain⟨hc,_,_,_,_,_,_⟩:=pq hg;clear hg;have q:(c=1\/c=3)\/(c=0\/c=2\/c=4\/c=5\/c=6):=fu;clear hc;rcases q with hc|hc
  ·rcases hc with rfl|rfl
   all_goals
    go_in;go_wp2_with fail;refine(qw op _ h1 h2).mono ?_;rintro e w1 ⟨rfl,h⟩;rw[i.out];have f:=fQ h;clear h;go_wp2_with fail;go_region;go_wp2_with (at_builtin;refine qv _ rfl (.tmp 28) (.tmp 31) 23 rfl (w1.heap.size+1) 3 (fF fN 0) 8 underlying23 qB rfl (.slice (gh ⟨w1.heap.size+1,0,fU⟩) 1 1) 1 [.int fN d] rfl ?_ (gh ⟨w1.heap.size+1+1,0,fU⟩) 1 1 [fF fN d] rfl ?_ (cJu _ _) (by unfold maxLen;omega) fu ?_ ?_)
    ·exact gO.own (n:=1) (cs:=#[fF fN d]) (((gO.X _ _ _ fz).alloc _).drew) (Aj _) rfl (by unfold maxLen;omega)
    ·exact gO.kE (cs:=#[fF fN d]) (gO.X _ _ _ fz).drew rfl
    ·simp
    rintro v w2 m o;have r:=o.cell (p:=⟨w1.heap.size,2,fU⟩) fz;simp at r;have s:=fQ (iQ m (by have:=f.out.size;omega:w.heap.size<=w1.heap.size+1));have t:=fQ (show Ck w.heap.size w w2 from((((f.alloc f.out.size _).alloc (by have:=f.out.size;simp;omega) _).alloc (by have:=f.out.size;simp;omega) _).drew).trans (o.mono (by have:=f.out.size;omega)));obtain⟨A2,c2,rfl,_⟩:=fJ m;clear m o;go_wp2;go_ret3;unfold qW;rw[j.out,k.out,l.out];exact⟨_,_,rfl,s.out,t.out⟩
  ·rcases hc with rfl|rfl|rfl|rfl|rfl
   all_goals
    go_in;go_wp2_with fail;refine(qw op _ h1 h2).mono ?_;rintro e w1 ⟨rfl,h⟩;rw[i.out];have f:=fQ h;clear h;go_wp2_with fail;go_region;go_wp2;go_ret3;unfold qW;rw[j.out,k.out,l.out];exact⟨_,_,rfl,gO.own (n:=1) (cs:=#[fF fN d]) (gO.X _ _ _ fz).drew (by have:=f.out.size;omega) rfl (by unfold maxLen;omega),((f.alloc f.out.size _).alloc (by have:=f.out.size;simp;omega) _).drew⟩
theorem nM(d:Int):(w.alloc (fP #[fF fN d,fF fN d] 3)).ownsRow w.heap.size 3 1 (fG (gh ⟨w.heap.size,0,fU⟩) 1 2) 1 (qz [d]):=
 ⟨by simp[qz],fT ⟨w.heap.size,2,#[fF fN d,fF fN d],rfl,Aj _,gO.a4 w 3 _,fu,by unfold maxLen;omega,fz,by simp[qz]⟩⟩
def inB(op a b:Int):Bool:=decide (a<=op/\op<=b)
theorem inT{b:Int}(h1:a<=op)(h2:op<=b):inB op a b=gj:=by simp[inB,h1,h2]
theorem iR{b:Int}(h:op<a\/b<op):inB op a b=gm:=by simp[inB];omega
theorem eqF(h:op<a\/a<op):(op == a)=gm:=fw
theorem pr(h1:a<=op)(h2:op<=a):(op == a)=gj:=fw
theorem jK(op a b:Int)(w:Cx):Cv fZ 139 #[fF fN op,fF fN a,fF fN b] w fun e w'=>e = fR (fH (inB op a b))/\w=w':=by
 by_cases h1:a<=op
 ·have d:decide (a<=op)=gj:=(by simpa using h1);have c:=fQ (show inB op a b=decide (op<=b) by simp[inB,h1]);clear h1;go_in;go_wp2;go_ret;rw[c.out];exact⟨rfl,rfl⟩
 ·have d:decide (a<=op)=gm:=(by simpa using h1);have c:=fQ (show inB op a b=gm by simp[inB,h1]);clear h1;go_in;go_wp2;go_ret;rw[c.out];exact⟨rfl,rfl⟩
theorem rW(op:Int):(gQ op=fU/\(op<69\/90<op)/\(op<103\/138<op)/\(op<167\/167<op)/\(op<172\/173<op)/\(op<192\/196<op))\/(gQ op=gh (69,1,0,127)/\69<=op/\op<=69)\/(gQ op=gh (70,10,1,127)/\70<=op/\op<=79)\/(gQ op=gh (80,1,0,126)/\80<=op/\op<=80)\/(gQ op=gh (81,10,1,126)/\81<=op/\op<=90)\/(gQ op=gh (103,3,2,127)/\103<=op/\op<=105)\/(gQ op=gh (106,15,3,127)/\106<=op/\op<=120)\/(gQ op=gh (121,3,2,126)/\121<=op/\op<=123)\/(gQ op=gh (124,15,3,126)/\124<=op/\op<=138)\/(gQ op=gh (167,1,4,126)/\167<=op/\op<=167)\/(gQ op=gh (172,2,5,127)/\172<=op/\op<=173)\/(gQ op=gh (192,2,6,127)/\192<=op/\op<=193)\/(gQ op=gh (194,3,6,126)/\194<=op/\op<=196):=by
 have key:∀ g:Int×Int×Int×Int,mC op g=decide (g.1<=op/\op - g.1<g.2.1):=fun g=>by simp[mC]
 by_cases c:69<=op/\op<=69
 ·refine fT (fS ⟨qV (k:=0) (fun j hj x a=>?_) (show uV[0]? = gh (69,1,0,127)from rfl) (by rw[key];simp;omega),c.1,c.2⟩);omega
 by_cases h1:70<=op/\op<=79
 ·refine fT (fT (fS ⟨qV (k:=1) (fun j hj x a=>?_) (show uV[1]? = gh (70,10,1,127)from rfl) (by rw[key];simp;omega),h1.1,h1.2⟩));have b:j=0:=fu;rcases b with rfl <;> (injection a with a;subst a;rw[key];simp;omega)
 by_cases h2:80<=op/\op<=80
 ·refine fT (fT (fT (fS ⟨qV (k:=2) (fun j hj x a=>?_) (show uV[2]? = gh (80,1,0,126)from rfl) (by rw[key];simp;omega),h2.1,h2.2⟩)));have b:j=0\/j=1:=fu;rcases b with rfl|rfl <;> (injection a with a;subst a;rw[key];simp;omega)
 by_cases d:81<=op/\op<=90
 ·refine fT (fT (fT (fT (fS ⟨qV (k:=3) (fun j hj x a=>?_) (show uV[3]? = gh (81,10,1,126)from rfl) (by rw[key];simp;omega),d.1,d.2⟩))));have b:j=0\/j=1\/j=2:=fu;rcases b with rfl|rfl|rfl <;> (injection a with a;subst a;rw[key];simp;omega)
 by_cases e:103<=op/\op<=105
 ·refine fT (fT (fT (fT (fT (fS ⟨qV (k:=4) (fun j hj x a=>?_) (show uV[4]? = gh (103,3,2,127)from rfl) (by rw[key];simp;omega),e.1,e.2⟩)))));have b:j=0\/j=1\/j=2\/j=3:=fu;rcases b with rfl|rfl|rfl|rfl <;> (injection a with a;subst a;rw[key];simp;omega)
 by_cases f:106<=op/\op<=120
 ·refine fT (fT (fT (fT (fT (fT (fS ⟨qV (k:=5) (fun j hj x a=>?_) (show uV[5]? = gh (106,15,3,127)from rfl) (by rw[key];simp;omega),f.1,f.2⟩))))));have b:j=0\/j=1\/j=2\/j=3\/j=4:=fu;rcases b with rfl|rfl|rfl|rfl|rfl <;> (injection a with a;subst a;rw[key];simp;omega)
 by_cases h:121<=op/\op<=123
 ·refine fT (fT (fT (fT (fT (fT (fT (fS ⟨qV (k:=6) (fun j hj x a=>?_) (show uV[6]? = gh (121,3,2,126)from rfl) (by rw[key];simp;omega),h.1,h.2⟩)))))));have b:j=0\/j=1\/j=2\/j=3\/j=4\/j=5:=fu;rcases b with rfl|rfl|rfl|rfl|rfl|rfl <;> (injection a with a;subst a;rw[key];simp;omega)
 by_cases i:124<=op/\op<=138
 ·refine fT (fT (fT (fT (fT (fT (fT (fT (fS ⟨qV (k:=7) (fun j hj x a=>?_) (show uV[7]? = gh (124,15,3,126)from rfl) (by rw[key];simp;omega),i.1,i.2⟩))))))));have b:j=0\/j=1\/j=2\/j=3\/j=4\/j=5\/j=6:=fu;rcases b with rfl|rfl|rfl|rfl|rfl|rfl|rfl <;> (injection a with a;subst a;rw[key];simp;omega)
 by_cases l:167<=op/\op<=167
 ·refine fT (fT (fT (fT (fT (fT (fT (fT (fT (fS ⟨qV (k:=8) (fun j hj x a=>?_) (show uV[8]? = gh (167,1,4,126)from rfl) (by rw[key];simp;omega),l.1,l.2⟩)))))))));have b:j=0\/j=1\/j=2\/j=3\/j=4\/j=5\/j=6\/j=7:=fu;rcases b with rfl|rfl|rfl|rfl|rfl|rfl|rfl|rfl <;> (injection a with a;subst a;rw[key];simp;omega)
 by_cases m:172<=op/\op<=173
 ·refine fT (fT (fT (fT (fT (fT (fT (fT (fT (fT (fS ⟨qV (k:=9) (fun j hj x a=>?_) (show uV[9]? = gh (172,2,5,127)from rfl) (by rw[key];simp;omega),m.1,m.2⟩))))))))));have b:j=0\/j=1\/j=2\/j=3\/j=4\/j=5\/j=6\/j=7\/j=8:=fu;rcases b with rfl|rfl|rfl|rfl|rfl|rfl|rfl|rfl|rfl <;> (injection a with a;subst a;rw[key];simp;omega)
 by_cases n:192<=op/\op<=193
 ·refine fT (fT (fT (fT (fT (fT (fT (fT (fT (fT (fT (fS ⟨qV (k:=10) (fun j hj x a=>?_) (show uV[10]? = gh (192,2,6,127)from rfl) (by rw[key];simp;omega),n.1,n.2⟩)))))))))));have b:j=0\/j=1\/j=2\/j=3\/j=4\/j=5\/j=6\/j=7\/j=8\/j=9:=fu;rcases b with rfl|rfl|rfl|rfl|rfl|rfl|rfl|rfl|rfl|rfl <;> (injection a with a;subst a;rw[key];simp;omega)
 by_cases o:194<=op/\op<=196
 ·refine fT (fT (fT (fT (fT (fT (fT (fT (fT (fT (fT (fT (⟨qV (k:=11) (fun j hj x a=>?_) (show uV[11]? = gh (194,3,6,126)from rfl) (by rw[key];simp;omega),o.1,o.2⟩))))))))))));have b:j=0\/j=1\/j=2\/j=3\/j=4\/j=5\/j=6\/j=7\/j=8\/j=9\/j=10:=fu;rcases b with rfl|rfl|rfl|rfl|rfl|rfl|rfl|rfl|rfl|rfl|rfl <;> (injection a with a;subst a;rw[key];simp;omega)
 refine fS ⟨bZy (fun j hj x a=>?_),fu,fu,fu,fu,fu⟩;have b:j=0\/j=1\/j=2\/j=3\/j=4\/j=5\/j=6\/j=7\/j=8\/j=9\/j=10\/j=11:=fu;rcases b with rfl|rfl|rfl|rfl|rfl|rfl|rfl|rfl|rfl|rfl|rfl|rfl <;> (injection a with a;subst a;rw[key];simp;omega)
def jF(op:Int):Int:=match gQ op with
 | none=>0
 | some g=>g.2.2.2
theorem xW(op:Int)(w:Cx):Cv fZ 160 #[fF fN op] w fun e w'=>e = fR (fF fN (jF op))/\w=w':=by
 rcases rW op with⟨hg,b,c,o,p,q⟩|⟨hg,b,c⟩|⟨hg,b,c⟩|⟨hg,b,c⟩|⟨hg,b,c⟩|⟨hg,b,c⟩|⟨hg,b,c⟩|⟨hg,b,c⟩|⟨hg,b,c⟩|⟨hg,b,c⟩|⟨hg,b,c⟩|⟨hg,b,c⟩|⟨hg,b,c⟩
 ·have a:=fQ (show jF op=0 by simp[jF,hg]);have d:inB op 69 79=gm:=iR fu;have f:inB op 103 120=gm:=iR fu;have j:(op == 172)=gm:=eqF fu;have k:(op == 173)=gm:=eqF fu;have l:(op == 192)=gm:=eqF fu;have m:(op == 193)=gm:=eqF fu;have g:inB op 80 90=gm:=iR fu;have h:inB op 121 138=gm:=iR fu;have n:(op == 167)=gm:=eqF fu;have i:inB op 194 196=gm:=iR fu;clear hg b c o p q;go_in;go_wp2_with (go_at_call 139;refine gu (jK _ _ _ _) ?_);go_ret;rw[a.out];exact⟨rfl,rfl⟩
 ·have a:=fQ (show jF op=127 by simp[jF,hg]);have d:inB op 69 79=gj:=inT fu fu;clear hg b c;go_in;go_wp2_with (go_at_call 139;refine gu (jK _ _ _ _) ?_);go_ret;rw[a.out];exact⟨rfl,rfl⟩
 ·have a:=fQ (show jF op=127 by simp[jF,hg]);have d:inB op 69 79=gj:=inT fu fu;clear hg b c;go_in;go_wp2_with (go_at_call 139;refine gu (jK _ _ _ _) ?_);go_ret;rw[a.out];exact⟨rfl,rfl⟩
 ·have a:=fQ (show jF op=126 by simp[jF,hg]);have d:inB op 69 79=gm:=iR fu;have f:inB op 103 120=gm:=iR fu;have j:(op == 172)=gm:=eqF fu;have k:(op == 173)=gm:=eqF fu;have l:(op == 192)=gm:=eqF fu;have m:(op == 193)=gm:=eqF fu;have g:inB op 80 90=gj:=inT fu fu;clear hg b c;go_in;go_wp2_with (go_at_call 139;refine gu (jK _ _ _ _) ?_);go_ret;rw[a.out];exact⟨rfl,rfl⟩
 ·have a:=fQ (show jF op=126 by simp[jF,hg]);have d:inB op 69 79=gm:=iR fu;have f:inB op 103 120=gm:=iR fu;have j:(op == 172)=gm:=eqF fu;have k:(op == 173)=gm:=eqF fu;have l:(op == 192)=gm:=eqF fu;have m:(op == 193)=gm:=eqF fu;have g:inB op 80 90=gj:=inT fu fu;clear hg b c;go_in;go_wp2_with (go_at_call 139;refine gu (jK _ _ _ _) ?_);go_ret;rw[a.out];exact⟨rfl,rfl⟩
 ·have a:=fQ (show jF op=127 by simp[jF,hg]);have d:inB op 69 79=gm:=iR fu;have f:inB op 103 120=gj:=inT fu fu;clear hg b c;go_in;go_wp2_with (go_at_call 139;refine gu (jK _ _ _ _) ?_);go_ret;rw[a.out];exact⟨rfl,rfl⟩
 ·have a:=fQ (show jF op=127 by simp[jF,hg]);have d:inB op 69 79=gm:=iR fu;have f:inB op 103 120=gj:=inT fu fu;clear hg b c;go_in;go_wp2_with (go_at_call 139;refine gu (jK _ _ _ _) ?_);go_ret;rw[a.out];exact⟨rfl,rfl⟩
 ·have a:=fQ (show jF op=126 by simp[jF,hg]);have d:inB op 69 79=gm:=iR fu;have f:inB op 103 120=gm:=iR fu;have j:(op == 172)=gm:=eqF fu;have k:(op == 173)=gm:=eqF fu;have l:(op == 192)=gm:=eqF fu;have m:(op == 193)=gm:=eqF fu;have g:inB op 80 90=gm:=iR fu;have h:inB op 121 138=gj:=inT fu fu;clear hg b c;go_in;go_wp2_with (go_at_call 139;refine gu (jK _ _ _ _) ?_);go_ret;rw[a.out];exact⟨rfl,rfl⟩
 ·have a:=fQ (show jF op=126 by simp[jF,hg]);have d:inB op 69 79=gm:=iR fu;have f:inB op 103 120=gm:=iR fu;have j:(op == 172)=gm:=eqF fu;have k:(op == 173)=gm:=eqF fu;have l:(op == 192)=gm:=eqF fu;have m:(op == 193)=gm:=eqF fu;have g:inB op 80 90=gm:=iR fu;have h:inB op 121 138=gj:=inT fu fu;clear hg b c;go_in;go_wp2_with (go_at_call 139;refine gu (jK _ _ _ _) ?_);go_ret;rw[a.out];exact⟨rfl,rfl⟩
 ·have a:=fQ (show jF op=126 by simp[jF,hg]);have d:inB op 69 79=gm:=iR fu;have f:inB op 103 120=gm:=iR fu;have j:(op == 172)=gm:=eqF fu;have k:(op == 173)=gm:=eqF fu;have l:(op == 192)=gm:=eqF fu;have m:(op == 193)=gm:=eqF fu;have g:inB op 80 90=gm:=iR fu;have h:inB op 121 138=gm:=iR fu;have n:(op == 167)=gj:=pr fu fu;clear hg b c;go_in;go_wp2_with (go_at_call 139;refine gu (jK _ _ _ _) ?_);go_ret;rw[a.out];exact⟨rfl,rfl⟩
 ·rcases(show op=172\/op=173 by omega)with rfl|rfl
  ·have a:=fQ (show jF 172=127 by simp[jF,hg]);clear hg b c;have d:inB 172 69 79=gm:=fy;have f:inB 172 103 120=gm:=fy;go_in;go_wp2_with (go_at_call 139;refine gu (jK _ _ _ _) ?_);go_ret;rw[a.out];exact⟨rfl,rfl⟩
  ·have a:=fQ (show jF 173=127 by simp[jF,hg]);clear hg b c;have d:inB 173 69 79=gm:=fy;have f:inB 173 103 120=gm:=fy;go_in;go_wp2_with (go_at_call 139;refine gu (jK _ _ _ _) ?_);go_ret;rw[a.out];exact⟨rfl,rfl⟩
 ·rcases(show op=192\/op=193 by omega)with rfl|rfl
  ·have a:=fQ (show jF 192=127 by simp[jF,hg]);clear hg b c;have d:inB 192 69 79=gm:=fy;have f:inB 192 103 120=gm:=fy;go_in;go_wp2_with (go_at_call 139;refine gu (jK _ _ _ _) ?_);go_ret;rw[a.out];exact⟨rfl,rfl⟩
  ·have a:=fQ (show jF 193=127 by simp[jF,hg]);clear hg b c;have d:inB 193 69 79=gm:=fy;have f:inB 193 103 120=gm:=fy;go_in;go_wp2_with (go_at_call 139;refine gu (jK _ _ _ _) ?_);go_ret;rw[a.out];exact⟨rfl,rfl⟩
 ·have a:=fQ (show jF op=126 by simp[jF,hg]);have d:inB op 69 79=gm:=iR fu;have f:inB op 103 120=gm:=iR fu;have j:(op == 172)=gm:=eqF fu;have k:(op == 173)=gm:=eqF fu;have l:(op == 192)=gm:=eqF fu;have m:(op == 193)=gm:=eqF fu;have g:inB op 80 90=gm:=iR fu;have h:inB op 121 138=gm:=iR fu;have n:(op == 167)=gm:=eqF fu;have i:inB op 194 196=gj:=inT fu fu;clear hg b c;go_in;go_wp2_with (go_at_call 139;refine gu (jK _ _ _ _) ?_);go_ret;rw[a.out];exact⟨rfl,rfl⟩
def jM(op:Int):Bool:=match gQ op with
 | none=>gm
 | some g=>decide (g.2.2.1≠1/\g.2.2.1≠3)
theorem rY(op:Int)(w:Cx)(hs:gQ op≠fU):Cv fZ 161 #[fF fN op] w fun e w'=>e = fR (fH (jM op))/\w=w':=by
 rcases rW op with⟨hg,a,b,z3,z4,z5⟩|⟨hg,a,b⟩|⟨hg,a,b⟩|⟨hg,a,b⟩|⟨hg,a,b⟩|⟨hg,a,b⟩|⟨hg,a,b⟩|⟨hg,a,b⟩|⟨hg,a,b⟩|⟨hg,a,b⟩|⟨hg,a,b⟩|⟨hg,a,b⟩|⟨hg,a,b⟩
 ·exact gH hg hs
 ·have c:=fQ (show jM op=gj by simp[jM,hg]);have d:(op == 69)=gj:=pr fu fu;clear hs hg a b;go_in;go_wp2_with (go_at_call 139;refine gu (jK _ _ _ _) ?_);go_ret;rw[c.out];exact⟨rfl,rfl⟩
 ·have c:=fQ (show jM op=gm by simp[jM,hg]);have d:(op == 69)=gm:=eqF fu;have f:(op == 80)=gm:=eqF fu;have g:inB op 103 105=gm:=iR fu;have h:inB op 121 123=gm:=iR fu;have i:decide (167<=op)=gm:=fw;clear hs hg a b;go_in;go_wp2_with (go_at_call 139;refine gu (jK _ _ _ _) ?_);go_ret;rw[c.out];exact⟨rfl,rfl⟩
 ·have c:=fQ (show jM op=gj by simp[jM,hg]);have d:(op == 69)=gm:=eqF fu;have f:(op == 80)=gj:=pr fu fu;clear hs hg a b;go_in;go_wp2_with (go_at_call 139;refine gu (jK _ _ _ _) ?_);go_ret;rw[c.out];exact⟨rfl,rfl⟩
 ·have c:=fQ (show jM op=gm by simp[jM,hg]);have d:(op == 69)=gm:=eqF fu;have f:(op == 80)=gm:=eqF fu;have g:inB op 103 105=gm:=iR fu;have h:inB op 121 123=gm:=iR fu;have i:decide (167<=op)=gm:=fw;clear hs hg a b;go_in;go_wp2_with (go_at_call 139;refine gu (jK _ _ _ _) ?_);go_ret;rw[c.out];exact⟨rfl,rfl⟩
 ·have c:=fQ (show jM op=gj by simp[jM,hg]);have d:(op == 69)=gm:=eqF fu;have f:(op == 80)=gm:=eqF fu;have g:inB op 103 105=gj:=inT fu fu;clear hs hg a b;go_in;go_wp2_with (go_at_call 139;refine gu (jK _ _ _ _) ?_);go_ret;rw[c.out];exact⟨rfl,rfl⟩
 ·have c:=fQ (show jM op=gm by simp[jM,hg]);have d:(op == 69)=gm:=eqF fu;have f:(op == 80)=gm:=eqF fu;have g:inB op 103 105=gm:=iR fu;have h:inB op 121 123=gm:=iR fu;have i:decide (167<=op)=gm:=fw;clear hs hg a b;go_in;go_wp2_with (go_at_call 139;refine gu (jK _ _ _ _) ?_);go_ret;rw[c.out];exact⟨rfl,rfl⟩
 ·have c:=fQ (show jM op=gj by simp[jM,hg]);have d:(op == 69)=gm:=eqF fu;have f:(op == 80)=gm:=eqF fu;have g:inB op 103 105=gm:=iR fu;have h:inB op 121 123=gj:=inT fu fu;clear hs hg a b;go_in;go_wp2_with (go_at_call 139;refine gu (jK _ _ _ _) ?_);go_ret;rw[c.out];exact⟨rfl,rfl⟩
 ·have c:=fQ (show jM op=gm by simp[jM,hg]);have d:(op == 69)=gm:=eqF fu;have f:(op == 80)=gm:=eqF fu;have g:inB op 103 105=gm:=iR fu;have h:inB op 121 123=gm:=iR fu;have i:decide (167<=op)=gm:=fw;clear hs hg a b;go_in;go_wp2_with (go_at_call 139;refine gu (jK _ _ _ _) ?_);go_ret;rw[c.out];exact⟨rfl,rfl⟩
 ·have c:=fQ (show jM op=gj by simp[jM,hg]);have d:(op == 69)=gm:=eqF fu;have f:(op == 80)=gm:=eqF fu;have g:inB op 103 105=gm:=iR fu;have h:inB op 121 123=gm:=iR fu;have i:decide (167<=op)=gj:=fw;clear hs hg a b;go_in;go_wp2_with (go_at_call 139;refine gu (jK _ _ _ _) ?_);go_ret;rw[c.out];exact⟨rfl,rfl⟩
 ·have c:=fQ (show jM op=gj by simp[jM,hg]);have d:(op == 69)=gm:=eqF fu;have f:(op == 80)=gm:=eqF fu;have g:inB op 103 105=gm:=iR fu;have h:inB op 121 123=gm:=iR fu;have i:decide (167<=op)=gj:=fw;clear hs hg a b;go_in;go_wp2_with (go_at_call 139;refine gu (jK _ _ _ _) ?_);go_ret;rw[c.out];exact⟨rfl,rfl⟩
 ·have c:=fQ (show jM op=gj by simp[jM,hg]);have d:(op == 69)=gm:=eqF fu;have f:(op == 80)=gm:=eqF fu;have g:inB op 103 105=gm:=iR fu;have h:inB op 121 123=gm:=iR fu;have i:decide (167<=op)=gj:=fw;clear hs hg a b;go_in;go_wp2_with (go_at_call 139;refine gu (jK _ _ _ _) ?_);go_ret;rw[c.out];exact⟨rfl,rfl⟩
 ·have c:=fQ (show jM op=gj by simp[jM,hg]);have d:(op == 69)=gm:=eqF fu;have f:(op == 80)=gm:=eqF fu;have g:inB op 103 105=gm:=iR fu;have h:inB op 121 123=gm:=iR fu;have i:decide (167<=op)=gj:=fw;clear hs hg a b;go_in;go_wp2_with (go_at_call 139;refine gu (jK _ _ _ _) ?_);go_ret;rw[c.out];exact⟨rfl,rfl⟩
theorem kV(op:Int)(w:Cx):Cv fZ 135 #[fF fN op] w (qW op w):=by
 rcases rW op with⟨hg,f,g,o,p,q⟩|⟨hg,f,g⟩|⟨hg,f,g⟩|⟨hg,f,g⟩|⟨hg,f,g⟩|⟨hg,f,g⟩|⟨hg,f,g⟩|⟨hg,f,g⟩|⟨hg,f,g⟩|⟨hg,f,g⟩|⟨hg,f,g⟩|⟨hg,f,g⟩|⟨hg,f,g⟩
 ·have a:=fQ (show jF op=0 by simp[jF,hg]);have b:=fQ (show gJ op = [] by simp[gJ,hg]);have c:=fQ (show mX op=0 by simp[mX,hg]);have d:=fQ (show(gQ op).isSome=gm by simp[hg]);clear hg f g o p q;go_in;go_wp2_with fail;refine gu (xW op _) ?_;rw[a.out];go_wp2;go_ret3;unfold qW;rw[b.out,c.out,d.out];exact⟨fU,0,rfl,AQ _ _ _ _,Ax _ _⟩
 ·have a:=fQ (show jF op=127 by simp[jF,hg]);have h:=fQ (show jM op=gj by simp[jM,hg]);have b:=fQ (show gJ op = [127] by simp[gJ,hg]);have c:=fQ (show mX op=127 by simp[mX,hg]);have d:=fQ (show(gQ op).isSome=gj by simp[hg]);have i:=fQ (show gQ op≠fU by simp[hg]);have j:inB op 69 90=gj:=inT fu fu;have l:(op == 172)=gm:=eqF fu;have m:(op == 173)=gm:=eqF fu;clear hg f g;go_in;go_wp2_with fail;refine gu (xW op _) ?_;rw[a.out];go_wp2_with fail;refine gu (rY op _ i.out) ?_;rw[h.out];go_wp2_with (go_at_call 139;refine gu (jK _ _ _ _) ?_);go_ret3;unfold qW;rw[b.out,c.out,d.out];exact⟨_,_,rfl,nM 127,(Ax _ _).alloc (Aj _) _⟩
 ·have a:=fQ (show jF op=127 by simp[jF,hg]);have h:=fQ (show jM op=gm by simp[jM,hg]);have b:=fQ (show gJ op = [127,127] by simp[gJ,hg]);have c:=fQ (show mX op=127 by simp[mX,hg]);have d:=fQ (show(gQ op).isSome=gj by simp[hg]);have i:=fQ (show gQ op≠fU by simp[hg]);have j:inB op 69 90=gj:=inT fu fu;have l:(op == 172)=gm:=eqF fu;have m:(op == 173)=gm:=eqF fu;clear hg f g;go_in;go_wp2_with fail;refine gu (xW op _) ?_;rw[a.out];go_wp2_with fail;refine gu (rY op _ i.out) ?_;rw[h.out];go_wp2_with (go_at_call 139;refine gu (jK _ _ _ _) ?_);go_ret3;unfold qW;rw[b.out,c.out,d.out];exact⟨_,_,rfl,gO.own (n:=2) (cs:=#[fF fN 127,fF fN 127]) (gO.X _ _ _ rfl) (Aj _) rfl (by unfold maxLen;omega),(Ax _ _).alloc (Aj _) _⟩
 ·have a:=fQ (show jF op=126 by simp[jF,hg]);have h:=fQ (show jM op=gj by simp[jM,hg]);have b:=fQ (show gJ op = [126] by simp[gJ,hg]);have c:=fQ (show mX op=127 by simp[mX,hg]);have d:=fQ (show(gQ op).isSome=gj by simp[hg]);have i:=fQ (show gQ op≠fU by simp[hg]);have j:inB op 69 90=gj:=inT fu fu;have l:(op == 172)=gm:=eqF fu;have m:(op == 173)=gm:=eqF fu;clear hg f g;go_in;go_wp2_with fail;refine gu (xW op _) ?_;rw[a.out];go_wp2_with fail;refine gu (rY op _ i.out) ?_;rw[h.out];go_wp2_with (go_at_call 139;refine gu (jK _ _ _ _) ?_);go_ret3;unfold qW;rw[b.out,c.out,d.out];exact⟨_,_,rfl,nM 126,(Ax _ _).alloc (Aj _) _⟩
 ·have a:=fQ (show jF op=126 by simp[jF,hg]);have h:=fQ (show jM op=gm by simp[jM,hg]);have b:=fQ (show gJ op = [126,126] by simp[gJ,hg]);have c:=fQ (show mX op=127 by simp[mX,hg]);have d:=fQ (show(gQ op).isSome=gj by simp[hg]);have i:=fQ (show gQ op≠fU by simp[hg]);have j:inB op 69 90=gj:=inT fu fu;have l:(op == 172)=gm:=eqF fu;have m:(op == 173)=gm:=eqF fu;clear hg f g;go_in;go_wp2_with fail;refine gu (xW op _) ?_;rw[a.out];go_wp2_with fail;refine gu (rY op _ i.out) ?_;rw[h.out];go_wp2_with (go_at_call 139;refine gu (jK _ _ _ _) ?_);go_ret3;unfold qW;rw[b.out,c.out,d.out];exact⟨_,_,rfl,gO.own (n:=2) (cs:=#[fF fN 126,fF fN 126]) (gO.X _ _ _ rfl) (Aj _) rfl (by unfold maxLen;omega),(Ax _ _).alloc (Aj _) _⟩
 ·have a:=fQ (show jF op=127 by simp[jF,hg]);have h:=fQ (show jM op=gj by simp[jM,hg]);have b:=fQ (show gJ op = [127] by simp[gJ,hg]);have c:=fQ (show mX op=127 by simp[mX,hg]);have d:=fQ (show(gQ op).isSome=gj by simp[hg]);have i:=fQ (show gQ op≠fU by simp[hg]);have j:inB op 69 90=gm:=iR fu;have k:(op == 167)=gm:=eqF fu;have l:(op == 172)=gm:=eqF fu;have m:(op == 173)=gm:=eqF fu;clear hg f g;go_in;go_wp2_with fail;refine gu (xW op _) ?_;rw[a.out];go_wp2_with fail;refine gu (rY op _ i.out) ?_;rw[h.out];go_wp2_with (go_at_call 139;refine gu (jK _ _ _ _) ?_);go_ret3;unfold qW;rw[b.out,c.out,d.out];exact⟨_,_,rfl,nM 127,(Ax _ _).alloc (Aj _) _⟩
 ·have a:=fQ (show jF op=127 by simp[jF,hg]);have h:=fQ (show jM op=gm by simp[jM,hg]);have b:=fQ (show gJ op = [127,127] by simp[gJ,hg]);have c:=fQ (show mX op=127 by simp[mX,hg]);have d:=fQ (show(gQ op).isSome=gj by simp[hg]);have i:=fQ (show gQ op≠fU by simp[hg]);have j:inB op 69 90=gm:=iR fu;have k:(op == 167)=gm:=eqF fu;have l:(op == 172)=gm:=eqF fu;have m:(op == 173)=gm:=eqF fu;clear hg f g;go_in;go_wp2_with fail;refine gu (xW op _) ?_;rw[a.out];go_wp2_with fail;refine gu (rY op _ i.out) ?_;rw[h.out];go_wp2_with (go_at_call 139;refine gu (jK _ _ _ _) ?_);go_ret3;unfold qW;rw[b.out,c.out,d.out];exact⟨_,_,rfl,gO.own (n:=2) (cs:=#[fF fN 127,fF fN 127]) (gO.X _ _ _ rfl) (Aj _) rfl (by unfold maxLen;omega),(Ax _ _).alloc (Aj _) _⟩
 ·have a:=fQ (show jF op=126 by simp[jF,hg]);have h:=fQ (show jM op=gj by simp[jM,hg]);have b:=fQ (show gJ op = [126] by simp[gJ,hg]);have c:=fQ (show mX op=126 by simp[mX,hg]);have d:=fQ (show(gQ op).isSome=gj by simp[hg]);have i:=fQ (show gQ op≠fU by simp[hg]);have j:inB op 69 90=gm:=iR fu;have k:(op == 167)=gm:=eqF fu;have l:(op == 172)=gm:=eqF fu;have m:(op == 173)=gm:=eqF fu;clear hg f g;go_in;go_wp2_with fail;refine gu (xW op _) ?_;rw[a.out];go_wp2_with fail;refine gu (rY op _ i.out) ?_;rw[h.out];go_wp2_with (go_at_call 139;refine gu (jK _ _ _ _) ?_);go_ret3;unfold qW;rw[b.out,c.out,d.out];exact⟨_,_,rfl,nM 126,(Ax _ _).alloc (Aj _) _⟩
 ·have a:=fQ (show jF op=126 by simp[jF,hg]);have h:=fQ (show jM op=gm by simp[jM,hg]);have b:=fQ (show gJ op = [126,126] by simp[gJ,hg]);have c:=fQ (show mX op=126 by simp[mX,hg]);have d:=fQ (show(gQ op).isSome=gj by simp[hg]);have i:=fQ (show gQ op≠fU by simp[hg]);have j:inB op 69 90=gm:=iR fu;have k:(op == 167)=gm:=eqF fu;have l:(op == 172)=gm:=eqF fu;have m:(op == 173)=gm:=eqF fu;clear hg f g;go_in;go_wp2_with fail;refine gu (xW op _) ?_;rw[a.out];go_wp2_with fail;refine gu (rY op _ i.out) ?_;rw[h.out];go_wp2_with (go_at_call 139;refine gu (jK _ _ _ _) ?_);go_ret3;unfold qW;rw[b.out,c.out,d.out];exact⟨_,_,rfl,gO.own (n:=2) (cs:=#[fF fN 126,fF fN 126]) (gO.X _ _ _ rfl) (Aj _) rfl (by unfold maxLen;omega),(Ax _ _).alloc (Aj _) _⟩
 ·have a:=fQ (show jF op=126 by simp[jF,hg]);have h:=fQ (show jM op=gj by simp[jM,hg]);have b:=fQ (show gJ op = [126] by simp[gJ,hg]);have c:=fQ (show mX op=127 by simp[mX,hg]);have d:=fQ (show(gQ op).isSome=gj by simp[hg]);have i:=fQ (show gQ op≠fU by simp[hg]);have j:inB op 69 90=gm:=iR fu;have k:(op == 167)=gj:=pr fu fu;have l:(op == 172)=gm:=eqF fu;have m:(op == 173)=gm:=eqF fu;clear hg f g;go_in;go_wp2_with fail;refine gu (xW op _) ?_;rw[a.out];go_wp2_with fail;refine gu (rY op _ i.out) ?_;rw[h.out];go_wp2_with (go_at_call 139;refine gu (jK _ _ _ _) ?_);go_ret3;unfold qW;rw[b.out,c.out,d.out];exact⟨_,_,rfl,nM 126,(Ax _ _).alloc (Aj _) _⟩
 ·rcases(show op=172\/op=173 by omega)with rfl|rfl
  ·have a:=fQ (show jF 172=127 by simp[jF,hg]);have h:=fQ (show jM 172=gj by simp[jM,hg]);have b:=fQ (show gJ 172 = [127] by simp[gJ,hg]);have c:=fQ (show mX 172=126 by simp[mX,hg]);have d:=fQ (show(gQ 172).isSome=gj by simp[hg]);have i:=fQ (show gQ 172≠fU by simp[hg]);have j:inB 172 69 90=gm:=fy;clear hg f g;go_in;go_wp2_with fail;refine gu (xW 172 _) ?_;rw[a.out];go_wp2_with fail;refine gu (rY 172 _ i.out) ?_;rw[h.out];go_wp2_with (go_at_call 139;refine gu (jK _ _ _ _) ?_);go_ret3;unfold qW;rw[b.out,c.out,d.out];exact⟨_,_,rfl,nM 127,(Ax _ _).alloc (Aj _) _⟩
  ·have a:=fQ (show jF 173=127 by simp[jF,hg]);have h:=fQ (show jM 173=gj by simp[jM,hg]);have b:=fQ (show gJ 173 = [127] by simp[gJ,hg]);have c:=fQ (show mX 173=126 by simp[mX,hg]);have d:=fQ (show(gQ 173).isSome=gj by simp[hg]);have i:=fQ (show gQ 173≠fU by simp[hg]);have j:inB 173 69 90=gm:=fy;clear hg f g;go_in;go_wp2_with fail;refine gu (xW 173 _) ?_;rw[a.out];go_wp2_with fail;refine gu (rY 173 _ i.out) ?_;rw[h.out];go_wp2_with (go_at_call 139;refine gu (jK _ _ _ _) ?_);go_ret3;unfold qW;rw[b.out,c.out,d.out];exact⟨_,_,rfl,nM 127,(Ax _ _).alloc (Aj _) _⟩
 ·have a:=fQ (show jF op=127 by simp[jF,hg]);have h:=fQ (show jM op=gj by simp[jM,hg]);have b:=fQ (show gJ op = [127] by simp[gJ,hg]);have c:=fQ (show mX op=127 by simp[mX,hg]);have d:=fQ (show(gQ op).isSome=gj by simp[hg]);have i:=fQ (show gQ op≠fU by simp[hg]);have j:inB op 69 90=gm:=iR fu;have k:(op == 167)=gm:=eqF fu;have l:(op == 172)=gm:=eqF fu;have m:(op == 173)=gm:=eqF fu;clear hg f g;go_in;go_wp2_with fail;refine gu (xW op _) ?_;rw[a.out];go_wp2_with fail;refine gu (rY op _ i.out) ?_;rw[h.out];go_wp2_with (go_at_call 139;refine gu (jK _ _ _ _) ?_);go_ret3;unfold qW;rw[b.out,c.out,d.out];exact⟨_,_,rfl,nM 127,(Ax _ _).alloc (Aj _) _⟩
 ·have a:=fQ (show jF op=126 by simp[jF,hg]);have h:=fQ (show jM op=gj by simp[jM,hg]);have b:=fQ (show gJ op = [126] by simp[gJ,hg]);have c:=fQ (show mX op=126 by simp[mX,hg]);have d:=fQ (show(gQ op).isSome=gj by simp[hg]);have i:=fQ (show gQ op≠fU by simp[hg]);have j:inB op 69 90=gm:=iR fu;have k:(op == 167)=gm:=eqF fu;have l:(op == 172)=gm:=eqF fu;have m:(op == 173)=gm:=eqF fu;clear hg f g;go_in;go_wp2_with fail;refine gu (xW op _) ?_;rw[a.out];go_wp2_with fail;refine gu (rY op _ i.out) ?_;rw[h.out];go_wp2_with (go_at_call 139;refine gu (jK _ _ _ _) ?_);go_ret3;unfold qW;rw[b.out,c.out,d.out];exact⟨_,_,rfl,nM 126,(Ax _ _).alloc (Aj _) _⟩
def rR(k w:Int)(st a:Bool):Cz:=fM #[fF fN k,fF fN w,fH st,fH a]
def oy:List (Int×Int×Int×Bool×Bool):=[
 (40,127,4,gm,gm),
 (41,126,8,gm,gm),
 (44,127,1,gm,gj),
 (45,127,1,gm,gm),
 (46,127,2,gm,gj),
 (47,127,2,gm,gm),
 (48,126,1,gm,gj),
 (49,126,1,gm,gm),
 (50,126,2,gm,gj),
 (51,126,2,gm,gm),
 (52,126,4,gm,gj),
 (53,126,4,gm,gm),
 (54,127,4,gj,gm),
 (55,126,8,gj,gm),
 (58,127,1,gj,gm),
 (59,127,2,gj,gm),
 (60,126,1,gj,gm),
 (61,126,2,gj,gm),
 (62,126,4,gj,gm)]
def qX:List (Int×Cz):=oy.map fun r=>(r.1,rR r.2.1 r.2.2.1 r.2.2.2.1 r.2.2.2.2)
def acc(op:Int):Option (Int×Int×Bool×Bool):=(oy.find? fun r=>decide (op=r.1)).map (·.2)
theorem aYf(op:Int):∀ (l:List (Int×Int×Int×Bool×Bool)) (j:Nat),
  (kK op (l.map fun r=>(r.1,rR r.2.1 r.2.2.1 r.2.2.2.1 r.2.2.2.2)) j).map (·.2)=(l.find? fun r=>decide (op=r.1)).map fun r=>rR r.2.1 r.2.2.1 r.2.2.2.1 r.2.2.2.2
 | [],_=>rfl
 | r :: l,j=>by
  simp only[Ak,kK,List.find?_cons];by_cases h:op=r.1
  ·simp[h]
  ·simp only[gy h,gE h];exact aYf op l (j+1)
theorem cVc(h:acc op=fU):kK op qX 0=fU:=by
 have h1:=aYf op oy 0;unfold acc at h;rw[Ai]at h;rw[h,Option.map_none,Ai]at h1;exact h1
theorem cYz{k wd:Int}{a:Bool}(h:acc op=gh (k,wd,st,a)):∃ j,kK op qX 0=gh (j,rR k wd st a):=by
 have h1:=aYf op oy 0;unfold acc at h;rw[AZ]at h;obtain⟨r,b,hv⟩:=h;rw[b,Option.map_some,AZ]at h1;obtain⟨p,hp,he⟩:=h1;refine⟨p.1,?_⟩;rw[hv]at he;show kK op (oy.map _) 0=_;rw[hp,<-he]
theorem mK{k wd:Int}{b:Bool}(h:acc op=gh (k,wd,st,b)):(k=127\/k=126)/\(wd=1\/wd=2\/wd=4\/wd=8)/\40<=op/\op<=62:=by
 unfold acc at h;rw[AZ]at h;obtain⟨r,a,hv⟩:=h;have c:=Aa a;have hp:=Be a;have d:∀ r∈oy,(r.2.1=127\/r.2.1=126)/\(r.2.2.1=1\/r.2.2.1=2\/r.2.2.1=4\/r.2.2.1=8)/\40<=r.1/\r.1<=62:=fy;have:=d r c;rw[hv]at this;simp at hp;rw[hp];exact this
def nJ(i:Nat):Obj:=lit (qX.take i)
theorem fVc(W:Cx):(Instr.mapUpdate 173 (.map (gh W.heap.size)) (fF fN 40) (fM #[fF fN 127,fF fN 4,fH gm,fH gm])).run fZ (W.alloc (nJ 0)) = .ok () (W.alloc (nJ 1)):=
 jJ W 173 3 171 (qX.take 0) 40 _ underlying173 underlying3 fC
theorem fVd(W:Cx):(Instr.mapUpdate 173 (.map (gh W.heap.size)) (fF fN 41) (fM #[fF fN 126,fF fN 8,fH gm,fH gm])).run fZ (W.alloc (nJ 1)) = .ok () (W.alloc (nJ 2)):=
 jJ W 173 3 171 (qX.take 1) 41 _ underlying173 underlying3 fC
theorem fVe(W:Cx):(Instr.mapUpdate 173 (.map (gh W.heap.size)) (fF fN 44) (fM #[fF fN 127,fF fN 1,fH gm,fH gj])).run fZ (W.alloc (nJ 2)) = .ok () (W.alloc (nJ 3)):=
 jJ W 173 3 171 (qX.take 2) 44 _ underlying173 underlying3 fC
theorem fVf(W:Cx):(Instr.mapUpdate 173 (.map (gh W.heap.size)) (fF fN 45) (fM #[fF fN 127,fF fN 1,fH gm,fH gm])).run fZ (W.alloc (nJ 3)) = .ok () (W.alloc (nJ 4)):=
 jJ W 173 3 171 (qX.take 3) 45 _ underlying173 underlying3 fC
theorem fVg(W:Cx):(Instr.mapUpdate 173 (.map (gh W.heap.size)) (fF fN 46) (fM #[fF fN 127,fF fN 2,fH gm,fH gj])).run fZ (W.alloc (nJ 4)) = .ok () (W.alloc (nJ 5)):=
 jJ W 173 3 171 (qX.take 4) 46 _ underlying173 underlying3 fC
theorem fVh(W:Cx):(Instr.mapUpdate 173 (.map (gh W.heap.size)) (fF fN 47) (fM #[fF fN 127,fF fN 2,fH gm,fH gm])).run fZ (W.alloc (nJ 5)) = .ok () (W.alloc (nJ 6)):=
 jJ W 173 3 171 (qX.take 5) 47 _ underlying173 underlying3 fC
theorem fVi(W:Cx):(Instr.mapUpdate 173 (.map (gh W.heap.size)) (fF fN 48) (fM #[fF fN 126,fF fN 1,fH gm,fH gj])).run fZ (W.alloc (nJ 6)) = .ok () (W.alloc (nJ 7)):=
 jJ W 173 3 171 (qX.take 6) 48 _ underlying173 underlying3 fC
theorem fVj(W:Cx):(Instr.mapUpdate 173 (.map (gh W.heap.size)) (fF fN 49) (fM #[fF fN 126,fF fN 1,fH gm,fH gm])).run fZ (W.alloc (nJ 7)) = .ok () (W.alloc (nJ 8)):=
 jJ W 173 3 171 (qX.take 7) 49 _ underlying173 underlying3 fC
theorem fVk(W:Cx):(Instr.mapUpdate 173 (.map (gh W.heap.size)) (fF fN 50) (fM #[fF fN 126,fF fN 2,fH gm,fH gj])).run fZ (W.alloc (nJ 8)) = .ok () (W.alloc (nJ 9)):=
 jJ W 173 3 171 (qX.take 8) 50 _ underlying173 underlying3 fC
theorem fVl(W:Cx):(Instr.mapUpdate 173 (.map (gh W.heap.size)) (fF fN 51) (fM #[fF fN 126,fF fN 2,fH gm,fH gm])).run fZ (W.alloc (nJ 9)) = .ok () (W.alloc (nJ 10)):=
 jJ W 173 3 171 (qX.take 9) 51 _ underlying173 underlying3 fC
theorem fJr(W:Cx):(Instr.mapUpdate 173 (.map (gh W.heap.size)) (fF fN 52) (fM #[fF fN 126,fF fN 4,fH gm,fH gj])).run fZ (W.alloc (nJ 10)) = .ok () (W.alloc (nJ 11)):=
 jJ W 173 3 171 (qX.take 10) 52 _ underlying173 underlying3 fC
theorem fJs(W:Cx):(Instr.mapUpdate 173 (.map (gh W.heap.size)) (fF fN 53) (fM #[fF fN 126,fF fN 4,fH gm,fH gm])).run fZ (W.alloc (nJ 11)) = .ok () (W.alloc (nJ 12)):=
 jJ W 173 3 171 (qX.take 11) 53 _ underlying173 underlying3 fC
theorem fJt(W:Cx):(Instr.mapUpdate 173 (.map (gh W.heap.size)) (fF fN 54) (fM #[fF fN 127,fF fN 4,fH gj,fH gm])).run fZ (W.alloc (nJ 12)) = .ok () (W.alloc (nJ 13)):=
 jJ W 173 3 171 (qX.take 12) 54 _ underlying173 underlying3 fC
theorem fJu(W:Cx):(Instr.mapUpdate 173 (.map (gh W.heap.size)) (fF fN 55) (fM #[fF fN 126,fF fN 8,fH gj,fH gm])).run fZ (W.alloc (nJ 13)) = .ok () (W.alloc (nJ 14)):=
 jJ W 173 3 171 (qX.take 13) 55 _ underlying173 underlying3 fC
theorem fJv(W:Cx):(Instr.mapUpdate 173 (.map (gh W.heap.size)) (fF fN 58) (fM #[fF fN 127,fF fN 1,fH gj,fH gm])).run fZ (W.alloc (nJ 14)) = .ok () (W.alloc (nJ 15)):=
 jJ W 173 3 171 (qX.take 14) 58 _ underlying173 underlying3 fC
theorem fJw(W:Cx):(Instr.mapUpdate 173 (.map (gh W.heap.size)) (fF fN 59) (fM #[fF fN 127,fF fN 2,fH gj,fH gm])).run fZ (W.alloc (nJ 15)) = .ok () (W.alloc (nJ 16)):=
 jJ W 173 3 171 (qX.take 15) 59 _ underlying173 underlying3 fC
theorem fJx(W:Cx):(Instr.mapUpdate 173 (.map (gh W.heap.size)) (fF fN 60) (fM #[fF fN 126,fF fN 1,fH gj,fH gm])).run fZ (W.alloc (nJ 16)) = .ok () (W.alloc (nJ 17)):=
 jJ W 173 3 171 (qX.take 16) 60 _ underlying173 underlying3 fC
theorem fJy(W:Cx):(Instr.mapUpdate 173 (.map (gh W.heap.size)) (fF fN 61) (fM #[fF fN 126,fF fN 2,fH gj,fH gm])).run fZ (W.alloc (nJ 17)) = .ok () (W.alloc (nJ 18)):=
 jJ W 173 3 171 (qX.take 17) 61 _ underlying173 underlying3 fC
theorem fJz(W:Cx):(Instr.mapUpdate 173 (.map (gh W.heap.size)) (fF fN 62) (fM #[fF fN 126,fF fN 4,fH gj,fH gm])).run fZ (W.alloc (nJ 18)) = .ok () (W.alloc (nJ 19)):=
 jJ W 173 3 171 (qX.take 18) 62 _ underlying173 underlying3 fC
theorem pJ(w:Cx):Cv fZ 119 #[] w fun e w'=>e = fR (.map (gh w.heap.size))/\w.alloc (nJ 19)=w':=by
 have aa:∀ (t:Cw) (w:Cx),(Instr.makeMap t fU).run fZ w = .ok (.map (gh w.heap.size)) (w.alloc (nJ 0)):=fun _ _=>rfl;have i0:=fVc;have i1:=fVd;have i2:=fVe;have i3:=fVf;have i4:=fVg;have i5:=fVh;have i6:=fVi;have i7:=fVj;have i8:=fVk;have i9:=fVl;have ad:=fJr;have ae:=fJs;have i12:=fJt;have af:=fJu;have ag:=fJv;have ah:=fJw;have i16:=fJx;have ai:=fJy;have aj:=fJz;go_in;go_wp2;go_ret;exact⟨rfl,rfl⟩
theorem cJx(w:Cx):(zeroValue 171).run fZ w = .ok (rR 0 0 gm gm) w:=fx
theorem aYg(h:acc op=fU)(W:Cx):(Instr.lookup 173 (.map (gh W.heap.size)) (fF fN op) gj).run fZ (W.alloc (nJ 19)) = .ok (fI #[fM #[fF fN 0,fF fN 0,fH gm,fH gm],fH gm]) (W.alloc (nJ 19)):=by
 have:=qK (P:=fZ) W 173 3 171 _ (qX.take 19) op underlying173 underlying3 cJx;rw[show qX.take 19=qX from rfl,cVc h]at this;exact this
theorem oz{k wd:Int}{a:Bool}(h:acc op=gh (k,wd,st,a))(W:Cx):(Instr.lookup 173 (.map (gh W.heap.size)) (fF fN op) gj).run fZ (W.alloc (nJ 19)) = .ok (fI #[fM #[fF fN k,fF fN wd,fH st,fH a],fH gj]) (W.alloc (nJ 19)):=by
 have:=qK (P:=fZ) W 173 3 171 _ (qX.take 19) op underlying173 underlying3 cJx;obtain⟨j,hj⟩:=cYz h;rw[show qX.take 19=qX from rfl,hj]at this;exact this
def fV(op:Int):Cz:=match acc op with
 | some (k,wd,st,_)=>fI #[fF fN k,fF fN wd,fH st,fH gj]
 | none=>fI #[fF fN 0,fF fN 0,fH gm,fH gm]
theorem kZ{fn:Func}{t u v x:Tmp}(h:fn.results=#[.tmp t,.tmp u,.tmp v,.tmp x])(tmps:Array Cz)(P:Cy)(w:Cx):
  (results fn tmps).run P w = .ok (fI #[tmps.getD t undef,tmps.getD u undef,tmps.getD v undef,tmps.getD x undef]) w:=by simp[results,h]
theorem qY(op:Int)(w:Cx):Cv fZ 88 #[fF fN op] w fun e w'=>e = fR (fV op)/\Ck w.heap.size w w':=by
 have b:Ck w.heap.size w (w.alloc (nJ 19)):=(Ax _ _).alloc (Aj _) _
 cases h:acc op with
 | none=>
  have a:=fQ (show fV op = .tuple #[.int .i64 0,.int .i64 0,.bool false,.bool false] by simp[fV,h]);have c:=aYg h;clear h;go_in;go_wp2_with fail;refine(pJ _).mono ?_;rintro e w1 ⟨rfl,rfl⟩;go_wp2_with fail;go_quiet (fail);go_wp2;refine bodyPost_ret (kZ rfl _ _ _) rfl ⟨?_,?_⟩
  ·rw[a.out];rfl
  ·exact fK (b.alloc (by simp) _) _
 | some r=>
  obtain⟨k,wd,st,sg⟩:=r;have a:=fQ (show fV op = .tuple #[.int .i64 k,.int .i64 wd,.bool st,.bool true] by simp[fV,h]);have c:=oz h;clear h;go_in;go_wp2_with fail;refine(pJ _).mono ?_;rintro e w1 ⟨rfl,rfl⟩;go_wp2_with fail;go_quiet (fail);go_wp2;refine bodyPost_ret (kZ rfl _ _ _) rfl ⟨?_,?_⟩
  ·rw[a.out];rfl
  ·exact fK (b.alloc (by simp) _) _
theorem dQa:acc 40=gh (127,4,gm,gm):=fx
theorem dQb:acc 41=gh (126,8,gm,gm):=fx
theorem dQc:acc 44=gh (127,1,gm,gj):=fx
theorem dQd:acc 45=gh (127,1,gm,gm):=fx
theorem dQe:acc 46=gh (127,2,gm,gj):=fx
theorem dQf:acc 47=gh (127,2,gm,gm):=fx
theorem dQg:acc 48=gh (126,1,gm,gj):=fx
theorem dQh:acc 49=gh (126,1,gm,gm):=fx
theorem dQi:acc 50=gh (126,2,gm,gj):=fx
theorem dQj:acc 51=gh (126,2,gm,gm):=fx
theorem dQk:acc 52=gh (126,4,gm,gj):=fx
theorem dQl:acc 53=gh (126,4,gm,gm):=fx
theorem dQm:acc 54=gh (127,4,gj,gm):=fx
theorem dQn:acc 55=gh (126,8,gj,gm):=fx
theorem dQo:acc 58=gh (127,1,gj,gm):=fx
theorem dQp:acc 59=gh (127,2,gj,gm):=fx
theorem dQq:acc 60=gh (126,1,gj,gm):=fx
theorem dQr:acc 61=gh (126,2,gj,gm):=fx
theorem dQs:acc 62=gh (126,4,gj,gm):=fx
theorem bVe{Q:Int->Prop}(t:Q 40)(u:Q 41)(v:Q 44)(w:Q 45)(x:Q 46)(y:Q 47)(z:Q 48)(A:Q 49)(B:Q 50)(C:Q 51)(D:Q 52)(E:Q 53)(F:Q 54)(G:Q 55)(H:Q 58)(I:Q 59)(J:Q 60)(K:Q 61)(L:Q 62)(hn:∀ op,(op == 40)=gm->(op == 41)=gm->(op == 44)=gm->(op == 45)=gm->(op == 46)=gm->(op == 47)=gm->(op == 48)=gm->(op == 49)=gm->(op == 50)=gm->(op == 51)=gm->(op == 52)=gm->(op == 53)=gm->(op == 54)=gm->(op == 55)=gm->(op == 58)=gm->(op == 59)=gm->(op == 60)=gm->(op == 61)=gm->(op == 62)=gm->Q op)(op:Int):Q op:=by
 by_cases a:op=40
 ·subst a;exact t
 by_cases b:op=41
 ·subst b;exact u
 by_cases c:op=44
 ·subst c;exact v
 by_cases d:op=45
 ·subst d;exact w
 by_cases e:op=46
 ·subst e;exact x
 by_cases f:op=47
 ·subst f;exact y
 by_cases g:op=48
 ·subst g;exact z
 by_cases h:op=49
 ·subst h;exact A
 by_cases i:op=50
 ·subst i;exact B
 by_cases j:op=51
 ·subst j;exact C
 by_cases k:op=52
 ·subst k;exact D
 by_cases l:op=53
 ·subst l;exact E
 by_cases m:op=54
 ·subst m;exact F
 by_cases n:op=55
 ·subst n;exact G
 by_cases o:op=58
 ·subst o;exact H
 by_cases p:op=59
 ·subst p;exact I
 by_cases q:op=60
 ·subst q;exact J
 by_cases r:op=61
 ·subst r;exact K
 by_cases s:op=62
 ·subst s;exact L
 exact hn op (beq_false_of_ne a) (beq_false_of_ne b) (beq_false_of_ne c) (beq_false_of_ne d) (beq_false_of_ne e) (beq_false_of_ne f) (beq_false_of_ne g) (beq_false_of_ne h) (beq_false_of_ne i) (beq_false_of_ne j) (beq_false_of_ne k) (beq_false_of_ne l) (beq_false_of_ne m) (beq_false_of_ne n) (beq_false_of_ne o) (beq_false_of_ne p) (beq_false_of_ne q) (beq_false_of_ne r) (beq_false_of_ne s)
theorem cJy(aa:(op == 40)=gm)(ad:(op == 41)=gm)(ae:(op == 44)=gm)(af:(op == 45)=gm)(ag:(op == 46)=gm)(ah:(op == 47)=gm)(ai:(op == 48)=gm)(aj:(op == 49)=gm)(ak:(op == 50)=gm)(al:(op == 51)=gm)(an:(op == 52)=gm)(ao:(op == 53)=gm)(aq:(op == 54)=gm)(ar:(op == 55)=gm)(au:(op == 58)=gm)(aw:(op == 59)=gm)(ax:(op == 60)=gm)(ay:(op == 61)=gm)(az:(op == 62)=gm):acc op=fU:=by
 simp only[beq_eq_false_iff_ne,ne_eq]at *;simp[acc,oy, *]
theorem dQt(w:Cx):Cv fZ 113 #[fF fN 40] w fun e w'=>e = fR (fI #[fF fN 127,fF fN 4,fH gm,fH gj])/\w=w':=by
 go_in;go_wp2;refine bodyPost_ret (kZ rfl _ _ _) rfl ⟨rfl,rfl⟩
theorem dQu(w:Cx):Cv fZ 113 #[fF fN 41] w fun e w'=>e = fR (fI #[fF fN 126,fF fN 8,fH gm,fH gj])/\w=w':=by
 go_in;go_wp2;refine bodyPost_ret (kZ rfl _ _ _) rfl ⟨rfl,rfl⟩
theorem dQv(w:Cx):Cv fZ 113 #[fF fN 44] w fun e w'=>e = fR (fI #[fF fN 127,fF fN 1,fH gm,fH gj])/\w=w':=by
 go_in;go_wp2;refine bodyPost_ret (kZ rfl _ _ _) rfl ⟨rfl,rfl⟩
theorem dQw(w:Cx):Cv fZ 113 #[fF fN 45] w fun e w'=>e = fR (fI #[fF fN 127,fF fN 1,fH gm,fH gj])/\w=w':=by
 go_in;go_wp2;refine bodyPost_ret (kZ rfl _ _ _) rfl ⟨rfl,rfl⟩
theorem dQx(w:Cx):Cv fZ 113 #[fF fN 46] w fun e w'=>e = fR (fI #[fF fN 127,fF fN 2,fH gm,fH gj])/\w=w':=by
 go_in;go_wp2;refine bodyPost_ret (kZ rfl _ _ _) rfl ⟨rfl,rfl⟩
theorem dQy(w:Cx):Cv fZ 113 #[fF fN 47] w fun e w'=>e = fR (fI #[fF fN 127,fF fN 2,fH gm,fH gj])/\w=w':=by
 go_in;go_wp2;refine bodyPost_ret (kZ rfl _ _ _) rfl ⟨rfl,rfl⟩
theorem dQz(w:Cx):Cv fZ 113 #[fF fN 48] w fun e w'=>e = fR (fI #[fF fN 126,fF fN 1,fH gm,fH gj])/\w=w':=by
 go_in;go_wp2;refine bodyPost_ret (kZ rfl _ _ _) rfl ⟨rfl,rfl⟩
theorem dXa(w:Cx):Cv fZ 113 #[fF fN 49] w fun e w'=>e = fR (fI #[fF fN 126,fF fN 1,fH gm,fH gj])/\w=w':=by
 go_in;go_wp2;refine bodyPost_ret (kZ rfl _ _ _) rfl ⟨rfl,rfl⟩
theorem dXb(w:Cx):Cv fZ 113 #[fF fN 50] w fun e w'=>e = fR (fI #[fF fN 126,fF fN 2,fH gm,fH gj])/\w=w':=by
 go_in;go_wp2;refine bodyPost_ret (kZ rfl _ _ _) rfl ⟨rfl,rfl⟩
theorem dXc(w:Cx):Cv fZ 113 #[fF fN 51] w fun e w'=>e = fR (fI #[fF fN 126,fF fN 2,fH gm,fH gj])/\w=w':=by
 go_in;go_wp2;refine bodyPost_ret (kZ rfl _ _ _) rfl ⟨rfl,rfl⟩
theorem dXd(w:Cx):Cv fZ 113 #[fF fN 52] w fun e w'=>e = fR (fI #[fF fN 126,fF fN 4,fH gm,fH gj])/\w=w':=by
 go_in;go_wp2;refine bodyPost_ret (kZ rfl _ _ _) rfl ⟨rfl,rfl⟩
theorem dXe(w:Cx):Cv fZ 113 #[fF fN 53] w fun e w'=>e = fR (fI #[fF fN 126,fF fN 4,fH gm,fH gj])/\w=w':=by
 go_in;go_wp2;refine bodyPost_ret (kZ rfl _ _ _) rfl ⟨rfl,rfl⟩
theorem dXf(w:Cx):Cv fZ 113 #[fF fN 54] w fun e w'=>e = fR (fI #[fF fN 127,fF fN 4,fH gj,fH gj])/\w=w':=by
 go_in;go_wp2;refine bodyPost_ret (kZ rfl _ _ _) rfl ⟨rfl,rfl⟩
theorem dXg(w:Cx):Cv fZ 113 #[fF fN 55] w fun e w'=>e = fR (fI #[fF fN 126,fF fN 8,fH gj,fH gj])/\w=w':=by
 go_in;go_wp2;refine bodyPost_ret (kZ rfl _ _ _) rfl ⟨rfl,rfl⟩
theorem dXh(w:Cx):Cv fZ 113 #[fF fN 58] w fun e w'=>e = fR (fI #[fF fN 127,fF fN 1,fH gj,fH gj])/\w=w':=by
 go_in;go_wp2;refine bodyPost_ret (kZ rfl _ _ _) rfl ⟨rfl,rfl⟩
theorem dXi(w:Cx):Cv fZ 113 #[fF fN 59] w fun e w'=>e = fR (fI #[fF fN 127,fF fN 2,fH gj,fH gj])/\w=w':=by
 go_in;go_wp2;refine bodyPost_ret (kZ rfl _ _ _) rfl ⟨rfl,rfl⟩
theorem dXj(w:Cx):Cv fZ 113 #[fF fN 60] w fun e w'=>e = fR (fI #[fF fN 126,fF fN 1,fH gj,fH gj])/\w=w':=by
 go_in;go_wp2;refine bodyPost_ret (kZ rfl _ _ _) rfl ⟨rfl,rfl⟩
theorem dXk(w:Cx):Cv fZ 113 #[fF fN 61] w fun e w'=>e = fR (fI #[fF fN 126,fF fN 2,fH gj,fH gj])/\w=w':=by
 go_in;go_wp2;refine bodyPost_ret (kZ rfl _ _ _) rfl ⟨rfl,rfl⟩
theorem dXl(w:Cx):Cv fZ 113 #[fF fN 62] w fun e w'=>e = fR (fI #[fF fN 126,fF fN 4,fH gj,fH gj])/\w=w':=by
 go_in;go_wp2;refine bodyPost_ret (kZ rfl _ _ _) rfl ⟨rfl,rfl⟩
theorem cVd(w:Cx)(aa:(op == 40)=gm)(ad:(op == 41)=gm)(ae:(op == 44)=gm)(af:(op == 45)=gm)(ag:(op == 46)=gm)(ah:(op == 47)=gm)(ai:(op == 48)=gm)(aj:(op == 49)=gm)(ak:(op == 50)=gm)(al:(op == 51)=gm)(an:(op == 52)=gm)(ao:(op == 53)=gm)(aq:(op == 54)=gm)(ar:(op == 55)=gm)(au:(op == 58)=gm)(aw:(op == 59)=gm)(ax:(op == 60)=gm)(ay:(op == 61)=gm)(az:(op == 62)=gm):Cv fZ 113 #[fF fN op] w fun e w'=>e = fR (fI #[fF fN 0,fF fN 0,fH gm,fH gm])/\w=w':=by
 go_in;go_wp2;refine bodyPost_ret (kZ rfl _ _ _) rfl ⟨rfl,rfl⟩
theorem gK(op:Int)(w:Cx):Cv fZ 113 #[fF fN op] w fun e w'=>e = fR (fV op)/\w=w':=by
 revert op
 refine bVe (by rw[fV,dQa];exact dQt w) (by rw[fV,dQb];exact dQu w) (by rw[fV,dQc];exact dQv w) (by rw[fV,dQd];exact dQw w) (by rw[fV,dQe];exact dQx w) (by rw[fV,dQf];exact dQy w) (by rw[fV,dQg];exact dQz w) (by rw[fV,dQh];exact dXa w) (by rw[fV,dQi];exact dXb w) (by rw[fV,dQj];exact dXc w) (by rw[fV,dQk];exact dXd w) (by rw[fV,dQl];exact dXe w) (by rw[fV,dQm];exact dXf w) (by rw[fV,dQn];exact dXg w) (by rw[fV,dQo];exact dXh w) (by rw[fV,dQp];exact dXi w) (by rw[fV,dQq];exact dXj w) (by rw[fV,dQr];exact dXk w) (by rw[fV,dQs];exact dXl w) ?_;intro op a b c d f g h i j k l m n o p q r s t;rw[fV,cJy a b c d f g h i j k l m n o p q r s t];exact cVd w a b c d f g h i j k l m n o p q r s t
def lk(op:Int):Bool:=match acc op with
 | some (_,_,_,a)=>a
 | none=>gm
theorem cVe{k wd:Int}{a:Bool}(h:acc op=gh (k,wd,st,a))(w:Cx):Cv fZ 136 #[fF fN op] w fun e w'=>e = fR (fH a)/\w=w':=by
 have key:∀ op:Int,lk op=(op == 44 || (op == 46 || (op == 48 || (op == 50 || op == 52)))):=by
  refine bVe (by rw[lk,dQa];rfl) (by rw[lk,dQb];rfl) (by rw[lk,dQc];rfl) (by rw[lk,dQd];rfl) (by rw[lk,dQe];rfl) (by rw[lk,dQf];rfl) (by rw[lk,dQg];rfl) (by rw[lk,dQh];rfl) (by rw[lk,dQi];rfl) (by rw[lk,dQj];rfl) (by rw[lk,dQk];rfl) (by rw[lk,dQl];rfl) (by rw[lk,dQm];rfl) (by rw[lk,dQn];rfl) (by rw[lk,dQo];rfl) (by rw[lk,dQp];rfl) (by rw[lk,dQq];rfl) (by rw[lk,dQr];rfl) (by rw[lk,dQs];rfl) ?_;intro op i j b l c m d n f o g p q r s t u v x;rw[lk,cJy i j b l c m d n f o g p q r s t u v x,b,c,d,f,g];rfl
 have y:=fQ (show a=(op == 44 || (op == 46 || (op == 48 || (op == 50 || op == 52)))) by rw[<-key op,lk,h]);clear h key;go_in;go_wp2
 all_goals go_ret
 all_goals refine⟨?_,rfl⟩
 all_goals rw[y.out]
 all_goals (simp_all [Bool.or_assoc])
end Go.Proofs.YtabibkpfgmolkaaGreatDoor

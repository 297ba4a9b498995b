/- Lemmas for the claim, part 2. Conditions: none. -/
import Derived.Test.YtabibkpfgmolkaaDoorPc01
set_option maxRecDepth 100000
set_option maxHeartbeats 16000000
set_option linter.unusedVariables false
set_option linter.unusedSimpArgs false
open Go.Lib renaming hid→cQ
open Go.Proofs.Tryd renaming prog→cZ
open Go.Proofs.Tryd
open Go.RowKit
open Nat renaming le_refl→Aj
open List renaming getElem?_eq_getElem→Ax,mem_of_getElem?→Ak,take_of_length_le→Av
open Go.RowKit.Below renaming refl→Az
open Go renaming World→Aw,Value→Ay,Calls→AQ
open Go.RowKit renaming Below→AJ
namespace Go.Proofs.YtabibkpfgmolkaaDoor
variable {w:Aw}{g n c k:Nat}{l:List Int}{A:Option Addr}{t:TypeId}{v:Ay}{x:Int}
def IR(w:Aw)(v:Ay)(l:List Int):Prop:=∃ A c,v = .slice A l.length c/\Src w A l.length (i64s l)
theorem Ints.ir(h:Ints w v l):IR w v l:=by
 obtain⟨A,c,e,hs,_⟩:=h;exact⟨A,c,e,hs⟩
theorem IR.below{w w':Aw}{B:Nat}{v:Ay}{l:List Int}(h:IR w v l)(a:AJ B w w')(b:w.heap.size<=B):IR w' v l:=by
 obtain⟨A,c,e,hs⟩:=h;exact⟨A,c,e,hs.below a b⟩
theorem IR.nil(w:Aw):IR w (.slice none 0 0) []:=⟨none,0,rfl,Src.nil _ _⟩
theorem IR.alloc{w:Aw}{v:Ay}{l:List Int}(h:IR w v l)(o:Obj):IR (w.alloc o) v l:=h.below ((Az w.heap.size _).alloc (Aj _) _) (Aj _)
theorem IR.one(h:Blk w g t #[.int .i64 x]):IR w (.slice (some ⟨g,0,none⟩) 1 1) [x]:=⟨_,_,rfl,Blk.cWx (cs:=#[.int .i64 x]) h rfl⟩
theorem Blk.setCell{w:Aw}{g:Nat}{e:TypeId}{cs:Array Ay}(h:Blk w g e cs){p:Addr}(v:Ay)(hp:g≠p.block):Blk (w.setCell p v) g e cs:=(heap_setCell_other w p g v hp).trans h
theorem IR.two{y:Int}(h:Blk w g t #[.int .i64 x,.int .i64 y]):IR w (.slice (some ⟨g,0,none⟩) 2 2) [x,y]:=⟨_,_,rfl,Blk.cWx (cs:=#[.int .i64 x,.int .i64 y]) h rfl⟩
theorem IR.three{y z:Int}(h:Blk w g t #[.int .i64 x,.int .i64 y,.int .i64 z]):IR w (.slice (some ⟨g,0,none⟩) 3 3) [x,y,z]:=⟨_,_,rfl,Blk.cWx (cs:=#[.int .i64 x,.int .i64 y,.int .i64 z]) h rfl⟩
theorem IR.setCell{w:Aw}{v:Ay}{l:List Int}(h:IR w v l){p:Addr}(u:Ay)(hp:∀ A n c,v = .slice A n c->∀ a,A=some a->a.block≠p.block):IR (w.setCell p u) v l:=by
 obtain⟨A,c,e,hs⟩:=h;exact⟨A,c,e,hs.setCell u (hp _ _ _ e)⟩
theorem IR.of(h:Src w A n (i64s l))(hn:l.length=n):IR w (.slice A n c) l:=by
 subst hn;exact⟨A,c,rfl,h⟩
def SigV(w:Aw)(v:Ay)(s:SigD):Prop:=∃ a b,v = .agg #[a,b]/\Ints w a s.inn/\Ints w b s.out
def EnvV(w:Aw)(v:Ay)(e:EnvD):Prop:=∃ a b d,v = .agg #[a,.int .i64 e.imports,b,d,.bool e.mem]/\Structs 2 SigC w a e.sigs/\Ints w b e.globals/\Bools w d e.muts
def CodeV(w:Aw)(v:Ay)(c:CodeD):Prop:=∃ a b d,v = .agg #[.int .i64 c.op,.int .u64 (c.n:Int),a,b,d]/\c.ok/\Ints w a c.args/\Ints w b c.outs/\Ints w d c.to
def RowV(w:Aw)(v:Ay)(x:RowD):Prop:=∃ a b p d,v = .agg #[a,b,.int .i64 x.places,p,d]/\Ints w a x.sig.inn/\Ints w b x.sig.out/\Ints w p x.params/\Structs 5 CodeC w d x.code
theorem SigV.below{w w':Aw}{B:Nat}{r:Ay}{s:SigD}(h:SigV w r s)(c:AJ B w w')(d:w.heap.size<=B):SigV w' r s:=by
 obtain⟨a,b,e,h1,h2⟩:=h;exact⟨a,b,e,h1.below c d,h2.below c d⟩
theorem CodeV.below{w w':Aw}{B:Nat}{r:Ay}{c:CodeD}(h:CodeV w r c)(f:AJ B w w')(g:w.heap.size<=B):CodeV w' r c:=by
 obtain⟨a,b,d,e,i,h1,h2,j⟩:=h;exact⟨a,b,d,e,i,h1.below f g,h2.below f g,j.below f g⟩
theorem EnvV.below{w w':Aw}{B:Nat}{r:Ay}{e:EnvD}(h:EnvV w r e)(c:AJ B w w')(f:w.heap.size<=B):EnvV w' r e:=by
 obtain⟨a,b,d,e',h1,h2,g⟩:=h;exact⟨a,b,d,e',h1.below c f (fun r x q=>q.below c f),h2.below c f,g.below c f⟩
theorem RowV.below{w w':Aw}{B:Nat}{r:Ay}{x:RowD}(h:RowV w r x)(c:AJ B w w')(e:w.heap.size<=B):RowV w' r x:=by
 obtain⟨a,b,p,d,e',h1,h2,f,g⟩:=h;exact⟨a,b,p,d,e',h1.below c e,h2.below c e,f.below c e,g.below c e (fun r x q=>q.below c e)⟩
def isK(t:Int):Bool:=t == 127 || t == 126
def hZ(m:Nat)(l:List Int):Bool:=decide (l.length<=m) && l.all isK
def sigOk(s:SigD):Bool:=hZ 8 s.inn && hZ 8 s.out
def envOk(e:EnvD):Bool:=decide (e.sigs.length<=64/\0<=e.imports/\e.imports<=e.sigs.length/\e.muts.length=e.globals.length) && (hZ 32 e.globals && e.sigs.all sigOk)
def hY(m:Bool)(op:Int)(n:Nat):Option (List Int×List Int):=
 if m=false then none
 else if op=257 then if n<=8589934592 then some ([127],[])else none
 else match acc op with
  | some (k,_,st,_)=>if n<=4294967295 then some (if st then([127,k],[])else([127],[k]))else none
  | none=>if op=63 then if n=0 then some ([],[127])else none else if op=64 then if n=0 then some ([127],[127])else none else none
def dJ(e:EnvD)(s:SigD)(op:Int)(n:Nat):Option (List Int×List Int):=
 if op=256 then some ([],[0])
 else if op=272 then if n=0 then some ([0],[0])else none
 else if op=273\/op=277\/op=258 then if n=0 then some ([],[])else none
 else if op=274\/op=275 then if n=0 then some ([127],[])else none
 else if op=276 then if n=0 then some (s.out,[])else none
 else if op=27 then if n=0 then some ([0,0,127],[0])else none
 else if op=16 then(e.sigs[n]?).map fun g=>(g.inn,g.out)
 else if op=35 then(e.globals[n]?).map fun g=>([],[g])
 else if op=36 then match e.globals[n]?,e.muts[n]? with
  | some g,some true=>some ([g],[])
  | _,_=>none
 else if(fK op).isSome then if n=0 then some (fW op,[oW op])else none
 else hY e.mem op n
def mJ(op:Int):Int:=if op=273\/op=274\/op=275 then 1 else 0
def lY(op:Int):Int:=if op=273\/op=274 then 1 else if op=275 then 65 else 0
def within(n:Int)(l:List Int):Bool:=l.all fun x=>decide (0<=x/\x<n)
def codeOk(e:EnvD)(r:RowD)(c:CodeD):Bool:=match dJ e r.sig c.op c.n with
 | none=>false
 | some (i,o)=>decide (c.args.length=i.length/\c.outs.length=o.length/\mJ c.op<=c.to.length/\(c.to.length:Int)<=lY c.op) && (within r.places c.args && (within r.places c.outs && (decide c.outs.Nodup && within r.code.length c.to)))
def nextOf(c:CodeD)(i:Nat):List Int:=
 if c.op=276\/c.op=277 then[]else if c.op=273\/c.op=275 then c.to else if c.op=274 then[(i:Int)+1,c.to.headD 0]else[(i:Int)+1]
def Ranked(r:RowD):Prop:=∃ rk:Nat->Nat,∀ i c (k:Nat),r.code[i]? = some c->c.op≠258->(k:Int)∈nextOf c i->rk k<rk i
structure CheckP (e:EnvD) (r:RowD):Prop where
 env:envOk e=true
 sig:sigOk r.sig=true
 n1:1<=r.code.length
 n2:r.code.length<=4096
 p1:0<=r.places
 p2:r.places<=4096
 par:r.params.length=r.sig.inn.length
 pin:within r.places r.params=true
 pun:r.params.Nodup
 code:∀ c∈r.code,codeOk e r c=true
 first:∀ c,r.code[0]? = some c->c.op=258
 last:∀ c,r.code[r.code.length - 1]? = some c->c.op=273\/c.op=275\/c.op=276\/c.op=277
 rank:Ranked r
theorem aQc{α:Type}{l:List α}{p:α}{q:α->Bool}(h:l[k]? = some p)(h1:(l.take k).any q=false)(h2:q p=false):(l.take (k+1)).any q=false:=by
 obtain⟨a,e⟩:=List.getElem?_eq_some_iff.1 h;rw[List.take_succ_eq_append_getElem a,e,List.any_append,h1];simp[h2]
theorem aZb{α:Type}{l:List α}{p:α}{q:α->Bool}(h:l[k]? = some p)(h2:q p=true):l.any q=true:=List.any_eq_true.2 ⟨p,Ak h,h2⟩
theorem IR.cell{w:Aw}{A:Option Addr}{n c:Nat}{l:List Int}(h:IR w (.slice A n c) l){k:Nat}{x:Int}(d:l[k]? = some x):∃ b o,A=some ⟨b,o,none⟩/\b<w.heap.size/\w.cell? ⟨b,o+k,none⟩=some (.int .i64 x):=by
 obtain⟨A',c',e,hs⟩:=h;injection e with f e2 e3;subst f;obtain⟨a,e⟩:=List.getElem?_eq_some_iff.1 d;obtain⟨b,o,rfl,g⟩:=hs.addr (by omega);have:=hs.at_ (k:=k) a;rw[cXn a,e]at this;exact⟨b,o,rfl,g,this⟩
theorem IR.len(h:IR w (.slice A n c) l):n=l.length:=by
 obtain⟨A',c',e,hs⟩:=h;injection e
theorem Structs.sig{l:List SigD}(h:Structs 2 SigC w (.slice A n c) l){x:SigD}(a:l[k]? = some x):
  ∃ b o p q,A=some ⟨b,o,none⟩/\b<w.heap.size/\w.cell? ⟨b,o+k*2,none⟩=some p/\w.cell? ⟨b,o+k*2+1,none⟩=some q/\Ints w p x.inn/\Ints w q x.out:=by
 obtain⟨b,o,c',r,e,d,hr,⟨p,q,rfl,h1,h2⟩,hc⟩:=h.at (by omega) a;injection e with f e2 e3;exact⟨b,o,p,q,f,d,hc 0 p rfl,hc 1 q rfl,h1,h2⟩
theorem Structs.code{l:List CodeD}(h:Structs 5 CodeC w (.slice A n c) l){x:CodeD}(a:l[k]? = some x):
  ∃ b o p q r,A=some ⟨b,o,none⟩/\b<w.heap.size/\w.cell? ⟨b,o+k*5,none⟩=some (.int .i64 x.op)/\w.cell? ⟨b,o+k*5+1,none⟩=some (.int .u64 (x.n:Int))/\w.cell? ⟨b,o+k*5+2,none⟩=some p/\w.cell? ⟨b,o+k*5+3,none⟩=some q/\w.cell? ⟨b,o+k*5+4,none⟩=some r /\
   x.ok/\Ints w p x.args/\Ints w q x.outs/\Ints w r x.to:=by
 obtain⟨b,o,c',rr,e,d,hr,⟨p,q,r,rfl,f,h1,h2,g⟩,hc⟩:=h.at (by omega) a;injection e with i e2 e3;exact⟨b,o,p,q,r,i,d,hc 0 _ rfl,hc 1 _ rfl,hc 2 _ rfl,hc 3 _ rfl,hc 4 _ rfl,f,h1,h2,g⟩
theorem Structs.cWv{α:Type}{R:Aw->List Ay->α->Prop}{l:List α}(h:Structs k R w (.slice A n c) l):n=l.length/\n<=c/\n<=140737488351232/\c<=9223372036854775807:=by
 obtain⟨A',c',e,h1,h2⟩:=h.len;injection e with e1 e2 a;subst e2;subst a;exact⟨rfl,h1,h2⟩
theorem Ints.cWv(h:Ints w (.slice A n c) l):n=l.length/\n<=c/\n<=17592186043904/\c<=9223372036854775807:=by
 obtain⟨A',c',e,hs,h1,h2,h3⟩:=h;injection e with e1 e2 a;subst a;exact⟨e2,by omega,by omega,by omega⟩
theorem Ints.shape(h:Ints w v l):∃ A c,v = .slice A l.length c:=by
 obtain⟨A,c,e,_⟩:=h;exact⟨A,c,e⟩
theorem IR.shape(h:IR w v l):∃ A c,v = .slice A l.length c:=by
 obtain⟨A,c,e,_⟩:=h;exact⟨A,c,e⟩
theorem aKp{α:Type}(l:List α)(p:α->Bool):(!(l.any fun x=>!p x))=l.all p:=by
 induction l with
 | nil=>rfl
 | cons a l b=>simp only[List.any_cons,List.all_cons,Bool.not_or,Bool.not_not,b]
theorem aWg(A:Option Addr)(n c:Nat)(l:List Int)(Q:Int->Bool)(w:Aw)(hs:IR w (.slice A n c) l)(hm:n<=9223372036854775807)
  (hq:∀ x∈l,∀ v w',AJ w.heap.size w w'->v = .int .i64 x->AQ cZ 61 #[v] w' fun e w2=>e = .returned (.bool (Q x))/\AJ w'.heap.size w' w2) :
  AQ cZ 82 #[.slice A n c,.func (.func 61) #[] #[]] w fun e w'=>∃ r:Int,e = .returned (.int .i64 r)/\decide (0<=r)=l.any Q/\AJ w.heap.size w w':=by
 have j:=hs.len;have t:=cQ hs;have m:=cQ j;have u:=cQ hq;clear hs hq j;go_in;go_wp2;go_loopw [8] (fun i wr=>∃ k:Nat,k<=n/\i = .int .i64 k/\Hid ((l.take k).any Q=false)/\Hid (AJ w.heap.size w wr)) (fun i _=>n - (intOf i).toNat)
 case atStart=>exact⟨0,by omega,rfl,cQ rfl,cQ (Az _ _)⟩
 case round=>
  obtain⟨k,hk,rfl,o,a⟩:=hrel;by_cases y:k<n
  ·have z:decide ((k:Int)<n)=true:=(by simp;omega);have ah:(k:Int)<n:=(by omega);obtain⟨x,f⟩:∃ x,l[k]? = some x:=⟨_,Ax (by rw[<-m.out];exact y)⟩;obtain⟨ab,ao,rfl,ai,aj⟩:=(t.out.below a.out (Aj _)).cell f;have p:=cQ f;have q:=a.out.size;have s:=cQ (u.out x (Ak f));clear f
   cases g:Q x with
   | true=>
    have b:=cQ g;clear g;go_wp2_with fail;refine(s.out _ _ a.out rfl).mono ?_;rintro e B ⟨rfl,d⟩;rw[b.out];have h:=cQ (a.out.trans (d.mono q));clear d;go_wp2;go_ret;exact⟨k,rfl,by rw[aZb p.out b.out];simp,h.out⟩
   | false=>
    have b:=cQ g;clear g;go_wp2_with fail;refine(s.out _ _ a.out rfl).mono ?_;rintro e B ⟨rfl,d⟩;rw[b.out];have h:=cQ (a.out.trans (d.mono q));clear d;go_wp2;exact⟨⟨k+1,by omega,by simp,cQ (aQc p.out o.out b.out),h⟩,by simp[intOf];omega⟩
  ·have z:decide ((k:Int)<n)=false:=(by simp;omega);go_wp2;go_ret;refine⟨-1,rfl,?_,a.out⟩;have:=o.out;rw[Av (by rw[<-m.out];omega)]at this;rw[this];rfl
theorem aWh(A:Option Addr)(n c:Nat)(l:List Int)(Q:Int->Bool)(w:Aw)(hs:IR w (.slice A n c) l)(d:n<=9223372036854775807)
  (hq:∀ x∈l,∀ v w',AJ w.heap.size w w'->v = .int .i64 x->AQ cZ 61 #[v] w' fun e w2=>e = .returned (.bool (Q x))/\AJ w'.heap.size w' w2) :
  AQ cZ 60 #[.slice A n c,.func (.func 61) #[] #[]] w fun e w'=>e = .returned (.bool (l.any Q))/\AJ w.heap.size w w':=by
 have f:=cQ hs;have g:=cQ hq;clear hs hq;go_in;go_wp2_with fail;refine(aWg A n c l Q _ f.out d g.out).mono ?_;rintro e w1 ⟨r,rfl,a,b⟩;have h:=cQ a;have i:=cQ b;clear a b;go_wp2;go_ret;exact⟨by rw[<-h.out];rfl,i.out⟩
theorem aKq(A:Option Addr)(n c:Nat)(l:List Int)(Q:Int->Bool)(j:Nat)(w:Aw)(hs:IR w (.slice A n c) l)(hm:n<=9223372036854775807)
  (hq:∀ x∈l,∀ v w',AJ w.heap.size w w'->v = .int .i64 x->AQ cZ 64 #[v,.pointer (some ⟨j,0,none⟩)] w' fun e w2=>e = .returned (.bool (Q x))/\AJ w'.heap.size w' w2) :
  AQ cZ 82 #[.slice A n c,.func (.func 64) #[] #[.pointer (some ⟨j,0,none⟩)]] w fun e w'=>∃ r:Int,e = .returned (.int .i64 r)/\decide (0<=r)=l.any Q/\AJ w.heap.size w w':=by
 have m:=hs.len;have u:=cQ hs;have o:=cQ m;have y:=cQ hq;clear hs hq m;go_in;go_wp2;go_loopw [8] (fun i wr=>∃ k:Nat,k<=n/\i = .int .i64 k/\Hid ((l.take k).any Q=false)/\Hid (AJ w.heap.size w wr)) (fun i _=>n - (intOf i).toNat)
 case atStart=>exact⟨0,by omega,rfl,cQ rfl,cQ (Az _ _)⟩
 case round=>
  obtain⟨k,hk,rfl,p,a⟩:=hrel;by_cases z:k<n
  ·have B:decide ((k:Int)<n)=true:=(by simp;omega);have ah:(k:Int)<n:=(by omega);obtain⟨x,f⟩:∃ x,l[k]? = some x:=⟨_,Ax (by rw[<-o.out];exact z)⟩;obtain⟨ab,ao,rfl,ai,aj⟩:=(u.out.below a.out (Aj _)).cell f;have q:=cQ f;have s:=a.out.size;have t:=cQ (y.out x (Ak f));clear f
   cases g:Q x with
   | true=>
    have b:=cQ g;clear g;go_wp2_with fail;refine(t.out _ _ a.out rfl).mono ?_;rintro e C ⟨rfl,d⟩;rw[b.out];have h:=cQ (a.out.trans (d.mono s));clear d;go_wp2;go_ret;exact⟨k,rfl,by rw[aZb q.out b.out];simp,h.out⟩
   | false=>
    have b:=cQ g;clear g;go_wp2_with fail;refine(t.out _ _ a.out rfl).mono ?_;rintro e C ⟨rfl,d⟩;rw[b.out];have h:=cQ (a.out.trans (d.mono s));clear d;go_wp2;exact⟨⟨k+1,by omega,by simp,cQ (aQc q.out p.out b.out),h⟩,by simp[intOf];omega⟩
  ·have B:decide ((k:Int)<n)=false:=(by simp;omega);go_wp2;go_ret;refine⟨-1,rfl,?_,a.out⟩;have:=p.out;rw[Av (by rw[<-o.out];omega)]at this;rw[this];rfl
theorem aKr(A:Option Addr)(n c:Nat)(l:List Int)(Q:Int->Bool)(a:Nat)(w:Aw)(hs:IR w (.slice A n c) l)(f:n<=9223372036854775807)
  (hq:∀ x∈l,∀ v w',AJ w.heap.size w w'->v = .int .i64 x->AQ cZ 64 #[v,.pointer (some ⟨a,0,none⟩)] w' fun e w2=>e = .returned (.bool (Q x))/\AJ w'.heap.size w' w2) :
  AQ cZ 60 #[.slice A n c,.func (.func 64) #[] #[.pointer (some ⟨a,0,none⟩)]] w fun e w'=>e = .returned (.bool (l.any Q))/\AJ w.heap.size w w':=by
 have g:=cQ hs;have h:=cQ hq;clear hs hq;go_in;go_wp2_with fail;refine(aKq A n c l Q a _ g.out f h.out).mono ?_;rintro e w1 ⟨r,rfl,b,d⟩;have i:=cQ b;have j:=cQ d;clear b d;go_wp2;go_ret;exact⟨by rw[<-i.out];rfl,j.out⟩
theorem aZx(A:Option Addr)(n c:Nat)(l:List SigD)(Q:SigD->Bool)(w:Aw)(hs:Structs 2 SigC w (.slice A n c) l)(hm:n<=9223372036854775807)
  (hq:∀ x∈l,∀ v w',AJ w.heap.size w w'->SigV w' v x->AQ cZ 44 #[v] w' fun e w2=>e = .returned (.bool (Q x))/\AJ w'.heap.size w' w2) :
  AQ cZ 63 #[.slice A n c,.func (.func 44) #[] #[]] w fun e w'=>∃ r:Int,e = .returned (.int .i64 r)/\decide (0<=r)=l.any Q/\AJ w.heap.size w w':=by
 obtain⟨o,ai,af⟩:=hs.cWv;have C:=cQ hs;have s:=cQ o;have D:=cQ hq;clear hs hq o;go_in;go_wp2;go_loopw [8] (fun i wr=>∃ k:Nat,k<=n/\i = .int .i64 k/\Hid ((l.take k).any Q=false)/\Hid (AJ w.heap.size w wr)) (fun i _=>n - (intOf i).toNat)
 case atStart=>exact⟨0,by omega,rfl,cQ rfl,cQ (Az _ _)⟩
 case round=>
  obtain⟨k,hk,rfl,t,a⟩:=hrel;by_cases E:k<n
  ·have F:decide ((k:Int)<n)=true:=(by simp;omega);have ak:(k:Int)<n:=(by omega);obtain⟨x,f⟩:∃ x,l[k]? = some x:=⟨_,Ax (by rw[<-s.out];exact E)⟩;obtain⟨ab,ao,p,q,rfl,al,c0,c1,j,s1⟩:=(C.out.below a.out (Aj _) (fun _ _ h=>h.below a.out (Aj _))).sig f;obtain⟨pA,pc,rfl⟩:=j.shape;obtain⟨qA,qc,rfl⟩:=s1.shape;have u:=cQ (show SigV wr (.agg #[_,_]) x from⟨_,_,rfl,j,s1⟩);clear j s1;have y:=cQ f;have z:=a.out.size;have B:=cQ (D.out x (Ak f));clear f
   cases g:Q x with
   | true=>
    have b:=cQ g;clear g;go_wp2_with fail;refine(B.out _ _ a.out u.out).mono ?_;rintro e G ⟨rfl,d⟩;rw[b.out];have m:=cQ (a.out.trans (d.mono z));clear d;go_wp2;go_ret;exact⟨k,rfl,by rw[aZb y.out b.out];simp,m.out⟩
   | false=>
    have b:=cQ g;clear g;go_wp2_with fail;refine(B.out _ _ a.out u.out).mono ?_;rintro e G ⟨rfl,d⟩;rw[b.out];have m:=cQ (a.out.trans (d.mono z));clear d;go_wp2;exact⟨⟨k+1,by omega,by simp,cQ (aQc y.out t.out b.out),m⟩,by simp[intOf];omega⟩
  ·have F:decide ((k:Int)<n)=false:=(by simp;omega);go_wp2;go_ret;refine⟨-1,rfl,?_,a.out⟩;have:=t.out;rw[Av (by rw[<-s.out];omega)]at this;rw[this];rfl
theorem aZy(A:Option Addr)(n c:Nat)(l:List SigD)(Q:SigD->Bool)(w:Aw)(hs:Structs 2 SigC w (.slice A n c) l)(d:n<=9223372036854775807)
  (hq:∀ x∈l,∀ v w',AJ w.heap.size w w'->SigV w' v x->AQ cZ 44 #[v] w' fun e w2=>e = .returned (.bool (Q x))/\AJ w'.heap.size w' w2) :
  AQ cZ 43 #[.slice A n c,.func (.func 44) #[] #[]] w fun e w'=>e = .returned (.bool (l.any Q))/\AJ w.heap.size w w':=by
 have f:=cQ hs;have g:=cQ hq;clear hs hq;go_in;go_wp2_with fail;refine(aZx A n c l Q _ f.out d g.out).mono ?_;rintro e w1 ⟨r,rfl,a,b⟩;have h:=cQ a;have i:=cQ b;clear a b;go_wp2;go_ret;exact⟨by rw[<-h.out];rfl,i.out⟩
theorem aWi(A:Option Addr)(n c:Nat)(l:List CodeD)(Q:CodeD->Bool)(o s:Nat)(w:Aw)(hs:Structs 5 CodeC w (.slice A n c) l)(hm:n<=9223372036854775807)
  (hq:∀ x∈l,∀ v w',AJ w.heap.size w w'->CodeV w' v x->AQ cZ 49 #[v,.pointer (some ⟨o,0,none⟩),.pointer (some ⟨s,0,none⟩)] w' fun e w2=>e = .returned (.bool (Q x))/\AJ w'.heap.size w' w2) :
  AQ cZ 65 #[.slice A n c,.func (.func 49) #[] #[.pointer (some ⟨o,0,none⟩),.pointer (some ⟨s,0,none⟩)]] w fun e w'=>∃ r:Int,e = .returned (.int .i64 r)/\decide (0<=r)=l.any Q/\AJ w.heap.size w w':=by
 obtain⟨t,ai,af⟩:=hs.cWv;have F:=cQ hs;have u:=cQ t;have G:=cQ hq;clear hs hq t;go_in;go_wp2;go_loopw [8] (fun i wr=>∃ k:Nat,k<=n/\i = .int .i64 k/\Hid ((l.take k).any Q=false)/\Hid (AJ w.heap.size w wr)) (fun i _=>n - (intOf i).toNat)
 case atStart=>exact⟨0,by omega,rfl,cQ rfl,cQ (Az _ _)⟩
 case round=>
  obtain⟨k,hk,rfl,y,a⟩:=hrel;by_cases H:k<n
  ·have I:decide ((k:Int)<n)=true:=(by simp;omega);have ak:(k:Int)<n:=(by omega);obtain⟨x,f⟩:∃ x,l[k]? = some x:=⟨_,Ax (by rw[<-u.out];exact H)⟩;obtain⟨ab,ao,p,q,r,rfl,al,c0,c1,c2,c3,c4,z,s1,s2,j⟩:=(F.out.below a.out (Aj _) (fun _ _ h=>h.below a.out (Aj _))).code f;obtain⟨pA,pc,rfl⟩:=s1.shape;obtain⟨qA,qc,rfl⟩:=s2.shape;obtain⟨rA,rc,rfl⟩:=j.shape;have B:=cQ (show CodeV wr (.agg #[.int .i64 x.op,.int .u64 (x.n:Int),_,_,_]) x from⟨_,_,_,rfl,z,s1,s2,j⟩);clear z s1 s2 j;have C:=cQ f;have D:=a.out.size;have E:=cQ (G.out x (Ak f));clear f
   cases g:Q x with
   | true=>
    have b:=cQ g;clear g;go_wp2_with fail;refine(E.out _ _ a.out B.out).mono ?_;rintro e J ⟨rfl,d⟩;rw[b.out];have m:=cQ (a.out.trans (d.mono D));clear d;go_wp2;go_ret;exact⟨k,rfl,by rw[aZb C.out b.out];simp,m.out⟩
   | false=>
    have b:=cQ g;clear g;go_wp2_with fail;refine(E.out _ _ a.out B.out).mono ?_;rintro e J ⟨rfl,d⟩;rw[b.out];have m:=cQ (a.out.trans (d.mono D));clear d;go_wp2;exact⟨⟨k+1,by omega,by simp,cQ (aQc C.out y.out b.out),m⟩,by simp[intOf];omega⟩
  ·have I:decide ((k:Int)<n)=false:=(by simp;omega);go_wp2;go_ret;refine⟨-1,rfl,?_,a.out⟩;have:=y.out;rw[Av (by rw[<-u.out];omega)]at this;rw[this];rfl
theorem aWj(A:Option Addr)(n c:Nat)(l:List CodeD)(Q:CodeD->Bool)(a b:Nat)(w:Aw)(hs:Structs 5 CodeC w (.slice A n c) l)(g:n<=9223372036854775807)
  (hq:∀ x∈l,∀ v w',AJ w.heap.size w w'->CodeV w' v x->AQ cZ 49 #[v,.pointer (some ⟨a,0,none⟩),.pointer (some ⟨b,0,none⟩)] w' fun e w2=>e = .returned (.bool (Q x))/\AJ w'.heap.size w' w2) :
  AQ cZ 48 #[.slice A n c,.func (.func 49) #[] #[.pointer (some ⟨a,0,none⟩),.pointer (some ⟨b,0,none⟩)]] w fun e w'=>e = .returned (.bool (l.any Q))/\AJ w.heap.size w w':=by
 have h:=cQ hs;have i:=cQ hq;clear hs hq;go_in;go_wp2_with fail;refine(aWi A n c l Q a b _ h.out g i.out).mono ?_;rintro e w1 ⟨r,rfl,d,f⟩;have j:=cQ d;have k:=cQ f;clear d f;go_wp2;go_ret;exact⟨by rw[<-j.out];rfl,k.out⟩
theorem bZk(t:Int)(w:Aw):AQ cZ 62 #[.int .i64 t] w fun e w'=>e = .returned (.bool (isK t))/\w=w':=by
 cases h1:(t == 127)with
 | true=>
  have a:=cQ (show isK t=true by simp[isK,h1]);go_in;go_wp2;go_ret;exact⟨by rw[a.out];rfl,rfl⟩
 | false=>
  have a:=cQ (show isK t=(t == 126) by simp only[isK,h1,Bool.false_or]);go_in;go_wp2;go_ret;exact⟨by rw[a.out];rfl,rfl⟩
theorem bZl(t:Int)(w:Aw):AQ cZ 61 #[.int .i64 t] w fun e w'=>e = .returned (.bool (!isK t))/\AJ w.heap.size w w':=by
 go_in;go_wp2_with fail;refine(bZk _ _).mono ?_;rintro e w1 ⟨rfl,rfl⟩;go_wp2;go_ret;exact⟨rfl,Az _ _⟩
theorem uX(m:Nat)(a:Int)(d:a=m)(v:Ay)(l:List Int)(w:Aw)(hs:IR w v l)(g:l.length<=9223372036854775807):
  AQ cZ 42 #[.int .i64 a,v] w fun e w'=>e = .returned (.bool (hZ m l))/\AJ w.heap.size w w':=by
 obtain⟨A,c,rfl⟩:=hs.shape;have i:=cQ hs;clear hs;by_cases h:l.length<=m
 ·have j:decide ((l.length:Int)<=a)=true:=(by simp;omega);have b:=cQ (show hZ m l = !(l.any fun x=>!isK x) by rw[aKp];simp[hZ,h]);clear h d;go_in;go_wp2_with fail;refine(aWh A l.length c l (fun x=>!isK x) _ i.out g (fun x hx v w' hb e=>by subst e;exact bZl x w')).mono ?_;rintro e w1 ⟨rfl,f⟩;have k:=cQ f;clear f;go_wp2;go_ret;exact⟨by rw[b.out];rfl,k.out⟩
 ·have j:decide ((l.length:Int)<=a)=false:=(by simp;omega);have b:=cQ (show hZ m l=false by simp[hZ,h]);clear h d;go_in;go_wp2;go_ret;exact⟨by rw[b.out];rfl,Az _ _⟩
theorem aYa(v:Ay)(s:SigD)(w:Aw)(hs:SigV w v s):
  AQ cZ 45 #[v] w fun e w'=>e = .returned (.bool (sigOk s))/\AJ w.heap.size w w':=by
 obtain⟨a,b,rfl,hi,f⟩:=hs;obtain⟨m,ci,rfl⟩:=hi.shape;obtain⟨n,o,rfl⟩:=f.shape;have aj:=hi.cWv;have ak:=f.cWv;have d:=cQ (show AJ w.heap.size w (w.alloc (.cells #[.slice m s.inn.length ci,.slice n s.out.length o] 42))from(Az _ _).alloc (Aj _) _);have p:=cQ (hi.ir.below d.out (Aj _));have t:=cQ (f.ir.below d.out (Aj _));have g:=Blk.new w 42 #[.slice m s.inn.length ci,.slice n s.out.length o];have q:=cQ g;have u:=g.cell 0;have c1:=g.cell 1;simp at u c1;clear hi f g
 cases h:hZ 8 s.inn with
 | true=>
  have j:=cQ h;have k:=cQ (show sigOk s=hZ 8 s.out by simp only[sigOk,h,Bool.true_and]);clear h;go_in;go_wp2_with fail;refine(uX 8 8 rfl _ s.inn _ p.out (by omega)).mono ?_;rintro e x ⟨rfl,c⟩;rw[j.out];have i:=cQ (d.out.trans (c.mono d.out.size));have y:=cQ (t.out.below c (Aj _));have l:=q.out.below c q.out.lt;have z:=l.cell 0;have A:=l.cell 1;simp at z A;clear c l;go_wp2_with fail;refine(uX 8 8 rfl _ s.out _ y.out (by omega)).mono ?_;rintro e w2 ⟨rfl,r⟩;have B:=cQ (i.out.trans (r.mono i.out.size));clear r;go_wp2;go_ret;exact⟨by rw[k.out];rfl,B.out⟩
 | false=>
  have j:=cQ h;have k:=cQ (show sigOk s=false by simp only[sigOk,h,Bool.false_and]);clear h;go_in;go_wp2_with fail;refine(uX 8 8 rfl _ s.inn _ p.out (by omega)).mono ?_;rintro e x ⟨rfl,c⟩;rw[j.out];have i:=cQ (d.out.trans (c.mono d.out.size));clear c;go_wp2;go_ret;exact⟨by rw[k.out];rfl,i.out⟩
theorem aWk(v:Ay)(s:SigD)(w:Aw)(hs:SigV w v s):
  AQ cZ 44 #[v] w fun e w'=>e = .returned (.bool (!sigOk s))/\AJ w.heap.size w w':=by
 have f:=cQ hs;obtain⟨a,b,rfl,_⟩:=hs;have c:=cQ (show AJ w.heap.size w (w.alloc (.cells #[a,b] 42))from(Az _ _).alloc (Aj _) _);have g:=cQ (f.out.below c.out (Aj _));go_in;go_wp2_with fail;refine(aYa _ s _ g.out).mono ?_;rintro e w1 ⟨rfl,d⟩;have h:=cQ (c.out.trans (d.mono c.out.size));clear d;go_wp2;go_ret;exact⟨rfl,h.out⟩
theorem bKb(e:EnvD):(decide (e.imports<0)=true/\envOk e=false)\/(decide (e.imports<0)=false/\decide ((e.sigs.length:Int)<e.imports)=true/\envOk e=false) \/
  (decide (e.imports<0)=false/\decide ((e.sigs.length:Int)<e.imports)=false/\decide (64<(e.sigs.length:Int))=true/\envOk e=false) \/
  (decide (e.imports<0)=false/\decide ((e.sigs.length:Int)<e.imports)=false/\decide (64<(e.sigs.length:Int))=false/\((e.muts.length:Int) != (e.globals.length:Int))=true/\(e.muts.length != e.globals.length)=true/\envOk e=false) \/
  (decide (e.imports<0)=false/\decide ((e.sigs.length:Int)<e.imports)=false/\decide (64<(e.sigs.length:Int))=false/\((e.muts.length:Int) != (e.globals.length:Int))=false/\(e.muts.length != e.globals.length)=false/\envOk e=(hZ 32 e.globals && e.sigs.all sigOk)):=by
 by_cases h1:e.imports<0
 ·refine .inl ⟨by simpa using h1,?_⟩;simp only[envOk];rw[decide_eq_false (by omega)];rfl
 by_cases h2:(e.sigs.length:Int)<e.imports
 ·refine .inr (.inl ⟨by simp;omega,by simpa using h2,?_⟩);simp only[envOk];rw[decide_eq_false (by omega)];rfl
 by_cases a:64<(e.sigs.length:Int)
 ·refine .inr (.inr (.inl ⟨by simp;omega,by simp;omega,by simpa using a,?_⟩));simp only[envOk];rw[decide_eq_false (by omega)];rfl
 by_cases h4:e.muts.length=e.globals.length
 ·refine .inr (.inr (.inr (.inr ⟨by simp;omega,by simp;omega,by simp;omega,by simp;omega,by simp;omega,?_⟩)));simp only[envOk];rw[decide_eq_true (by omega)];rfl
 ·refine .inr (.inr (.inr (.inl ⟨by simp;omega,by simp;omega,by simp;omega,by simp;omega,by simp;omega,?_⟩)));simp only[envOk];rw[decide_eq_false (by omega)];rfl
theorem rW(v:Ay)(e:EnvD)(w:Aw)(hs:EnvV w v e):
  AQ cZ 31 #[v] w fun en w'=>en = .returned (.bool (envOk e))/\AJ w.heap.size w w':=by
 obtain⟨a,b,d,rfl,hs,hg,u⟩:=hs;obtain⟨k,cs,rfl,_⟩:=hs.len;obtain⟨m,cg,rfl⟩:=hg.shape;obtain⟨n,o,rfl,_⟩:=u;have aj:=hg.cWv;have ak:=hs.cWv;have c:=cQ (show AJ w.heap.size w (w.alloc (.cells #[.slice k e.sigs.length cs,.int .i64 e.imports,.slice m e.globals.length cg,.slice n e.muts.length o,.bool e.mem] 26))from(Az _ _).alloc (Aj _) _);have y:=cQ (hs.below c.out (Aj _) (fun _ _ h=>h.below c.out (Aj _)));have p:=cQ (hg.ir.below c.out (Aj _));have q:=cQ (Blk.new w 26 #[.slice k e.sigs.length cs,.int .i64 e.imports,.slice m e.globals.length cg,.slice n e.muts.length o,.bool e.mem]);clear hs hg;rcases bKb e with⟨h1,he⟩ | ⟨h1,h2,he⟩ | ⟨h1,h2,r,he⟩ | ⟨h1,h2,r,z,A,he⟩ | ⟨h1,h2,r,z,A,he⟩
 ·have f:=cQ he;clear he;go_in;go_wp2;go_ret;exact⟨by rw[f.out];rfl,c.out⟩
 ·have f:=cQ he;clear he;go_in;go_wp2;go_ret;exact⟨by rw[f.out];rfl,c.out⟩
 ·have f:=cQ he;clear he;go_in;go_wp2;go_ret;exact⟨by rw[f.out];rfl,c.out⟩
 ·have f:=cQ he;clear he;go_in;go_wp2;go_ret;exact⟨by rw[f.out];rfl,c.out⟩
 ·cases i:hZ 32 e.globals with
  | false=>
   rw[i]at he;have f:=cQ he;have l:=cQ i;clear he i;go_in;go_wp2_with fail;refine(uX 32 32 rfl _ e.globals _ p.out (by omega)).mono ?_;rintro en B ⟨rfl,g⟩;rw[l.out];have j:=cQ (c.out.trans (g.mono c.out.size));clear g;go_wp2;go_ret;exact⟨by rw[f.out];rfl,j.out⟩
  | true=>
   rw[i]at he;have f:=cQ (show envOk e = !(e.sigs.any fun x=>!sigOk x) by rw[he,aKp];rfl);have l:=cQ i;clear he i;go_in;go_wp2_with fail;refine(uX 32 32 rfl _ e.globals _ p.out (by omega)).mono ?_;rintro en B ⟨rfl,g⟩;rw[l.out];have j:=cQ (c.out.trans (g.mono c.out.size));have C:=cQ (y.out.below g (Aj _) (fun _ _ h=>h.below g (Aj _)));have s:=q.out.below g q.out.lt;have D:=s.cell 0;simp at D;clear g s;go_wp2_with fail;refine(aZy k e.sigs.length cs e.sigs (fun x=>!sigOk x) _ C.out (by omega) (fun x hx v w' hb hv=>aWk v x w' hv)).mono ?_;rintro en w2 ⟨rfl,t⟩;have E:=cQ (j.out.trans (t.mono j.out.size));clear t;go_wp2;go_ret;exact⟨by rw[f.out];rfl,E.out⟩
end Go.Proofs.YtabibkpfgmolkaaDoor
namespace Go.Proofs.YtabibkpfgmolkaaDoor
variable {w:Aw}{g n c k:Nat}{l:List Int}{A:Option Addr}{t:TypeId}{v:Ay}{x:Int}
def NewV(base:Nat)(v:Ay):Prop:=∀ A n c,v = .slice A n c->∀ a,A=some a->base<=a.block
theorem NewV.nil(base:Nat):NewV base (.slice none 0 0):=by
 intro A n c e a ha;injection e with e;rw[<-e]at ha;cases ha
theorem NewV.at{base g n c:Nat}(h:base<=g):NewV base (.slice (some ⟨g,0,none⟩) n c):=by
 intro A n c e a ha;injection e with e;rw[<-e]at ha;injection ha with ha;subst ha;exact h
def ShP(fr:Bool)(F:Option (List Int×List Int))(n:Nat)(e hi:Int)(w:Aw)(en:Ending)(w':Aw):Prop:=
 ∃ (c d:Ay) (most:Nat) (a b:Int) (ok:Bool) (i o:List Int),en = .returned (.tuple #[.agg #[c,d,.int .u64 (most:Int),.int .i64 a,.int .i64 b],.bool ok])/\IR w' c i/\IR w' d o/\most<18446744073709551616 /\
  (F=none->ok=false\/most<n)/\(∀ x,F=some x->ok=true/\n<=most/\x=(i,o)/\a=e/\b=hi)/\(fr=true->NewV w.heap.size c/\NewV w.heap.size d)/\AJ w.heap.size w w'
theorem ShP.no{fr:Bool}{F:Option (List Int×List Int)}{n:Nat}{a hi:Int}{w':Aw}(hF:F=none)(b:AJ w.heap.size w w'):
  ShP fr F n a hi w (.returned (.tuple #[.agg #[.slice none 0 0,.slice none 0 0,.int .u64 0,.int .i64 0,.int .i64 0],.bool false])) w':=
 ⟨_,_,0,0,0,false,[],[],rfl,IR.nil _,IR.nil _,by omega,fun _=>.inl rfl,(fun x h=>by rw[hF]at h;cases h),fun _=>⟨NewV.nil _,NewV.nil _⟩,b⟩
theorem dZ{e:TypeId}{a b c d f:Ay}(h:Blk w g e #[a,b,c,d,f]):
  w.cell? ⟨g,0,none⟩=some a/\w.cell? ⟨g,1,none⟩=some b/\w.cell? ⟨g,2,none⟩=some c/\w.cell? ⟨g,3,none⟩=some d/\w.cell? ⟨g,4,none⟩=some f:=by
 have i:=h.cell 0;have c1:=h.cell 1;have j:=h.cell 2;have k:=h.cell 3;have l:=h.cell 4;simp at i c1 j k l;exact⟨i,c1,j,k,l⟩
theorem frz{e:TypeId}{cs:Array Ay}(h:Blk w g e cs)(i:Nat):w.frozen? ⟨g,i,none⟩=false:=frozen_of_row w g i _ _ h
theorem rV{B:Nat}{w':Aw}(h:AJ B w w')(hg:B<=g)(a b c d e:Ay):
  AJ B w (((((w'.setCell ⟨g,0,none⟩ a).setCell ⟨g,1,none⟩ b).setCell ⟨g,2,none⟩ c).setCell ⟨g,3,none⟩ d).setCell ⟨g,4,none⟩ e):=
 ((((h.setCell (p:=⟨g,0,none⟩) hg a).setCell (p:=⟨g,1,none⟩) hg b).setCell (p:=⟨g,2,none⟩) hg c).setCell (p:=⟨g,3,none⟩) hg d).setCell (p:=⟨g,4,none⟩) hg e
theorem aJm{cs:Array Ay}(h:Blk w k t cs)(hg:k≠g)(a b c d e:Ay):
  Blk (((((w.setCell ⟨g,0,none⟩ a).setCell ⟨g,1,none⟩ b).setCell ⟨g,2,none⟩ c).setCell ⟨g,3,none⟩ d).setCell ⟨g,4,none⟩ e) k t cs:=
 ((((h.setCell (p:=⟨g,0,none⟩) a hg).setCell (p:=⟨g,1,none⟩) b hg).setCell (p:=⟨g,2,none⟩) c hg).setCell (p:=⟨g,3,none⟩) d hg).setCell (p:=⟨g,4,none⟩) e hg
theorem bZe(m:Bool)(n:Nat)(hn:n<18446744073709551616)(w:Aw):AQ cZ 83 #[.int .i64 257,.bool m] w (ShP true (hY m 257 n) n 0 0 w):=by
 have ha:acc 257=none:=(by kernel_rfl);have j:=cQ (show eJ 257 = .tuple #[.int .i64 0,.int .i64 0,.bool false,.bool false] by simp[eJ,ha]);have c:=cQ (show hY m 257 n=if m=false then none else if n<=8589934592 then some ([127],[])else none by simp[hY]);clear ha;have k:=cQ hn;clear hn;go_in;go_wp2_with fail;have d:=cQ (show AJ w.heap.size w ((w.alloc (.cells #[.slice none 0 0,.slice none 0 0,.int .u64 0,.int .i64 0,.int .i64 0] 121)).alloc (.cells #[.int .i64 127] 3))from((Az _ _).alloc (Aj _) _).alloc (by simp) _);have f:=cQ ((Blk.new w 121 #[.slice none 0 0,.slice none 0 0,.int .u64 0,.int .i64 0,.int .i64 0]).alloc (.cells #[.int .i64 127] 3));have g:=cQ (Blk.newAt (w.alloc (.cells #[.slice none 0 0,.slice none 0 0,.int .u64 0,.int .i64 0,.int .i64 0] 121)) (N:=w.heap.size+1) 3 #[.int .i64 127] (by simp));refine(gY 257 _).mono ?_;rintro e w1 ⟨rfl,b⟩;rw[j.out];have h:=cQ (d.out.trans (b.mono d.out.size));have a:=cQ (f.out.below b f.out.lt);have i:=cQ (g.out.below b g.out.lt);clear b;have l:=a.out.lt;have ae:=i.out.lt;obtain⟨o,p,q,r,s⟩:=dZ a.out;have z0:=frz a.out 0;have z1:=frz a.out 1;have z2:=frz a.out 2;have z3:=frz a.out 3;have z4:=frz a.out 4;go_wp2;refine bodyPost_ret (v:=.tuple #[.agg #[.slice (some ⟨w.heap.size+1,0,none⟩) 1 1,.slice none 0 0,.int .u64 8589934592,.int .i64 0,.int .i64 0],.bool m]) (by simp[results,results83,go_sem,l,o,p,q,r,s]) rfl ?_;have:=k.out;refine⟨_,_,8589934592,0,0,m,[127],[],rfl,?_,?_,by omega,?_,?_,?_,?_⟩
 ·exact IR.one (t:=3) (x:=127) (aJm i.out (by omega) _ _ _ _ _)
 ·exact IR.nil _
 ·intro hf;rw[c.out]at hf
  cases m with
  | false=>exact .inl rfl
  | true=>exact .inr (by simp at hf;omega)
 ·intro x hf;rw[c.out]at hf
  cases m with
  | false=>simp at hf
  | true=>
   simp at hf;exact⟨rfl,by omega,hf.2.symm,rfl,rfl⟩
 ·exact fun _=>⟨NewV.at (by have:=h.out.size;omega),NewV.nil _⟩
 ·exact(rV h.out (Aj _) _ _ _ _ _)
theorem bJw(m:Bool)(n:Nat)(hn:n<18446744073709551616)(w:Aw):AQ cZ 83 #[.int .i64 63,.bool m] w (ShP true (hY m 63 n) n 0 0 w):=by
 have ha:acc 63=none:=(by kernel_rfl);have j:=cQ (show eJ 63 = .tuple #[.int .i64 0,.int .i64 0,.bool false,.bool false] by simp[eJ,ha]);have c:=cQ (show hY m 63 n=if m=false then none else if n=0 then some ([],[127])else none by simp[hY,ha]);clear ha;have k:=cQ hn;clear hn;go_in;go_wp2_with fail;have d:=cQ (show AJ w.heap.size w ((w.alloc (.cells #[.slice none 0 0,.slice none 0 0,.int .u64 0,.int .i64 0,.int .i64 0] 121)).alloc (.cells #[.int .i64 127] 3))from((Az _ _).alloc (Aj _) _).alloc (by simp) _);have f:=cQ ((Blk.new w 121 #[.slice none 0 0,.slice none 0 0,.int .u64 0,.int .i64 0,.int .i64 0]).alloc (.cells #[.int .i64 127] 3));have g:=cQ (Blk.newAt (w.alloc (.cells #[.slice none 0 0,.slice none 0 0,.int .u64 0,.int .i64 0,.int .i64 0] 121)) (N:=w.heap.size+1) 3 #[.int .i64 127] (by simp));refine(gY 63 _).mono ?_;rintro e w1 ⟨rfl,b⟩;rw[j.out];have h:=cQ (d.out.trans (b.mono d.out.size));have a:=cQ (f.out.below b f.out.lt);have i:=cQ (g.out.below b g.out.lt);clear b;have l:=a.out.lt;have ae:=i.out.lt;obtain⟨o,p,q,r,s⟩:=dZ a.out;have z0:=frz a.out 0;have z1:=frz a.out 1;have z2:=frz a.out 2;have z3:=frz a.out 3;have z4:=frz a.out 4;go_wp2;refine bodyPost_ret (v:=.tuple #[.agg #[.slice none 0 0,.slice (some ⟨w.heap.size+1,0,none⟩) 1 1,.int .u64 0,.int .i64 0,.int .i64 0],.bool m]) (by simp[results,results83,go_sem,l,o,p,q,r,s]) rfl ?_;have:=k.out;refine⟨_,_,0,0,0,m,[],[127],rfl,?_,?_,by omega,?_,?_,?_,?_⟩
 ·exact IR.nil _
 ·exact IR.one (t:=3) (x:=127) (aJm i.out (by omega) _ _ _ _ _)
 ·intro hf;rw[c.out]at hf
  cases m with
  | false=>exact .inl rfl
  | true=>exact .inr (by simp at hf;omega)
 ·intro x hf;rw[c.out]at hf
  cases m with
  | false=>simp at hf
  | true=>
   simp at hf;exact⟨rfl,by omega,hf.2.symm,rfl,rfl⟩
 ·exact fun _=>⟨NewV.nil _,NewV.at (by have:=h.out.size;omega)⟩
 ·exact(rV h.out (Aj _) _ _ _ _ _)
theorem bJx(m:Bool)(n:Nat)(hn:n<18446744073709551616)(w:Aw):AQ cZ 83 #[.int .i64 64,.bool m] w (ShP true (hY m 64 n) n 0 0 w):=by
 have ha:acc 64=none:=(by kernel_rfl);have j:=cQ (show eJ 64 = .tuple #[.int .i64 0,.int .i64 0,.bool false,.bool false] by simp[eJ,ha]);have f:=cQ (show hY m 64 n=if m=false then none else if n=0 then some ([127],[127])else none by simp[hY,ha]);clear ha;have k:=cQ hn;clear hn;go_in;go_wp2_with fail;have g:=cQ (show AJ w.heap.size w ((w.alloc (.cells #[.slice none 0 0,.slice none 0 0,.int .u64 0,.int .i64 0,.int .i64 0] 121)).alloc (.cells #[.int .i64 127] 3))from((Az _ _).alloc (Aj _) _).alloc (by simp) _);have h:=cQ ((Blk.new w 121 #[.slice none 0 0,.slice none 0 0,.int .u64 0,.int .i64 0,.int .i64 0]).alloc (.cells #[.int .i64 127] 3));have i:=cQ (Blk.newAt (w.alloc (.cells #[.slice none 0 0,.slice none 0 0,.int .u64 0,.int .i64 0,.int .i64 0] 121)) (N:=w.heap.size+1) 3 #[.int .i64 127] (by simp));refine(gY 64 _).mono ?_;rintro e w1 ⟨rfl,b⟩;rw[j.out];have c:=cQ (g.out.trans (b.mono g.out.size));have a:=cQ (h.out.below b h.out.lt);have d:=cQ (i.out.below b i.out.lt);clear b;have l:=a.out.lt;have ae:=d.out.lt;obtain⟨o,p,q,r,s⟩:=dZ a.out;have z0:=frz a.out 0;have z1:=frz a.out 1;have z2:=frz a.out 2;have z3:=frz a.out 3;have z4:=frz a.out 4;go_wp2;refine bodyPost_ret (v:=.tuple #[.agg #[.slice (some ⟨w.heap.size+1,0,none⟩) 1 1,.slice (some ⟨w.heap.size+1,0,none⟩) 1 1,.int .u64 0,.int .i64 0,.int .i64 0],.bool m]) (by simp[results,results83,go_sem,l,o,p,q,r,s]) rfl ?_;have:=k.out;refine⟨_,_,0,0,0,m,[127],[127],rfl,?_,?_,by omega,?_,?_,?_,?_⟩
 ·exact IR.one (t:=3) (x:=127) (aJm d.out (by omega) _ _ _ _ _)
 ·exact IR.one (t:=3) (x:=127) (aJm d.out (by omega) _ _ _ _ _)
 ·intro hf;rw[f.out]at hf
  cases m with
  | false=>exact .inl rfl
  | true=>exact .inr (by simp at hf;omega)
 ·intro x hf;rw[f.out]at hf
  cases m with
  | false=>simp at hf
  | true=>
   simp at hf;exact⟨rfl,by omega,hf.2.symm,rfl,rfl⟩
 ·exact fun _=>⟨NewV.at (by have:=c.out.size;omega),NewV.at (by have:=c.out.size;omega)⟩
 ·exact(rV c.out (Aj _) _ _ _ _ _)
theorem aWy(op k wd:Int)(i:Bool)(ha:acc op=some (k,wd,true,i))(m:Bool)(n:Nat)(hn:n<18446744073709551616)(w:Aw):AQ cZ 83 #[.int .i64 op,.bool m] w (ShP true (hY m op n) n 0 0 w):=by
 have j:=cQ (show eJ op = .tuple #[.int .i64 k,.int .i64 wd,.bool true,.bool true] by simp[eJ,ha]);have l:=(jX ha).2.2;have d:=cQ (show hY m op n=if m=false then none else if n<=4294967295 then some ([127,k],[])else none by simp only[hY,ha];rw[if_neg (show ¬op=257 by omega)];rfl);have g0:(op == 257)=false:=(by simp;omega);have g1:(op == 63)=false:=(by simp;omega);have g2:(op == 64)=false:=(by simp;omega);clear ha l;have o:=cQ hn;clear hn;go_in;go_wp2_with fail;have f:=cQ (show AJ w.heap.size w ((w.alloc (.cells #[.slice none 0 0,.slice none 0 0,.int .u64 0,.int .i64 0,.int .i64 0] 121)).alloc (.cells #[.int .i64 127] 3))from((Az _ _).alloc (Aj _) _).alloc (by simp) _);have g:=cQ ((Blk.new w 121 #[.slice none 0 0,.slice none 0 0,.int .u64 0,.int .i64 0,.int .i64 0]).alloc (.cells #[.int .i64 127] 3));have h:=cQ (Blk.newAt (w.alloc (.cells #[.slice none 0 0,.slice none 0 0,.int .u64 0,.int .i64 0,.int .i64 0] 121)) (N:=w.heap.size+1) 3 #[.int .i64 127] (by simp));refine(gY op _).mono ?_;rintro e p ⟨rfl,b⟩;rw[j.out];have c:=cQ (f.out.trans (b.mono f.out.size));have a:=cQ (g.out.below b g.out.lt);have q:=cQ (h.out.below b h.out.lt);clear b;have r:=a.out.lt;have ae:=q.out.lt;obtain⟨s,u,z,A,B⟩:=dZ a.out;have z0:=frz a.out 0;have z1:=frz a.out 1;have z2:=frz a.out 2;have z3:=frz a.out 3;have z4:=frz a.out 4;go_wp2;refine bodyPost_ret (v:=.tuple #[.agg #[.slice (some ⟨p.heap.size,0,none⟩) 2 2,.slice none 0 0,.int .u64 4294967295,.int .i64 0,.int .i64 0],.bool m]) (by simp[results,results83,go_sem,r,s,u,z,A,B]) rfl ?_;have:=o.out;refine⟨_,_,4294967295,0,0,m,[127,k],[],rfl,?_,?_,by omega,?_,?_,?_,?_⟩
 ·exact IR.two (t:=3) (x:=127) (y:=k) (Blk.newAt _ _ _ (by simp))
 ·exact IR.nil _
 ·intro hf;rw[d.out]at hf
  cases m with
  | false=>exact .inl rfl
  | true=>exact .inr (by simp at hf;omega)
 ·intro x hf;rw[d.out]at hf
  cases m with
  | false=>simp at hf
  | true=>
   simp at hf;exact⟨rfl,by omega,hf.2.symm,rfl,rfl⟩
 ·exact fun _=>⟨NewV.at (by have:=c.out.size;omega),NewV.nil _⟩
 ·exact(rV c.out (Aj _) _ _ _ _ _).alloc (by simp;have:=c.out.size;omega) _
theorem bQe(op k wd:Int)(j:Bool)(ha:acc op=some (k,wd,false,j))(m:Bool)(n:Nat)(hn:n<18446744073709551616)(w:Aw):AQ cZ 83 #[.int .i64 op,.bool m] w (ShP true (hY m op n) n 0 0 w):=by
 have l:=cQ (show eJ op = .tuple #[.int .i64 k,.int .i64 wd,.bool false,.bool true] by simp[eJ,ha]);have o:=(jX ha).2.2;have d:=cQ (show hY m op n=if m=false then none else if n<=4294967295 then some ([127],[k])else none by simp only[hY,ha];rw[if_neg (show ¬op=257 by omega)];rfl);have g0:(op == 257)=false:=(by simp;omega);have g1:(op == 63)=false:=(by simp;omega);have g2:(op == 64)=false:=(by simp;omega);clear ha o;have p:=cQ hn;clear hn;go_in;go_wp2_with fail;have f:=cQ (show AJ w.heap.size w ((w.alloc (.cells #[.slice none 0 0,.slice none 0 0,.int .u64 0,.int .i64 0,.int .i64 0] 121)).alloc (.cells #[.int .i64 127] 3))from((Az _ _).alloc (Aj _) _).alloc (by simp) _);have g:=cQ ((Blk.new w 121 #[.slice none 0 0,.slice none 0 0,.int .u64 0,.int .i64 0,.int .i64 0]).alloc (.cells #[.int .i64 127] 3));have h:=cQ (Blk.newAt (w.alloc (.cells #[.slice none 0 0,.slice none 0 0,.int .u64 0,.int .i64 0,.int .i64 0] 121)) (N:=w.heap.size+1) 3 #[.int .i64 127] (by simp));refine(gY op _).mono ?_;rintro e q ⟨rfl,b⟩;rw[l.out];have c:=cQ (f.out.trans (b.mono f.out.size));have a:=cQ (g.out.below b g.out.lt);have i:=cQ (h.out.below b h.out.lt);clear b;have r:=a.out.lt;have ae:=i.out.lt;obtain⟨s,u,y,z,A⟩:=dZ a.out;have z0:=frz a.out 0;have z1:=frz a.out 1;have z2:=frz a.out 2;have z3:=frz a.out 3;have z4:=frz a.out 4;go_wp2;refine bodyPost_ret (v:=.tuple #[.agg #[.slice (some ⟨w.heap.size+1,0,none⟩) 1 1,.slice (some ⟨q.heap.size,0,none⟩) 1 1,.int .u64 4294967295,.int .i64 0,.int .i64 0],.bool m]) (by simp[results,results83,go_sem,r,s,u,y,z,A]) rfl ?_;have:=p.out;refine⟨_,_,4294967295,0,0,m,[127],[k],rfl,?_,?_,by omega,?_,?_,?_,?_⟩
 ·exact IR.one (t:=3) (x:=127) ((aJm i.out (by omega) _ _ _ _ _).alloc _)
 ·exact IR.one (t:=3) (x:=k) (Blk.newAt _ _ _ (by simp))
 ·intro hf;rw[d.out]at hf
  cases m with
  | false=>exact .inl rfl
  | true=>exact .inr (by simp at hf;omega)
 ·intro x hf;rw[d.out]at hf
  cases m with
  | false=>simp at hf
  | true=>
   simp at hf;exact⟨rfl,by omega,hf.2.symm,rfl,rfl⟩
 ·exact fun _=>⟨NewV.at (by have:=c.out.size;omega),NewV.at (by have:=c.out.size;omega)⟩
 ·exact(rV c.out (Aj _) _ _ _ _ _).alloc (by simp;have:=c.out.size;omega) _
theorem bQf(op:Int)(ha:acc op=none)(c:(op == 257)=false)(d:(op == 63)=false)(f:(op == 64)=false)(m:Bool)(n:Nat)(hn:n<18446744073709551616)(w:Aw):AQ cZ 83 #[.int .i64 op,.bool m] w (ShP true (hY m op n) n 0 0 w):=by
 have j:=cQ (show eJ op = .tuple #[.int .i64 0,.int .i64 0,.bool false,.bool false] by simp[eJ,ha])
 have k:=cQ (show hY m op n=none by
  simp at c d f;simp only[hY,ha,c,d,f,if_false]
  cases m <;> rfl)
 clear ha;have HN:=cQ hn;clear hn;go_in;go_wp2_with fail;have g:=cQ (show AJ w.heap.size w ((w.alloc (.cells #[.slice none 0 0,.slice none 0 0,.int .u64 0,.int .i64 0,.int .i64 0] 121)).alloc (.cells #[.int .i64 127] 3))from((Az _ _).alloc (Aj _) _).alloc (by simp) _);have h:=cQ ((Blk.new w 121 #[.slice none 0 0,.slice none 0 0,.int .u64 0,.int .i64 0,.int .i64 0]).alloc (.cells #[.int .i64 127] 3));have i:=cQ (Blk.newAt (w.alloc (.cells #[.slice none 0 0,.slice none 0 0,.int .u64 0,.int .i64 0,.int .i64 0] 121)) (N:=w.heap.size+1) 3 #[.int .i64 127] (by simp));refine(gY op _).mono ?_;rintro e w1 ⟨rfl,b⟩;rw[j.out];have l:=cQ (g.out.trans (b.mono g.out.size));have a:=cQ (h.out.below b h.out.lt);have o:=cQ (i.out.below b i.out.lt);clear b;have p:=a.out.lt;have ae:=o.out.lt;obtain⟨q,r,s,t,u⟩:=dZ a.out;have z0:=frz a.out 0;have z1:=frz a.out 1;have z2:=frz a.out 2;have z3:=frz a.out 3;have z4:=frz a.out 4;go_wp2;refine bodyPost_ret (v:=.tuple #[.agg #[.slice none 0 0,.slice none 0 0,.int .u64 0,.int .i64 0,.int .i64 0],.bool false]) (by simp[results,results83,go_sem,p,q,r,s,t,u]) rfl ?_;exact ShP.no k.out (rV l.out (Aj _) _ _ _ _ _)
theorem bZf(op:Int)(m:Bool)(n:Nat)(hn:n<18446744073709551616)(w:Aw):AQ cZ 83 #[.int .i64 op,.bool m] w (ShP true (hY m op n) n 0 0 w):=by
 cases ha:acc op with
 | some r=>
  obtain⟨k,wd,st,a⟩:=r
  cases st with
  | true=>exact aWy op k wd a ha m n hn w
  | false=>exact bQe op k wd a ha m n hn w
 | none=>
  by_cases b:op=257
  ·subst b;exact bZe m n hn w
  by_cases h1:op=63
  ·subst h1;exact bJw m n hn w
  by_cases h2:op=64
  ·subst h2;exact bJx m n hn w
  exact bQf op ha (by simpa using b) (by simpa using h1) (by simpa using h2) m n hn w
theorem al4(w:Aw)(a b c d:Obj):AJ w.heap.size w ((((w.alloc a).alloc b).alloc c).alloc d):=((((Az _ _).alloc (Aj _) _).alloc (by simp) _).alloc (by simp;omega) _).alloc (by simp;omega) _
theorem al5(w:Aw)(a b c d e:Obj):AJ w.heap.size w (((((w.alloc a).alloc b).alloc c).alloc d).alloc e):=(al4 w a b c d).alloc (by simp;omega) _
theorem al6(w:Aw)(a b c d e f:Obj):AJ w.heap.size w ((((((w.alloc a).alloc b).alloc c).alloc d).alloc e).alloc f):=(al5 w a b c d e).alloc (by simp;omega) _
theorem at3(w:Aw)(a b:Obj)(t:TypeId)(cs:Array Ay):Blk (((w.alloc a).alloc b).alloc (.cells cs t)) (w.heap.size+1+1) t cs:=Blk.newAt _ _ _ (by simp)
theorem at4(w:Aw)(a b c:Obj)(t:TypeId)(cs:Array Ay):Blk ((((w.alloc a).alloc b).alloc c).alloc (.cells cs t)) (w.heap.size+1+1+1) t cs:=Blk.newAt _ _ _ (by simp)
theorem at5(w:Aw)(a b c d:Obj)(t:TypeId)(cs:Array Ay):Blk (((((w.alloc a).alloc b).alloc c).alloc d).alloc (.cells cs t)) (w.heap.size+1+1+1+1) t cs:=Blk.newAt _ _ _ (by simp)
theorem at6(w:Aw)(a b c d e:Obj)(t:TypeId)(cs:Array Ay):Blk ((((((w.alloc a).alloc b).alloc c).alloc d).alloc e).alloc (.cells cs t)) (w.heap.size+1+1+1+1+1) t cs:=Blk.newAt _ _ _ (by simp)
theorem bQg(e:EnvD)(s:SigD)(f vs:Ay)(n:Nat)(hn:n<18446744073709551616)(w:Aw)(he:EnvV w f e)(hs:SigV w vs s):AQ cZ 66 #[f,vs,.int .i64 256,.int .u64 (n:Int)] w (ShP false (dJ e s 256 n) n (mJ 256) (lY 256) w):=by
 obtain⟨a,b,d,rfl,h1,h2,g⟩:=he;obtain⟨As,cs,rfl,_⟩:=h1.len;obtain⟨Ag,cg,rfl⟩:=h2.shape;have k:=g;obtain⟨Am,cm,rfl,_⟩:=g;obtain⟨p,q,rfl,i,c⟩:=hs;obtain⟨Ap,cp,rfl⟩:=i.shape;obtain⟨Aq,cq,rfl⟩:=c.shape;have HO:=cQ c.ir;have j:=cQ (show dJ e s 256 n=some ([],[0]) by simp[dJ]);have l:=cQ hn;clear h1 h2 i c hn k;go_in;go_wp2;refine bodyPost_ret (v:=.tuple #[.agg #[.slice none 0 0,.slice (some ⟨w.heap.size+1+1+1+1,0,none⟩) 1 1,.int .u64 18446744073709551615,.int .i64 0,.int .i64 0],.bool true]) (by simp[results,results66,go_sem]) rfl ?_;have:=l.out;refine⟨_,_,18446744073709551615,0,0,true,[],[0],rfl,?_,?_,by omega,?_,?_,(fun h=>by cases h),?_⟩
 ·exact IR.nil _
 ·exact IR.one (x:=0) (at5 _ _ _ _ _ _ _)
 ·intro hf;rw[j.out]at hf;cases hf
 ·intro x hf;rw[j.out]at hf;simp at hf;exact⟨rfl,by omega,hf.symm,by decide,by decide⟩
 ·exact al5 _ _ _ _ _ _
theorem bQh(e:EnvD)(s:SigD)(f vs:Ay)(n:Nat)(hn:n<18446744073709551616)(w:Aw)(he:EnvV w f e)(hs:SigV w vs s):AQ cZ 66 #[f,vs,.int .i64 272,.int .u64 (n:Int)] w (ShP false (dJ e s 272 n) n (mJ 272) (lY 272) w):=by
 obtain⟨a,b,d,rfl,h1,h2,g⟩:=he;obtain⟨As,cs,rfl,_⟩:=h1.len;obtain⟨Ag,cg,rfl⟩:=h2.shape;have k:=g;obtain⟨Am,cm,rfl,_⟩:=g;obtain⟨p,q,rfl,i,c⟩:=hs;obtain⟨Ap,cp,rfl⟩:=i.shape;obtain⟨Aq,cq,rfl⟩:=c.shape;have HO:=cQ c.ir;have j:=cQ (show dJ e s 272 n=if n=0 then some ([0],[0])else none by simp[dJ]);have l:=cQ hn;clear h1 h2 i c hn k;go_in;go_wp2;refine bodyPost_ret (v:=.tuple #[.agg #[.slice (some ⟨w.heap.size+1+1+1+1,0,none⟩) 1 1,.slice (some ⟨w.heap.size+1+1+1+1+1,0,none⟩) 1 1,.int .u64 0,.int .i64 0,.int .i64 0],.bool true]) (by simp[results,results66,go_sem]) rfl ?_;have:=l.out;refine⟨_,_,0,0,0,true,[0],[0],rfl,?_,?_,by omega,?_,?_,(fun h=>by cases h),?_⟩
 ·exact IR.one (x:=0) ((at5 _ _ _ _ _ _ _).alloc _)
 ·exact IR.one (x:=0) (at6 _ _ _ _ _ _ _ _)
 ·intro hf;rw[j.out]at hf;exact .inr (by simp at hf;omega)
 ·intro x hf;rw[j.out]at hf;simp at hf;exact⟨rfl,by omega,hf.2.symm,by decide,by decide⟩
 ·exact al6 _ _ _ _ _ _ _
theorem bQi(e:EnvD)(s:SigD)(f vs:Ay)(n:Nat)(hn:n<18446744073709551616)(w:Aw)(he:EnvV w f e)(hs:SigV w vs s):AQ cZ 66 #[f,vs,.int .i64 273,.int .u64 (n:Int)] w (ShP false (dJ e s 273 n) n (mJ 273) (lY 273) w):=by
 obtain⟨a,b,d,rfl,h1,h2,g⟩:=he;obtain⟨As,cs,rfl,_⟩:=h1.len;obtain⟨Ag,cg,rfl⟩:=h2.shape;have k:=g;obtain⟨Am,cm,rfl,_⟩:=g;obtain⟨p,q,rfl,i,c⟩:=hs;obtain⟨Ap,cp,rfl⟩:=i.shape;obtain⟨Aq,cq,rfl⟩:=c.shape;have HO:=cQ c.ir;have j:=cQ (show dJ e s 273 n=if n=0 then some ([],[])else none by simp[dJ]);have l:=cQ hn;clear h1 h2 i c hn k;go_in;go_wp2;refine bodyPost_ret (v:=.tuple #[.agg #[.slice none 0 0,.slice none 0 0,.int .u64 0,.int .i64 1,.int .i64 1],.bool true]) (by simp[results,results66,go_sem]) rfl ?_;have:=l.out;refine⟨_,_,0,1,1,true,[],[],rfl,?_,?_,by omega,?_,?_,(fun h=>by cases h),?_⟩
 ·exact IR.nil _
 ·exact IR.nil _
 ·intro hf;rw[j.out]at hf;exact .inr (by simp at hf;omega)
 ·intro x hf;rw[j.out]at hf;simp at hf;exact⟨rfl,by omega,hf.2.symm,by decide,by decide⟩
 ·exact al4 _ _ _ _ _
theorem bQj(e:EnvD)(s:SigD)(f vs:Ay)(n:Nat)(hn:n<18446744073709551616)(w:Aw)(he:EnvV w f e)(hs:SigV w vs s):AQ cZ 66 #[f,vs,.int .i64 274,.int .u64 (n:Int)] w (ShP false (dJ e s 274 n) n (mJ 274) (lY 274) w):=by
 obtain⟨a,b,d,rfl,h1,h2,g⟩:=he;obtain⟨As,cs,rfl,_⟩:=h1.len;obtain⟨Ag,cg,rfl⟩:=h2.shape;have k:=g;obtain⟨Am,cm,rfl,_⟩:=g;obtain⟨p,q,rfl,i,c⟩:=hs;obtain⟨Ap,cp,rfl⟩:=i.shape;obtain⟨Aq,cq,rfl⟩:=c.shape;have HO:=cQ c.ir;have j:=cQ (show dJ e s 274 n=if n=0 then some ([127],[])else none by simp[dJ]);have l:=cQ hn;clear h1 h2 i c hn k;go_in;go_wp2;refine bodyPost_ret (v:=.tuple #[.agg #[.slice (some ⟨w.heap.size+1+1+1,0,none⟩) 1 1,.slice none 0 0,.int .u64 0,.int .i64 1,.int .i64 1],.bool true]) (by simp[results,results66,go_sem]) rfl ?_;have:=l.out;refine⟨_,_,0,1,1,true,[127],[],rfl,?_,?_,by omega,?_,?_,(fun h=>by cases h),?_⟩
 ·exact IR.one (x:=127) (at4 _ _ _ _ _ _)
 ·exact IR.nil _
 ·intro hf;rw[j.out]at hf;exact .inr (by simp at hf;omega)
 ·intro x hf;rw[j.out]at hf;simp at hf;exact⟨rfl,by omega,hf.2.symm,by decide,by decide⟩
 ·exact al4 _ _ _ _ _
theorem bQk(e:EnvD)(s:SigD)(f vs:Ay)(n:Nat)(hn:n<18446744073709551616)(w:Aw)(he:EnvV w f e)(hs:SigV w vs s):AQ cZ 66 #[f,vs,.int .i64 275,.int .u64 (n:Int)] w (ShP false (dJ e s 275 n) n (mJ 275) (lY 275) w):=by
 obtain⟨a,b,d,rfl,h1,h2,g⟩:=he;obtain⟨As,cs,rfl,_⟩:=h1.len;obtain⟨Ag,cg,rfl⟩:=h2.shape;have k:=g;obtain⟨Am,cm,rfl,_⟩:=g;obtain⟨p,q,rfl,i,c⟩:=hs;obtain⟨Ap,cp,rfl⟩:=i.shape;obtain⟨Aq,cq,rfl⟩:=c.shape;have HO:=cQ c.ir;have j:=cQ (show dJ e s 275 n=if n=0 then some ([127],[])else none by simp[dJ]);have l:=cQ hn;clear h1 h2 i c hn k;go_in;go_wp2;refine bodyPost_ret (v:=.tuple #[.agg #[.slice (some ⟨w.heap.size+1+1+1,0,none⟩) 1 1,.slice none 0 0,.int .u64 0,.int .i64 1,.int .i64 65],.bool true]) (by simp[results,results66,go_sem]) rfl ?_;have:=l.out;refine⟨_,_,0,1,65,true,[127],[],rfl,?_,?_,by omega,?_,?_,(fun h=>by cases h),?_⟩
 ·exact IR.one (x:=127) (at4 _ _ _ _ _ _)
 ·exact IR.nil _
 ·intro hf;rw[j.out]at hf;exact .inr (by simp at hf;omega)
 ·intro x hf;rw[j.out]at hf;simp at hf;exact⟨rfl,by omega,hf.2.symm,by decide,by decide⟩
 ·exact al4 _ _ _ _ _
theorem bQl(e:EnvD)(s:SigD)(f vs:Ay)(n:Nat)(hn:n<18446744073709551616)(w:Aw)(he:EnvV w f e)(hs:SigV w vs s):AQ cZ 66 #[f,vs,.int .i64 276,.int .u64 (n:Int)] w (ShP false (dJ e s 276 n) n (mJ 276) (lY 276) w):=by
 obtain⟨a,b,d,rfl,h1,h2,g⟩:=he;obtain⟨As,cs,rfl,_⟩:=h1.len;obtain⟨Ag,cg,rfl⟩:=h2.shape;have k:=g;obtain⟨Am,cm,rfl,_⟩:=g;obtain⟨p,q,rfl,i,c⟩:=hs;obtain⟨Ap,cp,rfl⟩:=i.shape;obtain⟨l,m,rfl⟩:=c.shape;have o:=cQ c.ir;have j:=cQ (show dJ e s 276 n=if n=0 then some (s.out,[])else none by simp[dJ]);have r:=cQ hn;clear h1 h2 i c hn k;go_in;go_wp2;refine bodyPost_ret (v:=.tuple #[.agg #[.slice l s.out.length m,.slice none 0 0,.int .u64 0,.int .i64 0,.int .i64 0],.bool true]) (by simp[results,results66,go_sem]) rfl ?_;have:=r.out;refine⟨_,_,0,0,0,true,s.out,[],rfl,?_,?_,by omega,?_,?_,(fun h=>by cases h),?_⟩
 ·exact o.out.below (al4 _ _ _ _ _) (Aj _)
 ·exact IR.nil _
 ·intro hf;rw[j.out]at hf;exact .inr (by simp at hf;omega)
 ·intro x hf;rw[j.out]at hf;simp at hf;exact⟨rfl,by omega,hf.2.symm,by decide,by decide⟩
 ·exact al4 _ _ _ _ _
theorem bQm(e:EnvD)(s:SigD)(f vs:Ay)(n:Nat)(hn:n<18446744073709551616)(w:Aw)(he:EnvV w f e)(hs:SigV w vs s):AQ cZ 66 #[f,vs,.int .i64 277,.int .u64 (n:Int)] w (ShP false (dJ e s 277 n) n (mJ 277) (lY 277) w):=by
 obtain⟨a,b,d,rfl,h1,h2,g⟩:=he;obtain⟨As,cs,rfl,_⟩:=h1.len;obtain⟨Ag,cg,rfl⟩:=h2.shape;have k:=g;obtain⟨Am,cm,rfl,_⟩:=g;obtain⟨p,q,rfl,i,c⟩:=hs;obtain⟨Ap,cp,rfl⟩:=i.shape;obtain⟨Aq,cq,rfl⟩:=c.shape;have HO:=cQ c.ir;have j:=cQ (show dJ e s 277 n=if n=0 then some ([],[])else none by simp[dJ]);have l:=cQ hn;clear h1 h2 i c hn k;go_in;go_wp2;refine bodyPost_ret (v:=.tuple #[.agg #[.slice none 0 0,.slice none 0 0,.int .u64 0,.int .i64 0,.int .i64 0],.bool true]) (by simp[results,results66,go_sem]) rfl ?_;have:=l.out;refine⟨_,_,0,0,0,true,[],[],rfl,?_,?_,by omega,?_,?_,(fun h=>by cases h),?_⟩
 ·exact IR.nil _
 ·exact IR.nil _
 ·intro hf;rw[j.out]at hf;exact .inr (by simp at hf;omega)
 ·intro x hf;rw[j.out]at hf;simp at hf;exact⟨rfl,by omega,hf.2.symm,by decide,by decide⟩
 ·exact al4 _ _ _ _ _
theorem bQn(e:EnvD)(s:SigD)(f vs:Ay)(n:Nat)(hn:n<18446744073709551616)(w:Aw)(he:EnvV w f e)(hs:SigV w vs s):AQ cZ 66 #[f,vs,.int .i64 258,.int .u64 (n:Int)] w (ShP false (dJ e s 258 n) n (mJ 258) (lY 258) w):=by
 obtain⟨a,b,d,rfl,h1,h2,g⟩:=he;obtain⟨As,cs,rfl,_⟩:=h1.len;obtain⟨Ag,cg,rfl⟩:=h2.shape;have k:=g;obtain⟨Am,cm,rfl,_⟩:=g;obtain⟨p,q,rfl,i,c⟩:=hs;obtain⟨Ap,cp,rfl⟩:=i.shape;obtain⟨Aq,cq,rfl⟩:=c.shape;have HO:=cQ c.ir;have j:=cQ (show dJ e s 258 n=if n=0 then some ([],[])else none by simp[dJ]);have l:=cQ hn;clear h1 h2 i c hn k;go_in;go_wp2;refine bodyPost_ret (v:=.tuple #[.agg #[.slice none 0 0,.slice none 0 0,.int .u64 0,.int .i64 0,.int .i64 0],.bool true]) (by simp[results,results66,go_sem]) rfl ?_;have:=l.out;refine⟨_,_,0,0,0,true,[],[],rfl,?_,?_,by omega,?_,?_,(fun h=>by cases h),?_⟩
 ·exact IR.nil _
 ·exact IR.nil _
 ·intro hf;rw[j.out]at hf;exact .inr (by simp at hf;omega)
 ·intro x hf;rw[j.out]at hf;simp at hf;exact⟨rfl,by omega,hf.2.symm,by decide,by decide⟩
 ·exact al4 _ _ _ _ _
theorem bZg(e:EnvD)(s:SigD)(f vs:Ay)(n:Nat)(hn:n<18446744073709551616)(w:Aw)(he:EnvV w f e)(hs:SigV w vs s):AQ cZ 66 #[f,vs,.int .i64 27,.int .u64 (n:Int)] w (ShP false (dJ e s 27 n) n (mJ 27) (lY 27) w):=by
 obtain⟨a,b,d,rfl,h1,h2,g⟩:=he;obtain⟨As,cs,rfl,_⟩:=h1.len;obtain⟨Ag,cg,rfl⟩:=h2.shape;have k:=g;obtain⟨Am,cm,rfl,_⟩:=g;obtain⟨p,q,rfl,i,c⟩:=hs;obtain⟨Ap,cp,rfl⟩:=i.shape;obtain⟨Aq,cq,rfl⟩:=c.shape;have HO:=cQ c.ir;have j:=cQ (show dJ e s 27 n=if n=0 then some ([0,0,127],[0])else none by simp[dJ]);have l:=cQ hn;clear h1 h2 i c hn k;go_in;go_wp2;refine bodyPost_ret (v:=.tuple #[.agg #[.slice (some ⟨w.heap.size+1+1+1+1,0,none⟩) 3 3,.slice (some ⟨w.heap.size+1+1+1+1+1,0,none⟩) 1 1,.int .u64 0,.int .i64 0,.int .i64 0],.bool true]) (by simp[results,results66,go_sem]) rfl ?_;have:=l.out;refine⟨_,_,0,0,0,true,[0,0,127],[0],rfl,?_,?_,by omega,?_,?_,(fun h=>by cases h),?_⟩
 ·exact IR.three (x:=0) (y:=0) (z:=127) ((at5 _ _ _ _ _ _ _).alloc _)
 ·exact IR.one (x:=0) (at6 _ _ _ _ _ _ _ _)
 ·intro hf;rw[j.out]at hf;exact .inr (by simp at hf;omega)
 ·intro x hf;rw[j.out]at hf;simp at hf;exact⟨rfl,by omega,hf.2.symm,by decide,by decide⟩
 ·exact al6 _ _ _ _ _ _ _
theorem bZh(e:EnvD)(s:SigD)(D vs:Ay)(n:Nat)(hn:n<18446744073709551616)(w:Aw)(he:EnvV w D e)(hs:SigV w vs s):AQ cZ 66 #[D,vs,.int .i64 16,.int .u64 (n:Int)] w (ShP false (dJ e s 16 n) n (mJ 16) (lY 16) w):=by
 obtain⟨a,b,d,rfl,h1,h2,E⟩:=he;obtain⟨As,cs,rfl,_⟩:=h1.len;obtain⟨i,cg,rfl⟩:=h2.shape;have F:=E;obtain⟨j,k,rfl,_⟩:=E;obtain⟨p,q,rfl,z,l⟩:=hs;obtain⟨m,o,rfl⟩:=z.shape;obtain⟨r,t,rfl⟩:=l.shape;have HO:=cQ l.ir;have hl:=h1.cWv;by_cases M:n<e.sigs.length
 ·obtain⟨x,A⟩:∃ x,e.sigs[n]? = some x:=⟨_,Ax M⟩;have N:decide ((n:Int)<(e.sigs.length:Int))=true:=(by simp;omega);have af:(n:Int)<(e.sigs.length:Int):=(by omega);obtain⟨f,go,p,q,rfl,G,O,c1,B,s1⟩:=h1.sig A;obtain⟨H,I,rfl⟩:=B.shape;obtain⟨J,K,rfl⟩:=s1.shape;have u:=cQ (show dJ e s 16 n=some (x.inn,x.out) by simp[dJ,A]);have P:=cQ hn;have Q:=cQ B.ir;have R:=cQ s1.ir;clear h1 h2 z l hn F A B s1;go_in;have y:=cQ (al4 w (.cells #[.slice (some ⟨f,go,none⟩) e.sigs.length cs,.int .i64 e.imports,.slice i e.globals.length cg,.slice j e.muts.length k,.bool e.mem] 26) (.cells #[.slice m s.inn.length o,.slice r s.out.length t] 42) (.cells #[.slice none 0 0,.slice none 0 0,.int .u64 0,.int .i64 0,.int .i64 0] 121) (.cells #[.int .i64 127] 3));have L:=cQ ((((Blk.new w 26 #[.slice (some ⟨f,go,none⟩) e.sigs.length cs,.int .i64 e.imports,.slice i e.globals.length cg,.slice j e.muts.length k,.bool e.mem]).alloc (.cells #[.slice m s.inn.length o,.slice r s.out.length t] 42)).alloc (.cells #[.slice none 0 0,.slice none 0 0,.int .u64 0,.int .i64 0,.int .i64 0] 121)).alloc (.cells #[.int .i64 127] 3));have c:=cQ ((at3 w (.cells #[.slice (some ⟨f,go,none⟩) e.sigs.length cs,.int .i64 e.imports,.slice i e.globals.length cg,.slice j e.muts.length k,.bool e.mem] 26) (.cells #[.slice m s.inn.length o,.slice r s.out.length t] 42) 121 #[.slice none 0 0,.slice none 0 0,.int .u64 0,.int .i64 0,.int .i64 0]).alloc (.cells #[.int .i64 127] 3));go_wp2_with fail;generalize ((((w.alloc (.cells #[.slice (some ⟨f,go,none⟩) e.sigs.length cs,.int .i64 e.imports,.slice i e.globals.length cg,.slice j e.muts.length k,.bool e.mem] 26)).alloc (.cells #[.slice m s.inn.length o,.slice r s.out.length t] 42)).alloc (.cells #[.slice none 0 0,.slice none 0 0,.int .u64 0,.int .i64 0,.int .i64 0] 121)).alloc (.cells #[.int .i64 127] 3))=W4 at y L c ⊢;have d0:=(y.out.cell (p:=⟨f,go+n*2,none⟩) G).trans O;have d1:=(y.out.cell (p:=⟨f,go+n*2+1,none⟩) G).trans c1;have S:=L.out.cell 0;simp at S;obtain⟨T,U,V,W,X⟩:=dZ c.out;have z0:=frz c.out 0;have z1:=frz c.out 1;have z2:=frz c.out 2;have z3:=frz c.out 3;have z4:=frz c.out 4;have Y:=c.out.lt;go_region;go_wp2;refine bodyPost_ret (v:=.tuple #[.agg #[.slice H x.inn.length I,.slice J x.out.length K,.int .u64 (n:Int),.int .i64 0,.int .i64 0],.bool true]) (by simp[results,results66,go_sem,Y,T,U,V,W,X]) rfl ?_;have:=P.out;have C:=(rV y.out (g:=w.heap.size+1+1) (by omega) (.slice H x.inn.length I) (.slice J x.out.length K) (.int .u64 (n:Int)) (.int .i64 0) (.int .i64 0)).drew;refine⟨_,_,n,0,0,true,_,_,rfl,Q.out.below C (Aj _),R.out.below C (Aj _),this,?_,?_,(fun h=>by cases h),C⟩
  ·intro hf;rw[u.out]at hf;cases hf
  ·intro x hf;rw[u.out]at hf;simp at hf;exact⟨rfl,Aj _,hf.symm,by decide,by decide⟩
 ·have N:decide ((n:Int)<(e.sigs.length:Int))=false:=(by simp;omega);have u:=cQ (show dJ e s 16 n=none by simp[dJ];omega);clear h1 h2 z l hn F;go_in;go_wp2;refine bodyPost_ret (v:=.tuple #[.agg #[.slice none 0 0,.slice none 0 0,.int .u64 0,.int .i64 0,.int .i64 0],.bool false]) (by simp[results,results66,go_sem]) rfl ?_;exact ShP.no u.out (al4 _ _ _ _ _)
theorem bZi(e:EnvD)(s:SigD)(k vs:Ay)(n:Nat)(hn:n<18446744073709551616)(w:Aw)(he:EnvV w k e)(hs:SigV w vs s):AQ cZ 66 #[k,vs,.int .i64 35,.int .u64 (n:Int)] w (ShP false (dJ e s 35 n) n (mJ 35) (lY 35) w):=by
 obtain⟨a,b,d,rfl,h1,h2,l⟩:=he;obtain⟨As,cs,rfl,_⟩:=h1.len;obtain⟨Ag,cg,rfl⟩:=h2.shape;have m:=l;obtain⟨Am,cm,rfl,_⟩:=l;obtain⟨p,q,rfl,i,c⟩:=hs;obtain⟨Ap,cp,rfl⟩:=i.shape;obtain⟨Aq,cq,rfl⟩:=c.shape;have HO:=cQ c.ir;have hl:=h2.cWv;by_cases r:n<e.globals.length
 ·obtain⟨x,j⟩:∃ x,e.globals[n]? = some x:=⟨_,Ax r⟩;have t:decide ((e.globals.length:Int)<=(n:Int))=false:=(by simp;omega);have o:¬e.globals.length<=n:=(by omega);have af:(n:Int)<(e.globals.length:Int):=(by omega);obtain⟨f,go,rfl,ak,c0⟩:=h2.ir.cell j;have ag:f<w.heap.size+1:=(by omega);have ah:f<w.heap.size+1+1:=(by omega);have ai:f<w.heap.size+1+1+1:=(by omega);have aj:f<w.heap.size+1+1+1+1:=(by omega);have g:=cQ (show dJ e s 35 n=some ([],[x]) by simp[dJ,j]);have u:=cQ hn;clear h1 h2 i c hn m j;go_in;go_wp2;refine bodyPost_ret (v:=.tuple #[.agg #[.slice none 0 0,.slice (some ⟨w.heap.size+1+1+1+1,0,none⟩) 1 1,.int .u64 (n:Int),.int .i64 0,.int .i64 0],.bool true]) (by simp[results,results66,go_sem]) rfl ?_;have:=u.out;refine⟨_,_,n,0,0,true,[],[x],rfl,IR.nil _,IR.one (at5 _ _ _ _ _ _ _),this,?_,?_,(fun h=>by cases h),al5 _ _ _ _ _ _⟩
  ·intro hf;rw[g.out]at hf;cases hf
  ·intro x hf;rw[g.out]at hf;simp at hf;exact⟨rfl,Aj _,hf.symm,by decide,by decide⟩
 ·have t:decide ((e.globals.length:Int)<=(n:Int))=true:=(by simp;omega);have o:e.globals.length<=n:=(by omega);have g:=cQ (show dJ e s 35 n=none by simp[dJ,o]);clear h1 h2 i c hn m;go_in;go_wp2;refine bodyPost_ret (v:=.tuple #[.agg #[.slice none 0 0,.slice none 0 0,.int .u64 0,.int .i64 0,.int .i64 0],.bool false]) (by simp[results,results66,go_sem]) rfl ?_;exact ShP.no g.out (al4 _ _ _ _ _)
theorem bZj(e:EnvD)(s:SigD)(o vs:Ay)(n:Nat)(hn:n<18446744073709551616)(w:Aw)(he:EnvV w o e)(hs:SigV w vs s)(r:e.muts.length=e.globals.length):AQ cZ 66 #[o,vs,.int .i64 36,.int .u64 (n:Int)] w (ShP false (dJ e s 36 n) n (mJ 36) (lY 36) w):=by
 obtain⟨a,b,d,rfl,h1,h2,t⟩:=he;obtain⟨As,cs,rfl,_⟩:=h1.len;obtain⟨Ag,cg,rfl⟩:=h2.shape;have u:=t;obtain⟨Am,cm,rfl,_⟩:=t;obtain⟨p,q,rfl,j,c⟩:=hs;obtain⟨Ap,cp,rfl⟩:=j.shape;obtain⟨Aq,cq,rfl⟩:=c.shape;have HO:=cQ c.ir;have hl:=h2.cWv;by_cases B:n<e.globals.length
 ·obtain⟨x,k⟩:∃ x,e.globals[n]? = some x:=⟨_,Ax B⟩;have C:decide ((e.globals.length:Int)<=(n:Int))=false:=(by simp;omega);have z:¬e.globals.length<=n:=(by omega);have ai:(n:Int)<(e.globals.length:Int):=(by omega);obtain⟨f,go,rfl,ax,c0⟩:=h2.ir.cell k;have aj:f<w.heap.size+1:=(by omega);have ak:f<w.heap.size+1+1:=(by omega);have al:f<w.heap.size+1+1+1:=(by omega);have an:f<w.heap.size+1+1+1+1:=(by omega);obtain⟨y,l⟩:∃ y,e.muts[n]? = some y:=⟨_,Ax (by omega)⟩;obtain⟨ay,az,e',m,_⟩:=u;injection e' with D e2 E;subst D;subst E;have A:n<e.muts.length:=(by omega);have ao:(n:Int)<(e.muts.length:Int):=(by omega);obtain⟨g,mo,rfl,aA⟩:=m.addr (by omega);have aq:g<w.heap.size+1:=(by omega);have ar:g<w.heap.size+1+1:=(by omega);have au:g<w.heap.size+1+1+1:=(by omega);have aw:g<w.heap.size+1+1+1+1:=(by omega);have c1:=m.at_ A;rw[bJq A,(List.getElem?_eq_some_iff.1 l).2]at c1;have i:=cQ (show dJ e s 36 n=if y=true then some ([x],[])else none by cases y <;> simp[dJ,k,l]);have F:=cQ hn;clear h1 h2 j c hn m k l r;go_in;go_wp2_with fail;go_region;go_wp2;refine bodyPost_ret (v:=.tuple #[.agg #[.slice (some ⟨w.heap.size+1+1+1+1,0,none⟩) 1 1,.slice none 0 0,.int .u64 (n:Int),.int .i64 0,.int .i64 0],.bool y]) (by simp[results,results66,go_sem]) rfl ?_;have:=F.out;refine⟨_,_,n,0,0,y,[x],[],rfl,IR.one (at5 _ _ _ _ _ _ _).drew,IR.nil _,this,fun hf=>?_,fun x hf=>?_,(fun h=>by cases h),(al5 _ _ _ _ _ _).drew⟩
  ·rw[i.out]at hf
   cases y with
   | false=>exact .inl rfl
   | true=>cases hf
  ·rw[i.out]at hf
   cases y with
   | false=>cases hf
   | true=>
    simp at hf;exact⟨rfl,Aj _,hf.symm,by decide,by decide⟩
 ·have C:decide ((e.globals.length:Int)<=(n:Int))=true:=(by simp;omega);have z:e.globals.length<=n:=(by omega);have i:=cQ (show dJ e s 36 n=none by simp[dJ,z]);clear h1 h2 j c hn u r;go_in;go_wp2;refine bodyPost_ret (v:=.tuple #[.agg #[.slice none 0 0,.slice none 0 0,.int .u64 0,.int .i64 0,.int .i64 0],.bool false]) (by simp[results,results66,go_sem]) rfl ?_;exact ShP.no i.out (al4 _ _ _ _ _)
structure Off (op:Int):Prop where
 o0:(op == 256)=false
 o1:(op == 272)=false
 o2:(op == 273)=false
 o3:(op == 274)=false
 o4:(op == 275)=false
 o5:(op == 276)=false
 o6:(op == 277)=false
 o7:(op == 258)=false
 o8:(op == 27)=false
 o9:(op == 16)=false
 o10:(op == 35)=false
 o11:(op == 36)=false
theorem Off.form{op:Int}(h:Off op)(e:EnvD)(s:SigD)(n:Nat):dJ e s op n=(if(fK op).isSome then if n=0 then some (fW op,[oW op])else none else hY e.mem op n)/\mJ op=0/\lY op=0:=by
 obtain⟨c,h1,h2,a,b,d,f,g,i,j,k,l⟩:=h;simp at c h1 h2 a b d f g i j k l;refine⟨?_,?_,?_⟩
 ·simp only[dJ,c,h1,h2,a,b,d,f,g,i,j,k,l,if_false,or_self]
 ·simp[mJ,h2,a,b]
 ·simp[lY,h2,a,b]
theorem bJy{Q:Int->Prop}(k:Q 256)(h1:Q 272)(h2:Q 273)(l:Q 274)(m:Q 275)(n:Q 276)(o:Q 277)(p:Q 258)(q:Q 27)(r:Q 16)(s:Q 35)(t:Q 36)(hn:∀ op,Off op->Q op)(op:Int):Q op:=by
 by_cases a:op=256
 ·subst a;exact k
 by_cases b:op=272
 ·subst b;exact h1
 by_cases c:op=273
 ·subst c;exact h2
 by_cases d:op=274
 ·subst d;exact l
 by_cases e:op=275
 ·subst e;exact m
 by_cases f:op=276
 ·subst f;exact n
 by_cases g:op=277
 ·subst g;exact o
 by_cases h:op=258
 ·subst h;exact p
 by_cases i:op=27
 ·subst i;exact q
 by_cases j:op=16
 ·subst j;exact r
 by_cases g10:op=35
 ·subst g10;exact s
 by_cases g11:op=36
 ·subst g11;exact t
 exact hn op ⟨beq_false_of_ne a,beq_false_of_ne b,beq_false_of_ne c,beq_false_of_ne d,beq_false_of_ne e,beq_false_of_ne f,beq_false_of_ne g,beq_false_of_ne h,beq_false_of_ne i,beq_false_of_ne j,beq_false_of_ne g10,beq_false_of_ne g11⟩
theorem IR.cYe{base:Nat}(h:w.ownsRow base t 1 (.slice A l.length c) l.length (i64s l))(hg:g<base)(a b d e f:Ay):
  IR (((((w.setCell ⟨g,0,none⟩ a).setCell ⟨g,1,none⟩ b).setCell ⟨g,2,none⟩ d).setCell ⟨g,3,none⟩ e).setCell ⟨g,4,none⟩ f) (.slice A l.length c) l:=by
 have key:∀ a,A=some a->a.block≠g:=by
  intro a ha;subst ha;have:=h.lt a.block (by rfl);omega
 refine⟨A,c,rfl,?_⟩;exact(((((Src.cYa h).setCell (p:=⟨g,0,none⟩) a key).setCell (p:=⟨g,1,none⟩) b key).setCell (p:=⟨g,2,none⟩) d key).setCell (p:=⟨g,3,none⟩) e key).setCell (p:=⟨g,4,none⟩) f key
theorem IR.cYn{base:Nat}(h:IR w v l)(hv:NewV base v)(hg:g<base)(a b d e f:Ay):
  IR (((((w.setCell ⟨g,0,none⟩ a).setCell ⟨g,1,none⟩ b).setCell ⟨g,2,none⟩ d).setCell ⟨g,3,none⟩ e).setCell ⟨g,4,none⟩ f) v l:=by
 have key:∀ A n c,v = .slice A n c->∀ a,A=some a->a.block≠g:=by
  intro A n c e a ha;have:=hv A n c e a ha;omega
 exact((((h.setCell (p:=⟨g,0,none⟩) a key).setCell (p:=⟨g,1,none⟩) b key).setCell (p:=⟨g,2,none⟩) d key).setCell (p:=⟨g,3,none⟩) e key).setCell (p:=⟨g,4,none⟩) f key
theorem bQo(op:Int)(Q : -9223372036854775808<=op)(R:op<=9223372036854775807)(S:Off op)(e:EnvD)(s:SigD)(T vs:Ay)(n:Nat)(hn:n<18446744073709551616)(w:Aw)(he:EnvV w T e)(hs:SigV w vs s):
  AQ cZ 66 #[T,vs,.int .i64 op,.int .u64 (n:Int)] w (ShP false (dJ e s op n) n (mJ op) (lY op) w):=by
 obtain⟨hf,ar,au⟩:=S.form e s n;rw[ar,au];obtain⟨a,b,d,rfl,h1,h2,h3⟩:=he;obtain⟨m,cs,rfl,_⟩:=h1.len;obtain⟨r,cg,rfl⟩:=h2.shape;obtain⟨t,u,rfl,_⟩:=h3;obtain⟨p,q,rfl,U,V⟩:=hs;obtain⟨y,z,rfl⟩:=U.shape;obtain⟨A,B,rfl⟩:=V.shape;have HN:=cQ hn;obtain⟨g0,g1,g2,g3,g4,g5,g6,g7,g8,g9,g10,g11⟩:=S;have C:=cQ (al4 w (.cells #[.slice m e.sigs.length cs,.int .i64 e.imports,.slice r e.globals.length cg,.slice t e.muts.length u,.bool e.mem] 26) (.cells #[.slice y s.inn.length z,.slice A s.out.length B] 42) (.cells #[.slice none 0 0,.slice none 0 0,.int .u64 0,.int .i64 0,.int .i64 0] 121) (.cells #[.int .i64 127] 3));have W:=cQ ((((Blk.new w 26 #[.slice m e.sigs.length cs,.int .i64 e.imports,.slice r e.globals.length cg,.slice t e.muts.length u,.bool e.mem]).alloc (.cells #[.slice y s.inn.length z,.slice A s.out.length B] 42)).alloc (.cells #[.slice none 0 0,.slice none 0 0,.int .u64 0,.int .i64 0,.int .i64 0] 121)).alloc (.cells #[.int .i64 127] 3));have D:=cQ ((at3 w (.cells #[.slice m e.sigs.length cs,.int .i64 e.imports,.slice r e.globals.length cg,.slice t e.muts.length u,.bool e.mem] 26) (.cells #[.slice y s.inn.length z,.slice A s.out.length B] 42) 121 #[.slice none 0 0,.slice none 0 0,.int .u64 0,.int .i64 0,.int .i64 0]).alloc (.cells #[.int .i64 127] 3));have X:w.heap.size+1+1+1+1=((((w.alloc (.cells #[.slice m e.sigs.length cs,.int .i64 e.imports,.slice r e.globals.length cg,.slice t e.muts.length u,.bool e.mem] 26)).alloc (.cells #[.slice y s.inn.length z,.slice A s.out.length B] 42)).alloc (.cells #[.slice none 0 0,.slice none 0 0,.int .u64 0,.int .i64 0,.int .i64 0] 121)).alloc (.cells #[.int .i64 127] 3)).heap.size:=(by simp);have Y:=cQ X;clear h1 h2 U V hn X
 cases hg:fK op with
 | some gg=>
  have F:=cQ (show(fK op).isSome=true by simp[hg]);rw[hg]at hf;have k:=cQ (show dJ e s op n=if n=0 then some (fW op,[oW op])else none from hf);clear hf hg;go_in;go_wp2_with fail;refine(vV op _ Q R).mono ?_;rintro en G ⟨Z,c1,rfl,E,c⟩;rw[F.out];have l:=cQ (C.out.trans (c.mono C.out.size));have f:=cQ (D.out.below c D.out.lt);have HR:=cQ E;have HS:=cQ (c.size);clear c E;obtain⟨H,I,J,K,L⟩:=dZ f.out;have z0:=frz f.out 0;have z1:=frz f.out 1;have z2:=frz f.out 2;have z3:=frz f.out 3;have z4:=frz f.out 4;have M:=f.out.lt;go_wp2;refine bodyPost_ret (v:=.tuple #[.agg #[.slice Z (fW op).length c1,.slice (some ⟨G.heap.size,0,none⟩) 1 1,.int .u64 0,.int .i64 0,.int .i64 0],.bool true]) (by simp[results,results66,go_sem,M,H,I,J,K,L]) rfl ?_;have hh:=HR.out;rw[<-Y.out]at hh;refine⟨_,_,0,0,0,true,fW op,[oW op],rfl,?_,?_,by omega,?_,?_,(fun h=>by cases h),?_⟩
  ·exact(IR.cYe (g:=w.heap.size+1+1) hh (by omega) _ _ _ _ _).alloc _
  ·exact IR.one (x:=oW op) (Blk.newAt _ _ _ (by simp))
  ·intro hf;rw[k.out]at hf;exact .inr (by simp at hf;omega)
  ·intro x hf;rw[k.out]at hf;simp at hf;exact⟨rfl,by omega,hf.2.symm,rfl,rfl⟩
  ·exact(rV l.out (by omega) _ _ _ _ _).alloc (by simp;exact l.out.size) _
 | none=>
  have F:=cQ (show(fK op).isSome=false by simp[hg]);rw[hg]at hf;have k:=cQ (show dJ e s op n=hY e.mem op n from hf);clear hf hg;go_in;go_wp2_with fail;refine(vV op _ Q R).mono ?_;rintro en G ⟨Z,c1,rfl,E,c⟩;rw[F.out];have l:=cQ (C.out.trans (c.mono C.out.size));have f:=cQ (D.out.below c D.out.lt);have F0:=cQ (W.out.below c W.out.lt);have HZ:=cQ c.size;clear c E;have e4:=F0.out.cell 4;simp at e4;go_wp2_with fail;refine(bZf op e.mem n HN.out _).mono ?_;rintro en w2 ⟨vi,vo,most,a,b,ok,i,o,rfl,N,O,ad,hP,hQ,ao,P⟩;obtain⟨Ai,ci,rfl⟩:=N.shape;obtain⟨Ao,co,rfl⟩:=O.shape;have B2:=cQ (l.out.trans (P.mono l.out.size));have j:=cQ (f.out.below P f.out.lt);have aw:=cQ N;have ax:=cQ O;have HP:=cQ hP;have HQ:=cQ hQ;have HM:=cQ ad;have aq:=cQ (ao rfl);clear ao P N O hP hQ ad e4;obtain⟨H,I,J,K,L⟩:=dZ j.out;have z0:=frz j.out 0;have z1:=frz j.out 1;have z2:=frz j.out 2;have z3:=frz j.out 3;have z4:=frz j.out 4;have M:=j.out.lt;go_wp2;refine bodyPost_ret (v:=.tuple #[.agg #[.slice Ai i.length ci,.slice Ao o.length co,.int .u64 (most:Int),.int .i64 a,.int .i64 b],.bool ok]) (by simp[results,results66,go_sem,M,H,I,J,K,L]) rfl ?_;have hz:w.heap.size+1+1+1+1<=G.heap.size:=(by rw[Y.out];exact HZ.out);refine⟨_,_,most,a,b,ok,i,o,rfl,?_,?_,HM.out,?_,?_,(fun h=>by cases h),?_⟩
  ·exact IR.cYn aw.out aq.out.1 (by omega) _ _ _ _ _
  ·exact IR.cYn ax.out aq.out.2 (by omega) _ _ _ _ _
  ·rw[k.out];exact HP.out
  ·rw[k.out];exact HQ.out
  ·exact rV B2.out (by omega) _ _ _ _ _
theorem bQp(op:Int)(b : -9223372036854775808<=op)(c:op<=9223372036854775807)(e:EnvD)(s:SigD)(a vs:Ay)(n:Nat)(hn:n<18446744073709551616)(w:Aw)(he:EnvV w a e)(hs:SigV w vs s)(d:e.muts.length=e.globals.length):
  AQ cZ 66 #[a,vs,.int .i64 op,.int .u64 (n:Int)] w (ShP false (dJ e s op n) n (mJ op) (lY op) w):=by
 revert b c
 revert op
 refine bJy (fun _ _=>bQg e s a vs n hn w he hs) (fun _ _=>bQh e s a vs n hn w he hs) (fun _ _=>bQi e s a vs n hn w he hs) (fun _ _=>bQj e s a vs n hn w he hs) (fun _ _=>bQk e s a vs n hn w he hs) (fun _ _=>bQl e s a vs n hn w he hs) (fun _ _=>bQm e s a vs n hn w he hs) (fun _ _=>bQn e s a vs n hn w he hs) (fun _ _=>bZg e s a vs n hn w he hs) (fun _ _=>bZh e s a vs n hn w he hs) (fun _ _=>bZi e s a vs n hn w he hs) (fun _ _=>bZj e s a vs n hn w he hs d) (fun op f h1 h2=>bQo op h1 h2 f e s a vs n hn w he hs)
end Go.Proofs.YtabibkpfgmolkaaDoor

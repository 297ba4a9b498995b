/- Lemmas for the claim, part 2. Conditions: none. -/
import Derived.Test.YtabibkpfgmolkaaGreatDoorPm01
set_option maxRecDepth 100000
set_option maxHeartbeats 16000000
set_option linter.unusedVariables false
set_option linter.unusedSimpArgs false
open Go.Lib renaming hid→fQ
open Go.Proofs.Tryz renaming prog→fZ
open Go.Proofs.Tryz
open Go.RowKit
open Nat renaming le_refl→Aj
open List renaming getElem?_eq_getElem→Ax,take_of_length_le→Ak,mem_of_getElem?→Av,take_succ_eq_append_getElem→Aw
open Go.RowKit.Below renaming refl→Az
open Go renaming World→Ay,Value→AJ,Calls→AX
open Go.RowKit renaming Below→AQ
namespace Go.Proofs.YtabibkpfgmolkaaGreatDoor
variable {w:Ay}{g k n c:Nat}{l:List Int}{A:Option Addr}{t:TypeId}{v:AJ}{x:Int}
def IR(w:Ay)(v:AJ)(l:List Int):Prop:=∃ A c,v = .slice A l.length c/\Src w A l.length (i64s l)
theorem Ints.ir(h:Ints w v l):IR w v l:=by
 obtain⟨A,c,e,hs,_⟩:=h;exact⟨A,c,e,hs⟩
theorem IR.below{w w':Ay}{B:Nat}{v:AJ}{l:List Int}(h:IR w v l)(a:AQ B w w')(b:w.heap.size<=B):IR w' v l:=by
 obtain⟨A,c,e,hs⟩:=h;exact⟨A,c,e,hs.below a b⟩
theorem IR.nil(w:Ay):IR w (.slice none 0 0) []:=⟨none,0,rfl,Src.nil _ _⟩
theorem IR.drew{w:Ay}{v:AJ}{l:List Int}(h:IR w v l):IR w.drew v l:=h
theorem IR.drewN{w:Ay}{v:AJ}{l:List Int}(h:IR w v l)(n:Nat):IR (w.drewN n) v l:=h
theorem IR.alloc{w:Ay}{v:AJ}{l:List Int}(h:IR w v l)(o:Obj):IR (w.alloc o) v l:=h.below ((Az w.heap.size _).alloc (Aj _) _) (Aj _)
theorem IR.one(h:Blk w g t #[.int .i64 x]):IR w (.slice (some ⟨g,0,none⟩) 1 1) [x]:=⟨_,_,rfl,Blk.fQb (cs:=#[.int .i64 x]) h rfl⟩
theorem Blk.setCell{w:Ay}{g:Nat}{e:TypeId}{cs:Array AJ}(h:Blk w g e cs){p:Addr}(v:AJ)(hp:g≠p.block):Blk (w.setCell p v) g e cs:=(heap_setCell_other w p g v hp).trans h
theorem IR.two{y:Int}(h:Blk w g t #[.int .i64 x,.int .i64 y]):IR w (.slice (some ⟨g,0,none⟩) 2 2) [x,y]:=⟨_,_,rfl,Blk.fQb (cs:=#[.int .i64 x,.int .i64 y]) h rfl⟩
theorem IR.three{y z:Int}(h:Blk w g t #[.int .i64 x,.int .i64 y,.int .i64 z]):IR w (.slice (some ⟨g,0,none⟩) 3 3) [x,y,z]:=⟨_,_,rfl,Blk.fQb (cs:=#[.int .i64 x,.int .i64 y,.int .i64 z]) h rfl⟩
theorem IR.setCell{w:Ay}{v:AJ}{l:List Int}(h:IR w v l){p:Addr}(u:AJ)(hp:∀ A n c,v = .slice A n c->∀ a,A=some a->a.block≠p.block):IR (w.setCell p u) v l:=by
 obtain⟨A,c,e,hs⟩:=h;exact⟨A,c,e,hs.setCell u (hp _ _ _ e)⟩
theorem IR.of(h:Src w A n (i64s l))(hn:l.length=n):IR w (.slice A n c) l:=by
 subst hn;exact⟨A,c,rfl,h⟩
def SigV(w:Ay)(v:AJ)(s:SigD):Prop:=∃ a b,v = .agg #[a,b]/\Ints w a s.inn/\Ints w b s.out
def EnvV(w:Ay)(v:AJ)(e:EnvD):Prop:=∃ a b d,v = .agg #[a,.int .i64 e.imports,b,d,.bool e.mem]/\Structs 2 SigC w a e.sigs/\Ints w b e.globals/\Bools w d e.muts
def CodeV(w:Ay)(v:AJ)(c:CodeD):Prop:=∃ a b d,v = .agg #[.int .i64 c.op,.int .u64 (c.n:Int),a,b,d]/\c.ok/\Ints w a c.args/\Ints w b c.outs/\Ints w d c.to
def RowV(w:Ay)(v:AJ)(x:RowD):Prop:=∃ a b p d,v = .agg #[a,b,.int .i64 x.places,p,d]/\Ints w a x.sig.inn/\Ints w b x.sig.out/\Ints w p x.params/\Structs 5 CodeC w d x.code
theorem SigV.below{w w':Ay}{B:Nat}{r:AJ}{s:SigD}(h:SigV w r s)(c:AQ B w w')(d:w.heap.size<=B):SigV w' r s:=by
 obtain⟨a,b,e,h1,h2⟩:=h;exact⟨a,b,e,h1.below c d,h2.below c d⟩
theorem CodeV.below{w w':Ay}{B:Nat}{r:AJ}{c:CodeD}(h:CodeV w r c)(f:AQ B w w')(g:w.heap.size<=B):CodeV w' r c:=by
 obtain⟨a,b,d,e,i,h1,h2,j⟩:=h;exact⟨a,b,d,e,i,h1.below f g,h2.below f g,j.below f g⟩
theorem EnvV.below{w w':Ay}{B:Nat}{r:AJ}{e:EnvD}(h:EnvV w r e)(c:AQ B w w')(f:w.heap.size<=B):EnvV w' r e:=by
 obtain⟨a,b,d,e',h1,h2,g⟩:=h;exact⟨a,b,d,e',h1.below c f (fun r x q=>q.below c f),h2.below c f,g.below c f⟩
theorem RowV.below{w w':Ay}{B:Nat}{r:AJ}{x:RowD}(h:RowV w r x)(c:AQ B w w')(e:w.heap.size<=B):RowV w' r x:=by
 obtain⟨a,b,p,d,e',h1,h2,f,g⟩:=h;exact⟨a,b,p,d,e',h1.below c e,h2.below c e,f.below c e,g.below c e (fun r x q=>q.below c e)⟩
def isK(t:Int):Bool:=t == 127 || t == 126
def lV(m:Nat)(l:List Int):Bool:=decide (l.length<=m) && l.all isK
def sigOk(s:SigD):Bool:=lV 8 s.inn && lV 8 s.out
def envOk(e:EnvD):Bool:=decide (e.sigs.length<=64/\0<=e.imports/\e.imports<=e.sigs.length/\e.muts.length=e.globals.length) && (lV 32 e.globals && e.sigs.all sigOk)
def mJ(m:Bool)(op:Int)(n:Nat):Option (List Int×List Int):=
 if m=false then none
 else if op=257 then if n<=8589934592 then some ([127],[])else none
 else match acc op with
  | some (k,_,st,_)=>if n<=4294967295 then some (if st then([127,k],[])else([127],[k]))else none
  | none=>if op=63 then if n=0 then some ([],[127])else none else if op=64 then if n=0 then some ([127],[127])else none else none
def iJ(e:EnvD)(s:SigD)(op:Int)(n:Nat):Option (List Int×List Int):=
 if op=256 then some ([],[0])
 else if op=272 then if n=0 then some ([0],[0])else none
 else if op=273\/op=277\/op=258 then if n=0 then some ([],[])else none
 else if op=274\/op=275 then if n=0 then some ([127],[])else none
 else if op=276 then if n=0 then some (s.out,[])else none
 else if op=27 then if n=0 then some ([0,0,127],[0])else none
 else if op=16 then(e.sigs[n]?).map fun g=>(g.inn,g.out)
 else if op=35 then(e.globals[n]?).map fun g=>([],[g])
 else if op=36 then match e.globals[n]?,e.muts[n]? with
  | some g,some true=>some ([g],[])
  | _,_=>none
 else if(fW op).isSome then if n=0 then some (fY op,[lY op])else none
 else mJ e.mem op n
def tY(op:Int):Int:=if op=273\/op=274\/op=275 then 1 else 0
def tJ(op:Int):Int:=if op=273\/op=274 then 1 else if op=275 then 65 else 0
def within(n:Int)(l:List Int):Bool:=l.all fun x=>decide (0<=x/\x<n)
def codeOk(e:EnvD)(r:RowD)(c:CodeD):Bool:=match iJ e r.sig c.op c.n with
 | none=>false
 | some (i,o)=>decide (c.args.length=i.length/\c.outs.length=o.length/\tY c.op<=c.to.length/\(c.to.length:Int)<=tJ c.op) && (within r.places c.args && (within r.places c.outs && (decide c.outs.Nodup && within r.code.length c.to)))
def nextOf(c:CodeD)(i:Nat):List Int:=
 if c.op=276\/c.op=277 then[]else if c.op=273\/c.op=275 then c.to else if c.op=274 then[(i:Int)+1,c.to.headD 0]else[(i:Int)+1]
def Ranked(r:RowD):Prop:=∃ rk:Nat->Nat,∀ i c (k:Nat),r.code[i]? = some c->c.op≠258->(k:Int)∈nextOf c i->rk k<rk i
structure CheckP (e:EnvD) (r:RowD):Prop where
 env:envOk e=true
 sig:sigOk r.sig=true
 n1:1<=r.code.length
 n2:r.code.length<=4096
 p1:0<=r.places
 p2:r.places<=4096
 par:r.params.length=r.sig.inn.length
 pin:within r.places r.params=true
 pun:r.params.Nodup
 code:∀ c∈r.code,codeOk e r c=true
 first:∀ c,r.code[0]? = some c->c.op=258
 last:∀ c,r.code[r.code.length - 1]? = some c->c.op=273\/c.op=275\/c.op=276\/c.op=277
 rank:Ranked r
theorem aVg{α:Type}{l:List α}{p:α}{q:α->Bool}(h:l[k]? = some p)(h1:(l.take k).any q=false)(h2:q p=false):(l.take (k+1)).any q=false:=by
 obtain⟨a,e⟩:=List.getElem?_eq_some_iff.1 h;rw[Aw a,e,List.any_append,h1];simp[h2]
theorem aYg{α:Type}{l:List α}{p:α}{q:α->Bool}(h:l[k]? = some p)(h2:q p=true):l.any q=true:=List.any_eq_true.2 ⟨p,Av h,h2⟩
theorem IR.cell{w:Ay}{A:Option Addr}{n c:Nat}{l:List Int}(h:IR w (.slice A n c) l){k:Nat}{x:Int}(d:l[k]? = some x):∃ b o,A=some ⟨b,o,none⟩/\b<w.heap.size/\w.cell? ⟨b,o+k,none⟩=some (.int .i64 x):=by
 obtain⟨A',c',e,hs⟩:=h;injection e with f e2 e3;subst f;obtain⟨a,e⟩:=List.getElem?_eq_some_iff.1 d;obtain⟨b,o,rfl,g⟩:=hs.addr (by omega);have:=hs.at_ (k:=k) a;rw[dYr a,e]at this;exact⟨b,o,rfl,g,this⟩
theorem IR.len(h:IR w (.slice A n c) l):n=l.length:=by
 obtain⟨A',c',e,hs⟩:=h;injection e
theorem Structs.sig{l:List SigD}(h:Structs 2 SigC w (.slice A n c) l){x:SigD}(a:l[k]? = some x):
  ∃ b o p q,A=some ⟨b,o,none⟩/\b<w.heap.size/\w.cell? ⟨b,o+k*2,none⟩=some p/\w.cell? ⟨b,o+k*2+1,none⟩=some q/\Ints w p x.inn/\Ints w q x.out:=by
 obtain⟨b,o,c',r,e,d,hr,⟨p,q,rfl,h1,h2⟩,hc⟩:=h.at (by omega) a;injection e with f e2 e3;exact⟨b,o,p,q,f,d,hc 0 p rfl,hc 1 q rfl,h1,h2⟩
theorem Structs.code{l:List CodeD}(h:Structs 5 CodeC w (.slice A n c) l){x:CodeD}(a:l[k]? = some x):
  ∃ b o p q r,A=some ⟨b,o,none⟩/\b<w.heap.size/\w.cell? ⟨b,o+k*5,none⟩=some (.int .i64 x.op)/\w.cell? ⟨b,o+k*5+1,none⟩=some (.int .u64 (x.n:Int))/\w.cell? ⟨b,o+k*5+2,none⟩=some p/\w.cell? ⟨b,o+k*5+3,none⟩=some q/\w.cell? ⟨b,o+k*5+4,none⟩=some r /\
   x.ok/\Ints w p x.args/\Ints w q x.outs/\Ints w r x.to:=by
 obtain⟨b,o,c',rr,e,d,hr,⟨p,q,r,rfl,f,h1,h2,g⟩,hc⟩:=h.at (by omega) a;injection e with i e2 e3;exact⟨b,o,p,q,r,i,d,hc 0 _ rfl,hc 1 _ rfl,hc 2 _ rfl,hc 3 _ rfl,hc 4 _ rfl,f,h1,h2,g⟩
theorem Structs.eYz{α:Type}{R:Ay->List AJ->α->Prop}{l:List α}(h:Structs k R w (.slice A n c) l):n=l.length/\n<=c/\n<=140737488351232/\c<=9223372036854775807:=by
 obtain⟨A',c',e,h1,h2⟩:=h.len;injection e with e1 e2 a;subst e2;subst a;exact⟨rfl,h1,h2⟩
theorem Ints.eYz(h:Ints w (.slice A n c) l):n=l.length/\n<=c/\n<=17592186043904/\c<=9223372036854775807:=by
 obtain⟨A',c',e,hs,h1,h2,h3⟩:=h;injection e with e1 e2 a;subst a;exact⟨e2,by omega,by omega,by omega⟩
theorem Ints.shape(h:Ints w v l):∃ A c,v = .slice A l.length c:=by
 obtain⟨A,c,e,_⟩:=h;exact⟨A,c,e⟩
theorem IR.shape(h:IR w v l):∃ A c,v = .slice A l.length c:=by
 obtain⟨A,c,e,_⟩:=h;exact⟨A,c,e⟩
theorem bZu{α:Type}(l:List α)(p:α->Bool):(!(l.any fun x=>!p x))=l.all p:=by
 induction l with
 | nil=>rfl
 | cons a l b=>simp only[List.any_cons,List.all_cons,Bool.not_or,Bool.not_not,b]
theorem bVf(A:Option Addr)(n c:Nat)(l:List Int)(Q:Int->Bool)(w:Ay)(hs:IR w (.slice A n c) l)(hm:n<=9223372036854775807)
  (hq:∀ x∈l,∀ v w',AQ w.heap.size w w'->v = .int .i64 x->AX fZ 101 #[v] w' fun e w2=>e = .returned (.bool (Q x))/\AQ w'.heap.size w' w2) :
  AX fZ 133 #[.slice A n c,.func (.func 101) #[] #[]] w fun e w'=>∃ r:Int,e = .returned (.int .i64 r)/\decide (0<=r)=l.any Q/\AQ w.heap.size w w':=by
 have j:=hs.len;have t:=fQ hs;have m:=fQ j;have u:=fQ hq;clear hs hq j;go_in;go_wp2;go_loopw [8] (fun i wr=>∃ k:Nat,k<=n/\i = .int .i64 k/\Hid ((l.take k).any Q=false)/\Hid (AQ w.heap.size w wr)) (fun i _=>n - (intOf i).toNat)
 case atStart=>exact⟨0,by omega,rfl,fQ rfl,fQ (Az _ _)⟩
 case round=>
  obtain⟨k,hk,rfl,o,a⟩:=hrel;by_cases y:k<n
  ·have z:decide ((k:Int)<n)=true:=(by simp;omega);have ah:(k:Int)<n:=(by omega);obtain⟨x,f⟩:∃ x,l[k]? = some x:=⟨_,Ax (by rw[<-m.out];exact y)⟩;obtain⟨ab,ao,rfl,ai,aj⟩:=(t.out.below a.out (Aj _)).cell f;have p:=fQ f;have q:=a.out.size;have s:=fQ (u.out x (Av f));clear f
   cases g:Q x with
   | true=>
    have b:=fQ g;clear g;go_wp2_with fail;refine(s.out _ _ a.out rfl).mono ?_;rintro e B ⟨rfl,d⟩;rw[b.out];have h:=fQ (a.out.trans (d.mono q));clear d;go_wp2;go_ret;exact⟨k,rfl,by rw[aYg p.out b.out];simp,h.out⟩
   | false=>
    have b:=fQ g;clear g;go_wp2_with fail;refine(s.out _ _ a.out rfl).mono ?_;rintro e B ⟨rfl,d⟩;rw[b.out];have h:=fQ (a.out.trans (d.mono q));clear d;go_wp2;exact⟨⟨k+1,by omega,by simp,fQ (aVg p.out o.out b.out),h⟩,by simp[intOf];omega⟩
  ·have z:decide ((k:Int)<n)=false:=(by simp;omega);go_wp2;go_ret;refine⟨-1,rfl,?_,a.out⟩;have:=o.out;rw[Ak (by rw[<-m.out];omega)]at this;rw[this];rfl
theorem bVg(A:Option Addr)(n c:Nat)(l:List Int)(Q:Int->Bool)(w:Ay)(hs:IR w (.slice A n c) l)(d:n<=9223372036854775807)
  (hq:∀ x∈l,∀ v w',AQ w.heap.size w w'->v = .int .i64 x->AX fZ 101 #[v] w' fun e w2=>e = .returned (.bool (Q x))/\AQ w'.heap.size w' w2) :
  AX fZ 100 #[.slice A n c,.func (.func 101) #[] #[]] w fun e w'=>e = .returned (.bool (l.any Q))/\AQ w.heap.size w w':=by
 have f:=fQ hs;have g:=fQ hq;clear hs hq;go_in;go_wp2_with fail;refine(bVf A n c l Q _ f.out d g.out).mono ?_;rintro e w1 ⟨r,rfl,a,b⟩;have h:=fQ a;have i:=fQ b;clear a b;go_wp2;go_ret;exact⟨by rw[<-h.out];rfl,i.out⟩
theorem bZv(A:Option Addr)(n c:Nat)(l:List Int)(Q:Int->Bool)(j:Nat)(w:Ay)(hs:IR w (.slice A n c) l)(hm:n<=9223372036854775807)
  (hq:∀ x∈l,∀ v w',AQ w.heap.size w w'->v = .int .i64 x->AX fZ 104 #[v,.pointer (some ⟨j,0,none⟩)] w' fun e w2=>e = .returned (.bool (Q x))/\AQ w'.heap.size w' w2) :
  AX fZ 133 #[.slice A n c,.func (.func 104) #[] #[.pointer (some ⟨j,0,none⟩)]] w fun e w'=>∃ r:Int,e = .returned (.int .i64 r)/\decide (0<=r)=l.any Q/\AQ w.heap.size w w':=by
 have m:=hs.len;have u:=fQ hs;have o:=fQ m;have y:=fQ hq;clear hs hq m;go_in;go_wp2;go_loopw [8] (fun i wr=>∃ k:Nat,k<=n/\i = .int .i64 k/\Hid ((l.take k).any Q=false)/\Hid (AQ w.heap.size w wr)) (fun i _=>n - (intOf i).toNat)
 case atStart=>exact⟨0,by omega,rfl,fQ rfl,fQ (Az _ _)⟩
 case round=>
  obtain⟨k,hk,rfl,p,a⟩:=hrel;by_cases z:k<n
  ·have B:decide ((k:Int)<n)=true:=(by simp;omega);have ah:(k:Int)<n:=(by omega);obtain⟨x,f⟩:∃ x,l[k]? = some x:=⟨_,Ax (by rw[<-o.out];exact z)⟩;obtain⟨ab,ao,rfl,ai,aj⟩:=(u.out.below a.out (Aj _)).cell f;have q:=fQ f;have s:=a.out.size;have t:=fQ (y.out x (Av f));clear f
   cases g:Q x with
   | true=>
    have b:=fQ g;clear g;go_wp2_with fail;refine(t.out _ _ a.out rfl).mono ?_;rintro e C ⟨rfl,d⟩;rw[b.out];have h:=fQ (a.out.trans (d.mono s));clear d;go_wp2;go_ret;exact⟨k,rfl,by rw[aYg q.out b.out];simp,h.out⟩
   | false=>
    have b:=fQ g;clear g;go_wp2_with fail;refine(t.out _ _ a.out rfl).mono ?_;rintro e C ⟨rfl,d⟩;rw[b.out];have h:=fQ (a.out.trans (d.mono s));clear d;go_wp2;exact⟨⟨k+1,by omega,by simp,fQ (aVg q.out p.out b.out),h⟩,by simp[intOf];omega⟩
  ·have B:decide ((k:Int)<n)=false:=(by simp;omega);go_wp2;go_ret;refine⟨-1,rfl,?_,a.out⟩;have:=p.out;rw[Ak (by rw[<-o.out];omega)]at this;rw[this];rfl
theorem bZw(A:Option Addr)(n c:Nat)(l:List Int)(Q:Int->Bool)(a:Nat)(w:Ay)(hs:IR w (.slice A n c) l)(f:n<=9223372036854775807)
  (hq:∀ x∈l,∀ v w',AQ w.heap.size w w'->v = .int .i64 x->AX fZ 104 #[v,.pointer (some ⟨a,0,none⟩)] w' fun e w2=>e = .returned (.bool (Q x))/\AQ w'.heap.size w' w2) :
  AX fZ 100 #[.slice A n c,.func (.func 104) #[] #[.pointer (some ⟨a,0,none⟩)]] w fun e w'=>e = .returned (.bool (l.any Q))/\AQ w.heap.size w w':=by
 have g:=fQ hs;have h:=fQ hq;clear hs hq;go_in;go_wp2_with fail;refine(bZv A n c l Q a _ g.out f h.out).mono ?_;rintro e w1 ⟨r,rfl,b,d⟩;have i:=fQ b;have j:=fQ d;clear b d;go_wp2;go_ret;exact⟨by rw[<-i.out];rfl,j.out⟩
theorem bQp(A:Option Addr)(n c:Nat)(l:List SigD)(Q:SigD->Bool)(w:Ay)(hs:Structs 2 SigC w (.slice A n c) l)(hm:n<=9223372036854775807)
  (hq:∀ x∈l,∀ v w',AQ w.heap.size w w'->SigV w' v x->AX fZ 69 #[v] w' fun e w2=>e = .returned (.bool (Q x))/\AQ w'.heap.size w' w2) :
  AX fZ 103 #[.slice A n c,.func (.func 69) #[] #[]] w fun e w'=>∃ r:Int,e = .returned (.int .i64 r)/\decide (0<=r)=l.any Q/\AQ w.heap.size w w':=by
 obtain⟨m,ai,af⟩:=hs.eYz;have B:=fQ hs;have o:=fQ m;have C:=fQ hq;clear hs hq m;go_in;go_wp2;go_loopw [8] (fun i wr=>∃ k:Nat,k<=n/\i = .int .i64 k/\Hid ((l.take k).any Q=false)/\Hid (AQ w.heap.size w wr)) (fun i _=>n - (intOf i).toNat)
 case atStart=>exact⟨0,by omega,rfl,fQ rfl,fQ (Az _ _)⟩
 case round=>
  obtain⟨k,hk,rfl,s,a⟩:=hrel;by_cases D:k<n
  ·have E:decide ((k:Int)<n)=true:=(by simp;omega);have ak:(k:Int)<n:=(by omega);obtain⟨x,f⟩:∃ x,l[k]? = some x:=⟨_,Ax (by rw[<-o.out];exact D)⟩;obtain⟨ab,ao,p,q,rfl,al,c0,c1,s0,s1⟩:=(B.out.below a.out (Aj _) (fun _ _ h=>h.below a.out (Aj _))).sig f;obtain⟨pA,pc,rfl⟩:=s0.shape;obtain⟨qA,qc,rfl⟩:=s1.shape;have t:=fQ (show SigV wr (.agg #[_,_]) x from⟨_,_,rfl,s0,s1⟩);clear s0 s1;have u:=fQ f;have y:=a.out.size;have z:=fQ (C.out x (Av f));clear f
   cases g:Q x with
   | true=>
    have b:=fQ g;clear g;go_wp2_with fail;refine(z.out _ _ a.out t.out).mono ?_;rintro e F ⟨rfl,d⟩;rw[b.out];have j:=fQ (a.out.trans (d.mono y));clear d;go_wp2;go_ret;exact⟨k,rfl,by rw[aYg u.out b.out];simp,j.out⟩
   | false=>
    have b:=fQ g;clear g;go_wp2_with fail;refine(z.out _ _ a.out t.out).mono ?_;rintro e F ⟨rfl,d⟩;rw[b.out];have j:=fQ (a.out.trans (d.mono y));clear d;go_wp2;exact⟨⟨k+1,by omega,by simp,fQ (aVg u.out s.out b.out),j⟩,by simp[intOf];omega⟩
  ·have E:decide ((k:Int)<n)=false:=(by simp;omega);go_wp2;go_ret;refine⟨-1,rfl,?_,a.out⟩;have:=s.out;rw[Ak (by rw[<-o.out];omega)]at this;rw[this];rfl
theorem bQq(A:Option Addr)(n c:Nat)(l:List SigD)(Q:SigD->Bool)(w:Ay)(hs:Structs 2 SigC w (.slice A n c) l)(d:n<=9223372036854775807)
  (hq:∀ x∈l,∀ v w',AQ w.heap.size w w'->SigV w' v x->AX fZ 69 #[v] w' fun e w2=>e = .returned (.bool (Q x))/\AQ w'.heap.size w' w2) :
  AX fZ 68 #[.slice A n c,.func (.func 69) #[] #[]] w fun e w'=>e = .returned (.bool (l.any Q))/\AQ w.heap.size w w':=by
 have f:=fQ hs;have g:=fQ hq;clear hs hq;go_in;go_wp2_with fail;refine(bQp A n c l Q _ f.out d g.out).mono ?_;rintro e w1 ⟨r,rfl,a,b⟩;have h:=fQ a;have i:=fQ b;clear a b;go_wp2;go_ret;exact⟨by rw[<-h.out];rfl,i.out⟩
theorem bVh(A:Option Addr)(n c:Nat)(l:List CodeD)(Q:CodeD->Bool)(m o:Nat)(w:Ay)(hs:Structs 5 CodeC w (.slice A n c) l)(hm:n<=9223372036854775807)
  (hq:∀ x∈l,∀ v w',AQ w.heap.size w w'->CodeV w' v x->AX fZ 74 #[v,.pointer (some ⟨m,0,none⟩),.pointer (some ⟨o,0,none⟩)] w' fun e w2=>e = .returned (.bool (Q x))/\AQ w'.heap.size w' w2) :
  AX fZ 105 #[.slice A n c,.func (.func 74) #[] #[.pointer (some ⟨m,0,none⟩),.pointer (some ⟨o,0,none⟩)]] w fun e w'=>∃ r:Int,e = .returned (.int .i64 r)/\decide (0<=r)=l.any Q/\AQ w.heap.size w w':=by
 obtain⟨s,ai,af⟩:=hs.eYz;have D:=fQ hs;have t:=fQ s;have E:=fQ hq;clear hs hq s;go_in;go_wp2;go_loopw [8] (fun i wr=>∃ k:Nat,k<=n/\i = .int .i64 k/\Hid ((l.take k).any Q=false)/\Hid (AQ w.heap.size w wr)) (fun i _=>n - (intOf i).toNat)
 case atStart=>exact⟨0,by omega,rfl,fQ rfl,fQ (Az _ _)⟩
 case round=>
  obtain⟨k,hk,rfl,u,a⟩:=hrel;by_cases F:k<n
  ·have G:decide ((k:Int)<n)=true:=(by simp;omega);have ak:(k:Int)<n:=(by omega);obtain⟨x,f⟩:∃ x,l[k]? = some x:=⟨_,Ax (by rw[<-t.out];exact F)⟩;obtain⟨ab,ao,p,q,r,rfl,al,c0,c1,c2,c3,c4,s0,s1,s2,s3⟩:=(D.out.below a.out (Aj _) (fun _ _ h=>h.below a.out (Aj _))).code f;obtain⟨pA,pc,rfl⟩:=s1.shape;obtain⟨qA,qc,rfl⟩:=s2.shape;obtain⟨rA,rc,rfl⟩:=s3.shape;have y:=fQ (show CodeV wr (.agg #[.int .i64 x.op,.int .u64 (x.n:Int),_,_,_]) x from⟨_,_,_,rfl,s0,s1,s2,s3⟩);clear s0 s1 s2 s3;have z:=fQ f;have B:=a.out.size;have C:=fQ (E.out x (Av f));clear f
   cases g:Q x with
   | true=>
    have b:=fQ g;clear g;go_wp2_with fail;refine(C.out _ _ a.out y.out).mono ?_;rintro e H ⟨rfl,d⟩;rw[b.out];have j:=fQ (a.out.trans (d.mono B));clear d;go_wp2;go_ret;exact⟨k,rfl,by rw[aYg z.out b.out];simp,j.out⟩
   | false=>
    have b:=fQ g;clear g;go_wp2_with fail;refine(C.out _ _ a.out y.out).mono ?_;rintro e H ⟨rfl,d⟩;rw[b.out];have j:=fQ (a.out.trans (d.mono B));clear d;go_wp2;exact⟨⟨k+1,by omega,by simp,fQ (aVg z.out u.out b.out),j⟩,by simp[intOf];omega⟩
  ·have G:decide ((k:Int)<n)=false:=(by simp;omega);go_wp2;go_ret;refine⟨-1,rfl,?_,a.out⟩;have:=u.out;rw[Ak (by rw[<-t.out];omega)]at this;rw[this];rfl
theorem bVi(A:Option Addr)(n c:Nat)(l:List CodeD)(Q:CodeD->Bool)(a b:Nat)(w:Ay)(hs:Structs 5 CodeC w (.slice A n c) l)(g:n<=9223372036854775807)
  (hq:∀ x∈l,∀ v w',AQ w.heap.size w w'->CodeV w' v x->AX fZ 74 #[v,.pointer (some ⟨a,0,none⟩),.pointer (some ⟨b,0,none⟩)] w' fun e w2=>e = .returned (.bool (Q x))/\AQ w'.heap.size w' w2) :
  AX fZ 73 #[.slice A n c,.func (.func 74) #[] #[.pointer (some ⟨a,0,none⟩),.pointer (some ⟨b,0,none⟩)]] w fun e w'=>e = .returned (.bool (l.any Q))/\AQ w.heap.size w w':=by
 have h:=fQ hs;have i:=fQ hq;clear hs hq;go_in;go_wp2_with fail;refine(bVh A n c l Q a b _ h.out g i.out).mono ?_;rintro e w1 ⟨r,rfl,d,f⟩;have j:=fQ d;have k:=fQ f;clear d f;go_wp2;go_ret;exact⟨by rw[<-j.out];rfl,k.out⟩
theorem cZq(t:Int)(w:Ay):AX fZ 102 #[.int .i64 t] w fun e w'=>e = .returned (.bool (isK t))/\w=w':=by
 cases h1:(t == 127)with
 | true=>
  have a:=fQ (show isK t=true by simp[isK,h1]);go_in;go_wp2;go_ret;exact⟨by rw[a.out];rfl,rfl⟩
 | false=>
  have a:=fQ (show isK t=(t == 126) by simp only[isK,h1,Bool.false_or]);go_in;go_wp2;go_ret;exact⟨by rw[a.out];rfl,rfl⟩
theorem cZr(t:Int)(w:Ay):AX fZ 101 #[.int .i64 t] w fun e w'=>e = .returned (.bool (!isK t))/\AQ w.heap.size w w':=by
 go_in;go_wp2_with fail;refine(cZq _ _).mono ?_;rintro e w1 ⟨rfl,rfl⟩;go_wp2;go_ret;exact⟨rfl,Az _ _⟩
theorem aZl(m:Nat)(a:Int)(d:a=m)(v:AJ)(l:List Int)(w:Ay)(hs:IR w v l)(g:l.length<=9223372036854775807):
  AX fZ 67 #[.int .i64 a,v] w fun e w'=>e = .returned (.bool (lV m l))/\AQ w.heap.size w w':=by
 obtain⟨A,c,rfl⟩:=hs.shape;have i:=fQ hs;clear hs;by_cases h:l.length<=m
 ·have j:decide ((l.length:Int)<=a)=true:=(by simp;omega);have b:=fQ (show lV m l = !(l.any fun x=>!isK x) by rw[bZu];simp[lV,h]);clear h d;go_in;go_wp2_with fail;refine(bVg A l.length c l (fun x=>!isK x) _ i.out g (fun x hx v w' hb e=>by subst e;exact cZr x w')).mono ?_;rintro e w1 ⟨rfl,f⟩;have k:=fQ f;clear f;go_wp2;go_ret;exact⟨by rw[b.out];rfl,k.out⟩
 ·have j:decide ((l.length:Int)<=a)=false:=(by simp;omega);have b:=fQ (show lV m l=false by simp[lV,h]);clear h d;go_in;go_wp2;go_ret;exact⟨by rw[b.out];rfl,Az _ _⟩
theorem bWe(v:AJ)(s:SigD)(w:Ay)(hs:SigV w v s):
  AX fZ 70 #[v] w fun e w'=>e = .returned (.bool (sigOk s))/\AQ w.heap.size w w':=by
 obtain⟨a,b,rfl,hi,f⟩:=hs;obtain⟨m,ci,rfl⟩:=hi.shape;obtain⟨n,o,rfl⟩:=f.shape;have aj:=hi.eYz;have ak:=f.eYz;have d:=fQ (show AQ w.heap.size w (w.alloc (.cells #[.slice m s.inn.length ci,.slice n s.out.length o] 62))from(Az _ _).alloc (Aj _) _);have p:=fQ (hi.ir.below d.out (Aj _));have t:=fQ (f.ir.below d.out (Aj _));have g:=Blk.new w 62 #[.slice m s.inn.length ci,.slice n s.out.length o];have q:=fQ g;have u:=g.cell 0;have c1:=g.cell 1;simp at u c1;clear hi f g
 cases h:lV 8 s.inn with
 | true=>
  have j:=fQ h;have k:=fQ (show sigOk s=lV 8 s.out by simp only[sigOk,h,Bool.true_and]);clear h;go_in;go_wp2_with fail;refine(aZl 8 8 rfl _ s.inn _ p.out (by omega)).mono ?_;rintro e x ⟨rfl,c⟩;rw[j.out];have i:=fQ (d.out.trans (c.mono d.out.size));have y:=fQ (t.out.below c (Aj _));have l:=q.out.below c q.out.lt;have z:=l.cell 0;have A:=l.cell 1;simp at z A;clear c l;go_wp2_with fail;refine(aZl 8 8 rfl _ s.out _ y.out (by omega)).mono ?_;rintro e w2 ⟨rfl,r⟩;have B:=fQ (i.out.trans (r.mono i.out.size));clear r;go_wp2;go_ret;exact⟨by rw[k.out];rfl,B.out⟩
 | false=>
  have j:=fQ h;have k:=fQ (show sigOk s=false by simp only[sigOk,h,Bool.false_and]);clear h;go_in;go_wp2_with fail;refine(aZl 8 8 rfl _ s.inn _ p.out (by omega)).mono ?_;rintro e x ⟨rfl,c⟩;rw[j.out];have i:=fQ (d.out.trans (c.mono d.out.size));clear c;go_wp2;go_ret;exact⟨by rw[k.out];rfl,i.out⟩
theorem bVj(v:AJ)(s:SigD)(w:Ay)(hs:SigV w v s):
  AX fZ 69 #[v] w fun e w'=>e = .returned (.bool (!sigOk s))/\AQ w.heap.size w w':=by
 have f:=fQ hs;obtain⟨a,b,rfl,_⟩:=hs;have c:=fQ (show AQ w.heap.size w (w.alloc (.cells #[a,b] 62))from(Az _ _).alloc (Aj _) _);have g:=fQ (f.out.below c.out (Aj _));go_in;go_wp2_with fail;refine(bWe _ s _ g.out).mono ?_;rintro e w1 ⟨rfl,d⟩;have h:=fQ (c.out.trans (d.mono c.out.size));clear d;go_wp2;go_ret;exact⟨rfl,h.out⟩
theorem bJs(e:EnvD):(decide (e.imports<0)=true/\envOk e=false)\/(decide (e.imports<0)=false/\decide ((e.sigs.length:Int)<e.imports)=true/\envOk e=false) \/
  (decide (e.imports<0)=false/\decide ((e.sigs.length:Int)<e.imports)=false/\decide (64<(e.sigs.length:Int))=true/\envOk e=false) \/
  (decide (e.imports<0)=false/\decide ((e.sigs.length:Int)<e.imports)=false/\decide (64<(e.sigs.length:Int))=false/\((e.muts.length:Int) != (e.globals.length:Int))=true/\(e.muts.length != e.globals.length)=true/\envOk e=false) \/
  (decide (e.imports<0)=false/\decide ((e.sigs.length:Int)<e.imports)=false/\decide (64<(e.sigs.length:Int))=false/\((e.muts.length:Int) != (e.globals.length:Int))=false/\(e.muts.length != e.globals.length)=false/\envOk e=(lV 32 e.globals && e.sigs.all sigOk)):=by
 by_cases h1:e.imports<0
 ·refine .inl ⟨by simpa using h1,?_⟩;simp only[envOk];rw[decide_eq_false (by omega)];rfl
 by_cases h2:(e.sigs.length:Int)<e.imports
 ·refine .inr (.inl ⟨by simp;omega,by simpa using h2,?_⟩);simp only[envOk];rw[decide_eq_false (by omega)];rfl
 by_cases a:64<(e.sigs.length:Int)
 ·refine .inr (.inr (.inl ⟨by simp;omega,by simp;omega,by simpa using a,?_⟩));simp only[envOk];rw[decide_eq_false (by omega)];rfl
 by_cases h4:e.muts.length=e.globals.length
 ·refine .inr (.inr (.inr (.inr ⟨by simp;omega,by simp;omega,by simp;omega,by simp;omega,by simp;omega,?_⟩)));simp only[envOk];rw[decide_eq_true (by omega)];rfl
 ·refine .inr (.inr (.inr (.inl ⟨by simp;omega,by simp;omega,by simp;omega,by simp;omega,by simp;omega,?_⟩)));simp only[envOk];rw[decide_eq_false (by omega)];rfl
theorem aXl(v:AJ)(e:EnvD)(w:Ay)(hs:EnvV w v e):
  AX fZ 44 #[v] w fun en w'=>en = .returned (.bool (envOk e))/\AQ w.heap.size w w':=by
 obtain⟨a,b,d,rfl,hs,hg,u⟩:=hs;obtain⟨k,cs,rfl,_⟩:=hs.len;obtain⟨m,cg,rfl⟩:=hg.shape;obtain⟨n,o,rfl,_⟩:=u;have aj:=hg.eYz;have ak:=hs.eYz;have c:=fQ (show AQ w.heap.size w (w.alloc (.cells #[.slice k e.sigs.length cs,.int .i64 e.imports,.slice m e.globals.length cg,.slice n e.muts.length o,.bool e.mem] 26))from(Az _ _).alloc (Aj _) _);have y:=fQ (hs.below c.out (Aj _) (fun _ _ h=>h.below c.out (Aj _)));have p:=fQ (hg.ir.below c.out (Aj _));have q:=fQ (Blk.new w 26 #[.slice k e.sigs.length cs,.int .i64 e.imports,.slice m e.globals.length cg,.slice n e.muts.length o,.bool e.mem]);clear hs hg;rcases bJs e with⟨h1,he⟩ | ⟨h1,h2,he⟩ | ⟨h1,h2,r,he⟩ | ⟨h1,h2,r,z,A,he⟩ | ⟨h1,h2,r,z,A,he⟩
 ·have f:=fQ he;clear he;go_in;go_wp2;go_ret;exact⟨by rw[f.out];rfl,c.out⟩
 ·have f:=fQ he;clear he;go_in;go_wp2;go_ret;exact⟨by rw[f.out];rfl,c.out⟩
 ·have f:=fQ he;clear he;go_in;go_wp2;go_ret;exact⟨by rw[f.out];rfl,c.out⟩
 ·have f:=fQ he;clear he;go_in;go_wp2;go_ret;exact⟨by rw[f.out];rfl,c.out⟩
 ·cases i:lV 32 e.globals with
  | false=>
   rw[i]at he;have f:=fQ he;have l:=fQ i;clear he i;go_in;go_wp2_with fail;refine(aZl 32 32 rfl _ e.globals _ p.out (by omega)).mono ?_;rintro en B ⟨rfl,g⟩;rw[l.out];have j:=fQ (c.out.trans (g.mono c.out.size));clear g;go_wp2;go_ret;exact⟨by rw[f.out];rfl,j.out⟩
  | true=>
   rw[i]at he;have f:=fQ (show envOk e = !(e.sigs.any fun x=>!sigOk x) by rw[he,bZu];rfl);have l:=fQ i;clear he i;go_in;go_wp2_with fail;refine(aZl 32 32 rfl _ e.globals _ p.out (by omega)).mono ?_;rintro en B ⟨rfl,g⟩;rw[l.out];have j:=fQ (c.out.trans (g.mono c.out.size));have C:=fQ (y.out.below g (Aj _) (fun _ _ h=>h.below g (Aj _)));have s:=q.out.below g q.out.lt;have D:=s.cell 0;simp at D;clear g s;go_wp2_with fail;refine(bQq k e.sigs.length cs e.sigs (fun x=>!sigOk x) _ C.out (by omega) (fun x hx v w' hb hv=>bVj v x w' hv)).mono ?_;rintro en w2 ⟨rfl,t⟩;have E:=fQ (j.out.trans (t.mono j.out.size));clear t;go_wp2;go_ret;exact⟨by rw[f.out];rfl,E.out⟩
theorem bJu{α:Type}{l:List α}{p:α}{q:α->Bool}(h:l[k]? = some p)(h1:(l.take k).all q=true)(h2:q p=true):(l.take (k+1)).all q=true:=by
 obtain⟨a,e⟩:=List.getElem?_eq_some_iff.1 h;rw[Aw a,e,List.all_append,h1];simp[h2]
theorem bWh{α:Type}{l:List α}{p:α}{q:α->Bool}(h:l[k]? = some p)(h2:q p=false):l.all q=false:=by
 rw[List.all_eq_false];exact⟨p,Av h,by simp[h2]⟩
theorem bJv(t:Int)(w:Ay):AX fZ 110 #[.int .i64 t] w fun e w'=>e = .returned (.bool (isK t))/\w=w':=by
 cases h1:(t == 127)with
 | true=>
  have a:=fQ (show isK t=true by simp[isK,h1]);go_in;go_wp2;go_ret;exact⟨by rw[a.out];rfl,rfl⟩
 | false=>
  have a:=fQ (show isK t=(t == 126) by simp only[isK,h1,Bool.false_or]);go_in;go_wp2;go_ret;exact⟨by rw[a.out];rfl,rfl⟩
theorem aZu(m:Nat)(b:Int)(q:b=m)(v:AJ)(l:List Int)(w:Ay)(hs:IR w v l)(t:l.length<=9223372036854775807):
  AX fZ 78 #[v,.int .i64 b] w fun e w'=>e = .returned (.bool (lV m l))/\AQ w.heap.size w w':=by
 obtain⟨A,c,rfl⟩:=hs.shape;have u:=fQ hs;clear hs;obtain⟨n,hn⟩:=fX l.length;rw[hn]at t ⊢;have j:=fQ hn;by_cases h:n<=m
 ·have y:decide (b<(n:Int))=false:=(by simp;omega);have d:=fQ (show lV m l=l.all isK by simp[lV,hn,h]);clear h q hn;go_in;go_wp2;go_loopw [5] (fun i wr=>∃ k:Nat,k<=n/\i = .int .i64 k/\Hid ((l.take k).all isK=true)/\Hid (AQ w.heap.size w wr)) (fun i _=>n - (intOf i).toNat)
  case atStart=>exact⟨0,by omega,rfl,fQ rfl,fQ (Az _ _)⟩
  case round=>
   obtain⟨k,hk,rfl,r,f⟩:=hrel;by_cases z:k<n
   ·have B:decide ((k:Int)<n)=true:=(by simp;omega);have ag:(k:Int)<n:=(by omega);obtain⟨x,o⟩:∃ x,l[k]? = some x:=⟨_,Ax (by rw[j.out];exact z)⟩;have p:=u.out.below f.out (Aj _);rw[j.out]at p;obtain⟨ab,ao,rfl,ah,ai⟩:=p.cell o;have s:=fQ o;clear o p
    cases g:isK x with
    | true=>
     have a:=fQ g;clear g;go_wp2_with (go_at_call 110;refine(bJv _ _).mono ?_;rintro e C ⟨rfl,rfl⟩;rw[a.out]);exact⟨⟨k+1,by omega,by simp,fQ (bJu s.out r.out a.out),f⟩,by simp[intOf];omega⟩
    | false=>
     have a:=fQ g;clear g;go_wp2_with (go_at_call 110;refine(bJv _ _).mono ?_;rintro e C ⟨rfl,rfl⟩;rw[a.out]);go_ret;exact⟨by rw[d.out,bWh s.out a.out];rfl,f.out⟩
   ·have B:decide ((k:Int)<n)=false:=(by simp;omega);have D:=fQ (show l.all isK=true by have:=r.out;rwa[Ak (by rw[j.out];omega)]at this);go_wp2;go_ret;exact⟨by rw[d.out,D.out];rfl,f.out⟩
 ·have y:decide (b<(n:Int))=true:=(by simp;omega);have d:=fQ (show lV m l=false by simp[lV,hn,h]);clear h q hn;go_in;go_wp2;go_ret;exact⟨by rw[d.out];rfl,Az _ _⟩
theorem bWi(v:AJ)(s:SigD)(w:Ay)(hs:SigV w v s):
  AX fZ 79 #[v] w fun e w'=>e = .returned (.bool (sigOk s))/\AQ w.heap.size w w':=by
 obtain⟨a,b,rfl,hi,f⟩:=hs;obtain⟨m,ci,rfl⟩:=hi.shape;obtain⟨n,o,rfl⟩:=f.shape;have aj:=hi.eYz;have ak:=f.eYz;have d:=fQ (show AQ w.heap.size w (w.alloc (.cells #[.slice m s.inn.length ci,.slice n s.out.length o] 62))from(Az _ _).alloc (Aj _) _);have p:=fQ (hi.ir.below d.out (Aj _));have t:=fQ (f.ir.below d.out (Aj _));have g:=Blk.new w 62 #[.slice m s.inn.length ci,.slice n s.out.length o];have q:=fQ g;have u:=g.cell 0;have c1:=g.cell 1;simp at u c1;clear hi f g
 cases h:lV 8 s.inn with
 | true=>
  have j:=fQ h;have k:=fQ (show sigOk s=lV 8 s.out by simp only[sigOk,h,Bool.true_and]);clear h;go_in;go_wp2_with fail;refine(aZu 8 8 rfl _ s.inn _ p.out (by omega)).mono ?_;rintro e x ⟨rfl,c⟩;rw[j.out];have i:=fQ (d.out.trans (c.mono d.out.size));have y:=fQ (t.out.below c (Aj _));have l:=q.out.below c q.out.lt;have z:=l.cell 0;have A:=l.cell 1;simp at z A;clear c l;go_wp2_with fail;refine(aZu 8 8 rfl _ s.out _ y.out (by omega)).mono ?_;rintro e w2 ⟨rfl,r⟩;have B:=fQ (i.out.trans (r.mono i.out.size));clear r;go_wp2;go_ret;exact⟨by rw[k.out];rfl,B.out⟩
 | false=>
  have j:=fQ h;have k:=fQ (show sigOk s=false by simp only[sigOk,h,Bool.false_and]);clear h;go_in;go_wp2_with fail;refine(aZu 8 8 rfl _ s.inn _ p.out (by omega)).mono ?_;rintro e x ⟨rfl,c⟩;rw[j.out];have i:=fQ (d.out.trans (c.mono d.out.size));clear c;go_wp2;go_ret;exact⟨by rw[k.out];rfl,i.out⟩
theorem cZw(e:EnvD):(decide (64<(e.sigs.length:Int))=true/\envOk e=false)\/(decide (64<(e.sigs.length:Int))=false/\decide (e.imports<0)=true/\envOk e=false) \/
  (decide (64<(e.sigs.length:Int))=false/\decide (e.imports<0)=false/\decide ((e.sigs.length:Int)<e.imports)=true/\envOk e=false) \/
  (decide (64<(e.sigs.length:Int))=false/\decide (e.imports<0)=false/\decide ((e.sigs.length:Int)<e.imports)=false/\lV 32 e.globals=false/\envOk e=false) \/
  (decide (64<(e.sigs.length:Int))=false/\decide (e.imports<0)=false/\decide ((e.sigs.length:Int)<e.imports)=false/\lV 32 e.globals=true/\((e.muts.length:Int) != (e.globals.length:Int))=true/\(e.muts.length != e.globals.length)=true/\envOk e=false) \/
  (decide (64<(e.sigs.length:Int))=false/\decide (e.imports<0)=false/\decide ((e.sigs.length:Int)<e.imports)=false/\lV 32 e.globals=true/\((e.muts.length:Int) != (e.globals.length:Int))=false/\(e.muts.length != e.globals.length)=false/\envOk e=e.sigs.all sigOk):=by
 rcases bJs e with⟨h1,he⟩ | ⟨h1,h2,he⟩ | ⟨h1,h2,a,he⟩ | ⟨h1,h2,a,b,c,he⟩ | ⟨h1,h2,a,b,c,he⟩
 ·cases a:decide (64<(e.sigs.length:Int))with
  | true=>exact .inl ⟨rfl,he⟩
  | false=>exact .inr (.inl ⟨rfl,h1,he⟩)
 ·cases a:decide (64<(e.sigs.length:Int))with
  | true=>exact .inl ⟨rfl,he⟩
  | false=>exact .inr (.inr (.inl ⟨rfl,h1,h2,he⟩))
 ·exact .inl ⟨a,he⟩
 ·cases hk:lV 32 e.globals with
  | false=>exact .inr (.inr (.inr (.inl ⟨a,h1,h2,rfl,he⟩)))
  | true=>exact .inr (.inr (.inr (.inr (.inl ⟨a,h1,h2,rfl,b,c,he⟩))))
 ·cases hk:lV 32 e.globals with
  | false=>exact .inr (.inr (.inr (.inl ⟨a,h1,h2,rfl,by rw[he,hk];rfl⟩)))
  | true=>exact .inr (.inr (.inr (.inr (.inr ⟨a,h1,h2,rfl,b,c,by rw[he,hk];rfl⟩))))
theorem aQq(v:AJ)(e:EnvD)(w:Ay)(hs:EnvV w v e):
  AX fZ 49 #[v] w fun en w'=>en = .returned (.bool (envOk e))/\AQ w.heap.size w w':=by
 obtain⟨a,b,d,rfl,hs,hg,L⟩:=hs;obtain⟨A,cs,rfl,_⟩:=hs.len;obtain⟨B,cg,rfl⟩:=hg.shape;obtain⟨C,D,rfl,_⟩:=L;have ar:=hg.eYz;have au:=hs.eYz;have f:=fQ (show AQ w.heap.size w (w.alloc (.cells #[.slice A e.sigs.length cs,.int .i64 e.imports,.slice B e.globals.length cg,.slice C e.muts.length D,.bool e.mem] 26))from(Az _ _).alloc (Aj _) _);have M:=fQ (hs.below f.out (Aj _) (fun _ _ h=>h.below f.out (Aj _)));have N:=fQ (hg.ir.below f.out (Aj _));have E:=fQ (Blk.new w 26 #[.slice A e.sigs.length cs,.int .i64 e.imports,.slice B e.globals.length cg,.slice C e.muts.length D,.bool e.mem]);clear hs hg;rcases cZw e with⟨h1,he⟩ | ⟨h1,h2,he⟩ | ⟨h1,h2,u,he⟩ | ⟨h1,h2,u,r,he⟩ | ⟨h1,h2,u,r,O,P,he⟩ | ⟨h1,h2,u,r,O,P,he⟩
 ·have c:=fQ he;clear he;go_in;go_wp2;go_ret;exact⟨by rw[c.out];rfl,f.out⟩
 ·have c:=fQ he;clear he;go_in;go_wp2;go_ret;exact⟨by rw[c.out];rfl,f.out⟩
 ·have c:=fQ he;clear he;go_in;go_wp2;go_ret;exact⟨by rw[c.out];rfl,f.out⟩
 all_goals
  have c:=fQ he;have Q:=fQ r;clear he r;go_in;go_wp2_with fail;refine(aZu 32 32 rfl _ e.globals _ N.out (by omega)).mono ?_;rintro en F ⟨rfl,l⟩;rw[Q.out];have j:=fQ (f.out.trans (l.mono f.out.size));have R:=fQ (M.out.below l (Aj _) (fun _ _ h=>h.below l (Aj _)));have m:=fQ (E.out.below l E.out.lt);have s:=m.out.cell 0;have G:=m.out.cell 2;have H:=m.out.cell 3;simp at s G H;clear l
 ·go_wp2;go_ret;exact⟨by rw[c.out];rfl,j.out⟩
 ·go_wp2;go_ret;exact⟨by rw[c.out];rfl,j.out⟩
 ·go_wp2;clear s G H;go_loopw [3] (fun i wr=>∃ k:Nat,k<=e.sigs.length/\i = .int .i64 k/\Hid ((e.sigs.take k).all sigOk=true)/\Hid (AQ F.heap.size F wr)) (fun i _=>e.sigs.length - (intOf i).toNat)
  case atStart=>exact⟨0,by omega,rfl,fQ rfl,fQ (Az _ _)⟩
  case round=>
   obtain⟨k,hk,rfl,I,g⟩:=hrel;have S:=fQ (m.out.below g.out m.out.lt);have s:=S.out.cell 0;simp at s;by_cases T:k<e.sigs.length
   ·have U:decide ((k:Int)<(e.sigs.length:Int))=true:=(by simp;omega);have aq:(k:Int)<(e.sigs.length:Int):=(by omega);obtain⟨x,y⟩:∃ x,e.sigs[k]? = some x:=⟨_,Ax T⟩;obtain⟨ab,ao,p,q,rfl,aw,c0,c1,s0,s1⟩:=(R.out.below g.out (Aj _) (fun _ _ h=>h.below g.out (Aj _))).sig y;obtain⟨pA,pc,rfl⟩:=s0.shape;obtain⟨qA,qc,rfl⟩:=s1.shape;have J:=fQ (show SigV wr (.agg #[_,_]) x from⟨_,_,rfl,s0,s1⟩);have K:=fQ y;clear y s0 s1
    cases t:sigOk x with
    | true=>
     have n:=fQ t;clear t;go_wp2_with fail;refine(bWi _ x _ J.out).mono ?_;rintro en V ⟨rfl,o⟩;rw[n.out];have z:=fQ (g.out.trans (o.mono g.out.size));clear o;go_wp2;exact⟨⟨k+1,by omega,by simp,fQ (bJu K.out I.out n.out),z⟩,by simp[intOf];omega⟩
    | false=>
     have n:=fQ t;clear t;go_wp2_with fail;refine(bWi _ x _ J.out).mono ?_;rintro en V ⟨rfl,o⟩;rw[n.out];have z:=fQ (g.out.trans (o.mono g.out.size));clear o;go_wp2;go_ret;exact⟨by rw[c.out,bWh K.out n.out];rfl,j.out.trans (z.out.mono j.out.size)⟩
   ·have U:decide ((k:Int)<(e.sigs.length:Int))=false:=(by simp;omega);have W:=fQ (show e.sigs.all sigOk=true by have:=I.out;rwa[Ak (by omega)]at this);go_wp2;go_ret;exact⟨by rw[c.out,W.out];rfl,j.out.trans (g.out.mono j.out.size)⟩
def NewV(base:Nat)(v:AJ):Prop:=∀ A n c,v = .slice A n c->∀ a,A=some a->base<=a.block
theorem NewV.nil(base:Nat):NewV base (.slice none 0 0):=by
 intro A n c e a ha;injection e with e;rw[<-e]at ha;cases ha
theorem NewV.at{base g n c:Nat}(h:base<=g):NewV base (.slice (some ⟨g,0,none⟩) n c):=by
 intro A n c e a ha;injection e with e;rw[<-e]at ha;injection ha with ha;subst ha;exact h
def ShP(fr:Bool)(F:Option (List Int×List Int))(n:Nat)(lo hi:Int)(w:Ay)(en:Ending)(w':Ay):Prop:=
 ∃ (c vo:AJ) (most:Nat) (a b:Int) (ok:Bool) (i o:List Int),en = .returned (.tuple #[.agg #[c,vo,.int .u64 (most:Int),.int .i64 a,.int .i64 b],.bool ok])/\IR w' c i/\IR w' vo o/\most<18446744073709551616 /\
  (F=none->ok=false\/most<n)/\(∀ x,F=some x->ok=true/\n<=most/\x=(i,o)/\a=lo/\b=hi)/\(fr=true->NewV w.heap.size c/\NewV w.heap.size vo)/\AQ w.heap.size w w'
theorem ShP.no{fr:Bool}{F:Option (List Int×List Int)}{n:Nat}{lo hi:Int}{w':Ay}(hF:F=none)(a:AQ w.heap.size w w'):
  ShP fr F n lo hi w (.returned (.tuple #[.agg #[.slice none 0 0,.slice none 0 0,.int .u64 0,.int .i64 0,.int .i64 0],.bool false])) w':=
 ⟨_,_,0,0,0,false,[],[],rfl,IR.nil _,IR.nil _,by omega,fun _=>.inl rfl,(fun x h=>by rw[hF]at h;cases h),fun _=>⟨NewV.nil _,NewV.nil _⟩,a⟩
theorem gJ{e:TypeId}{a b c d f:AJ}(h:Blk w g e #[a,b,c,d,f]):
  w.cell? ⟨g,0,none⟩=some a/\w.cell? ⟨g,1,none⟩=some b/\w.cell? ⟨g,2,none⟩=some c/\w.cell? ⟨g,3,none⟩=some d/\w.cell? ⟨g,4,none⟩=some f:=by
 have i:=h.cell 0;have c1:=h.cell 1;have j:=h.cell 2;have k:=h.cell 3;have l:=h.cell 4;simp at i c1 j k l;exact⟨i,c1,j,k,l⟩
theorem frz{e:TypeId}{cs:Array AJ}(h:Blk w g e cs)(i:Nat):w.frozen? ⟨g,i,none⟩=false:=frozen_of_row w g i _ _ h
theorem aXk{B:Nat}{w':Ay}(h:AQ B w w')(hg:B<=g)(a b c d e:AJ):
  AQ B w (((((w'.setCell ⟨g,0,none⟩ a).setCell ⟨g,1,none⟩ b).setCell ⟨g,2,none⟩ c).setCell ⟨g,3,none⟩ d).setCell ⟨g,4,none⟩ e):=
 ((((h.setCell (p:=⟨g,0,none⟩) hg a).setCell (p:=⟨g,1,none⟩) hg b).setCell (p:=⟨g,2,none⟩) hg c).setCell (p:=⟨g,3,none⟩) hg d).setCell (p:=⟨g,4,none⟩) hg e
theorem bXj{cs:Array AJ}(h:Blk w k t cs)(hg:k≠g)(a b c d e:AJ):
  Blk (((((w.setCell ⟨g,0,none⟩ a).setCell ⟨g,1,none⟩ b).setCell ⟨g,2,none⟩ c).setCell ⟨g,3,none⟩ d).setCell ⟨g,4,none⟩ e) k t cs:=
 ((((h.setCell (p:=⟨g,0,none⟩) a hg).setCell (p:=⟨g,1,none⟩) b hg).setCell (p:=⟨g,2,none⟩) c hg).setCell (p:=⟨g,3,none⟩) d hg).setCell (p:=⟨g,4,none⟩) e hg
theorem cZj(m:Bool)(n:Nat)(hn:n<18446744073709551616)(w:Ay):AX fZ 134 #[.int .i64 257,.bool m] w (ShP true (mJ m 257 n) n 0 0 w):=by
 have ha:acc 257=none:=(by kernel_rfl);have j:=fQ (show fK 257 = .tuple #[.int .i64 0,.int .i64 0,.bool false,.bool false] by simp[fK,ha]);have c:=fQ (show mJ m 257 n=if m=false then none else if n<=8589934592 then some ([127],[])else none by simp[mJ]);clear ha;have k:=fQ hn;clear hn;go_in;go_wp2_with fail;have d:=fQ (show AQ w.heap.size w ((w.alloc (.cells #[.slice none 0 0,.slice none 0 0,.int .u64 0,.int .i64 0,.int .i64 0] 156)).alloc (.cells #[.int .i64 127] 3))from((Az _ _).alloc (Aj _) _).alloc (by simp) _);have f:=fQ ((Blk.new w 156 #[.slice none 0 0,.slice none 0 0,.int .u64 0,.int .i64 0,.int .i64 0]).alloc (.cells #[.int .i64 127] 3));have g:=fQ (Blk.newAt (w.alloc (.cells #[.slice none 0 0,.slice none 0 0,.int .u64 0,.int .i64 0,.int .i64 0] 156)) (N:=w.heap.size+1) 3 #[.int .i64 127] (by simp));refine(qQ 257 _).mono ?_;rintro e w1 ⟨rfl,b⟩;rw[j.out];have h:=fQ (d.out.trans (b.mono d.out.size));have a:=fQ (f.out.below b f.out.lt);have i:=fQ (g.out.below b g.out.lt);clear b;have l:=a.out.lt;have ae:=i.out.lt;obtain⟨o,p,q,r,s⟩:=gJ a.out;have z0:=frz a.out 0;have z1:=frz a.out 1;have z2:=frz a.out 2;have z3:=frz a.out 3;have z4:=frz a.out 4;go_wp2;refine bodyPost_ret (v:=.tuple #[.agg #[.slice (some ⟨w.heap.size+1,0,none⟩) 1 1,.slice none 0 0,.int .u64 8589934592,.int .i64 0,.int .i64 0],.bool m]) (by simp[results,results134,go_sem,l,o,p,q,r,s]) rfl ?_;have:=k.out;refine⟨_,_,8589934592,0,0,m,[127],[],rfl,?_,?_,by omega,?_,?_,?_,?_⟩
 ·exact IR.one (t:=3) (x:=127) (bXj i.out (by omega) _ _ _ _ _)
 ·exact IR.nil _
 ·intro hf;rw[c.out]at hf
  cases m with
  | false=>exact .inl rfl
  | true=>exact .inr (by simp at hf;omega)
 ·intro x hf;rw[c.out]at hf
  cases m with
  | false=>simp at hf
  | true=>
   simp at hf;exact⟨rfl,by omega,hf.2.symm,rfl,rfl⟩
 ·exact fun _=>⟨NewV.at (by have:=h.out.size;omega),NewV.nil _⟩
 ·exact(aXk h.out (Aj _) _ _ _ _ _)
theorem cVy(m:Bool)(n:Nat)(hn:n<18446744073709551616)(w:Ay):AX fZ 134 #[.int .i64 63,.bool m] w (ShP true (mJ m 63 n) n 0 0 w):=by
 have ha:acc 63=none:=(by kernel_rfl);have j:=fQ (show fK 63 = .tuple #[.int .i64 0,.int .i64 0,.bool false,.bool false] by simp[fK,ha]);have c:=fQ (show mJ m 63 n=if m=false then none else if n=0 then some ([],[127])else none by simp[mJ,ha]);clear ha;have k:=fQ hn;clear hn;go_in;go_wp2_with fail;have d:=fQ (show AQ w.heap.size w ((w.alloc (.cells #[.slice none 0 0,.slice none 0 0,.int .u64 0,.int .i64 0,.int .i64 0] 156)).alloc (.cells #[.int .i64 127] 3))from((Az _ _).alloc (Aj _) _).alloc (by simp) _);have f:=fQ ((Blk.new w 156 #[.slice none 0 0,.slice none 0 0,.int .u64 0,.int .i64 0,.int .i64 0]).alloc (.cells #[.int .i64 127] 3));have g:=fQ (Blk.newAt (w.alloc (.cells #[.slice none 0 0,.slice none 0 0,.int .u64 0,.int .i64 0,.int .i64 0] 156)) (N:=w.heap.size+1) 3 #[.int .i64 127] (by simp));refine(qQ 63 _).mono ?_;rintro e w1 ⟨rfl,b⟩;rw[j.out];have h:=fQ (d.out.trans (b.mono d.out.size));have a:=fQ (f.out.below b f.out.lt);have i:=fQ (g.out.below b g.out.lt);clear b;have l:=a.out.lt;have ae:=i.out.lt;obtain⟨o,p,q,r,s⟩:=gJ a.out;have z0:=frz a.out 0;have z1:=frz a.out 1;have z2:=frz a.out 2;have z3:=frz a.out 3;have z4:=frz a.out 4;go_wp2;refine bodyPost_ret (v:=.tuple #[.agg #[.slice none 0 0,.slice (some ⟨w.heap.size+1,0,none⟩) 1 1,.int .u64 0,.int .i64 0,.int .i64 0],.bool m]) (by simp[results,results134,go_sem,l,o,p,q,r,s]) rfl ?_;have:=k.out;refine⟨_,_,0,0,0,m,[],[127],rfl,?_,?_,by omega,?_,?_,?_,?_⟩
 ·exact IR.nil _
 ·exact IR.one (t:=3) (x:=127) (bXj i.out (by omega) _ _ _ _ _)
 ·intro hf;rw[c.out]at hf
  cases m with
  | false=>exact .inl rfl
  | true=>exact .inr (by simp at hf;omega)
 ·intro x hf;rw[c.out]at hf
  cases m with
  | false=>simp at hf
  | true=>
   simp at hf;exact⟨rfl,by omega,hf.2.symm,rfl,rfl⟩
 ·exact fun _=>⟨NewV.nil _,NewV.at (by have:=h.out.size;omega)⟩
 ·exact(aXk h.out (Aj _) _ _ _ _ _)
theorem cVz(m:Bool)(n:Nat)(hn:n<18446744073709551616)(w:Ay):AX fZ 134 #[.int .i64 64,.bool m] w (ShP true (mJ m 64 n) n 0 0 w):=by
 have ha:acc 64=none:=(by kernel_rfl);have j:=fQ (show fK 64 = .tuple #[.int .i64 0,.int .i64 0,.bool false,.bool false] by simp[fK,ha]);have f:=fQ (show mJ m 64 n=if m=false then none else if n=0 then some ([127],[127])else none by simp[mJ,ha]);clear ha;have k:=fQ hn;clear hn;go_in;go_wp2_with fail;have g:=fQ (show AQ w.heap.size w ((w.alloc (.cells #[.slice none 0 0,.slice none 0 0,.int .u64 0,.int .i64 0,.int .i64 0] 156)).alloc (.cells #[.int .i64 127] 3))from((Az _ _).alloc (Aj _) _).alloc (by simp) _);have h:=fQ ((Blk.new w 156 #[.slice none 0 0,.slice none 0 0,.int .u64 0,.int .i64 0,.int .i64 0]).alloc (.cells #[.int .i64 127] 3));have i:=fQ (Blk.newAt (w.alloc (.cells #[.slice none 0 0,.slice none 0 0,.int .u64 0,.int .i64 0,.int .i64 0] 156)) (N:=w.heap.size+1) 3 #[.int .i64 127] (by simp));refine(qQ 64 _).mono ?_;rintro e w1 ⟨rfl,b⟩;rw[j.out];have c:=fQ (g.out.trans (b.mono g.out.size));have a:=fQ (h.out.below b h.out.lt);have d:=fQ (i.out.below b i.out.lt);clear b;have l:=a.out.lt;have ae:=d.out.lt;obtain⟨o,p,q,r,s⟩:=gJ a.out;have z0:=frz a.out 0;have z1:=frz a.out 1;have z2:=frz a.out 2;have z3:=frz a.out 3;have z4:=frz a.out 4;go_wp2;refine bodyPost_ret (v:=.tuple #[.agg #[.slice (some ⟨w.heap.size+1,0,none⟩) 1 1,.slice (some ⟨w.heap.size+1,0,none⟩) 1 1,.int .u64 0,.int .i64 0,.int .i64 0],.bool m]) (by simp[results,results134,go_sem,l,o,p,q,r,s]) rfl ?_;have:=k.out;refine⟨_,_,0,0,0,m,[127],[127],rfl,?_,?_,by omega,?_,?_,?_,?_⟩
 ·exact IR.one (t:=3) (x:=127) (bXj d.out (by omega) _ _ _ _ _)
 ·exact IR.one (t:=3) (x:=127) (bXj d.out (by omega) _ _ _ _ _)
 ·intro hf;rw[f.out]at hf
  cases m with
  | false=>exact .inl rfl
  | true=>exact .inr (by simp at hf;omega)
 ·intro x hf;rw[f.out]at hf
  cases m with
  | false=>simp at hf
  | true=>
   simp at hf;exact⟨rfl,by omega,hf.2.symm,rfl,rfl⟩
 ·exact fun _=>⟨NewV.at (by have:=c.out.size;omega),NewV.at (by have:=c.out.size;omega)⟩
 ·exact(aXk c.out (Aj _) _ _ _ _ _)
theorem bWd(op k wd:Int)(i:Bool)(ha:acc op=some (k,wd,true,i))(m:Bool)(n:Nat)(hn:n<18446744073709551616)(w:Ay):AX fZ 134 #[.int .i64 op,.bool m] w (ShP true (mJ m op n) n 0 0 w):=by
 have j:=fQ (show fK op = .tuple #[.int .i64 k,.int .i64 wd,.bool true,.bool true] by simp[fK,ha]);have l:=(lZ ha).2.2;have d:=fQ (show mJ m op n=if m=false then none else if n<=4294967295 then some ([127,k],[])else none by simp only[mJ,ha];rw[if_neg (show ¬op=257 by omega)];rfl);have g0:(op == 257)=false:=(by simp;omega);have g1:(op == 63)=false:=(by simp;omega);have g2:(op == 64)=false:=(by simp;omega);clear ha l;have o:=fQ hn;clear hn;go_in;go_wp2_with fail;have f:=fQ (show AQ w.heap.size w ((w.alloc (.cells #[.slice none 0 0,.slice none 0 0,.int .u64 0,.int .i64 0,.int .i64 0] 156)).alloc (.cells #[.int .i64 127] 3))from((Az _ _).alloc (Aj _) _).alloc (by simp) _);have g:=fQ ((Blk.new w 156 #[.slice none 0 0,.slice none 0 0,.int .u64 0,.int .i64 0,.int .i64 0]).alloc (.cells #[.int .i64 127] 3));have h:=fQ (Blk.newAt (w.alloc (.cells #[.slice none 0 0,.slice none 0 0,.int .u64 0,.int .i64 0,.int .i64 0] 156)) (N:=w.heap.size+1) 3 #[.int .i64 127] (by simp));refine(qQ op _).mono ?_;rintro e p ⟨rfl,b⟩;rw[j.out];have c:=fQ (f.out.trans (b.mono f.out.size));have a:=fQ (g.out.below b g.out.lt);have q:=fQ (h.out.below b h.out.lt);clear b;have r:=a.out.lt;have ae:=q.out.lt;obtain⟨s,u,z,A,B⟩:=gJ a.out;have z0:=frz a.out 0;have z1:=frz a.out 1;have z2:=frz a.out 2;have z3:=frz a.out 3;have z4:=frz a.out 4;go_wp2;refine bodyPost_ret (v:=.tuple #[.agg #[.slice (some ⟨p.heap.size,0,none⟩) 2 2,.slice none 0 0,.int .u64 4294967295,.int .i64 0,.int .i64 0],.bool m]) (by simp[results,results134,go_sem,r,s,u,z,A,B]) rfl ?_;have:=o.out;refine⟨_,_,4294967295,0,0,m,[127,k],[],rfl,?_,?_,by omega,?_,?_,?_,?_⟩
 ·exact IR.two (t:=3) (x:=127) (y:=k) (Blk.newAt _ _ _ (by simp))
 ·exact IR.nil _
 ·intro hf;rw[d.out]at hf
  cases m with
  | false=>exact .inl rfl
  | true=>exact .inr (by simp at hf;omega)
 ·intro x hf;rw[d.out]at hf
  cases m with
  | false=>simp at hf
  | true=>
   simp at hf;exact⟨rfl,by omega,hf.2.symm,rfl,rfl⟩
 ·exact fun _=>⟨NewV.at (by have:=c.out.size;omega),NewV.nil _⟩
 ·exact(aXk c.out (Aj _) _ _ _ _ _).alloc (by simp;have:=c.out.size;omega) _
theorem cQf(op k wd:Int)(j:Bool)(ha:acc op=some (k,wd,false,j))(m:Bool)(n:Nat)(hn:n<18446744073709551616)(w:Ay):AX fZ 134 #[.int .i64 op,.bool m] w (ShP true (mJ m op n) n 0 0 w):=by
 have l:=fQ (show fK op = .tuple #[.int .i64 k,.int .i64 wd,.bool false,.bool true] by simp[fK,ha]);have o:=(lZ ha).2.2;have d:=fQ (show mJ m op n=if m=false then none else if n<=4294967295 then some ([127],[k])else none by simp only[mJ,ha];rw[if_neg (show ¬op=257 by omega)];rfl);have g0:(op == 257)=false:=(by simp;omega);have g1:(op == 63)=false:=(by simp;omega);have g2:(op == 64)=false:=(by simp;omega);clear ha o;have p:=fQ hn;clear hn;go_in;go_wp2_with fail;have f:=fQ (show AQ w.heap.size w ((w.alloc (.cells #[.slice none 0 0,.slice none 0 0,.int .u64 0,.int .i64 0,.int .i64 0] 156)).alloc (.cells #[.int .i64 127] 3))from((Az _ _).alloc (Aj _) _).alloc (by simp) _);have g:=fQ ((Blk.new w 156 #[.slice none 0 0,.slice none 0 0,.int .u64 0,.int .i64 0,.int .i64 0]).alloc (.cells #[.int .i64 127] 3));have h:=fQ (Blk.newAt (w.alloc (.cells #[.slice none 0 0,.slice none 0 0,.int .u64 0,.int .i64 0,.int .i64 0] 156)) (N:=w.heap.size+1) 3 #[.int .i64 127] (by simp));refine(qQ op _).mono ?_;rintro e q ⟨rfl,b⟩;rw[l.out];have c:=fQ (f.out.trans (b.mono f.out.size));have a:=fQ (g.out.below b g.out.lt);have i:=fQ (h.out.below b h.out.lt);clear b;have r:=a.out.lt;have ae:=i.out.lt;obtain⟨s,u,y,z,A⟩:=gJ a.out;have z0:=frz a.out 0;have z1:=frz a.out 1;have z2:=frz a.out 2;have z3:=frz a.out 3;have z4:=frz a.out 4;go_wp2;refine bodyPost_ret (v:=.tuple #[.agg #[.slice (some ⟨w.heap.size+1,0,none⟩) 1 1,.slice (some ⟨q.heap.size,0,none⟩) 1 1,.int .u64 4294967295,.int .i64 0,.int .i64 0],.bool m]) (by simp[results,results134,go_sem,r,s,u,y,z,A]) rfl ?_;have:=p.out;refine⟨_,_,4294967295,0,0,m,[127],[k],rfl,?_,?_,by omega,?_,?_,?_,?_⟩
 ·exact IR.one (t:=3) (x:=127) ((bXj i.out (by omega) _ _ _ _ _).alloc _)
 ·exact IR.one (t:=3) (x:=k) (Blk.newAt _ _ _ (by simp))
 ·intro hf;rw[d.out]at hf
  cases m with
  | false=>exact .inl rfl
  | true=>exact .inr (by simp at hf;omega)
 ·intro x hf;rw[d.out]at hf
  cases m with
  | false=>simp at hf
  | true=>
   simp at hf;exact⟨rfl,by omega,hf.2.symm,rfl,rfl⟩
 ·exact fun _=>⟨NewV.at (by have:=c.out.size;omega),NewV.at (by have:=c.out.size;omega)⟩
 ·exact(aXk c.out (Aj _) _ _ _ _ _).alloc (by simp;have:=c.out.size;omega) _
theorem cQg(op:Int)(ha:acc op=none)(c:(op == 257)=false)(d:(op == 63)=false)(f:(op == 64)=false)(m:Bool)(n:Nat)(hn:n<18446744073709551616)(w:Ay):AX fZ 134 #[.int .i64 op,.bool m] w (ShP true (mJ m op n) n 0 0 w):=by
 have j:=fQ (show fK op = .tuple #[.int .i64 0,.int .i64 0,.bool false,.bool false] by simp[fK,ha])
 have k:=fQ (show mJ m op n=none by
  simp at c d f;simp only[mJ,ha,c,d,f,if_false]
  cases m <;> rfl)
 clear ha;have HN:=fQ hn;clear hn;go_in;go_wp2_with fail;have g:=fQ (show AQ w.heap.size w ((w.alloc (.cells #[.slice none 0 0,.slice none 0 0,.int .u64 0,.int .i64 0,.int .i64 0] 156)).alloc (.cells #[.int .i64 127] 3))from((Az _ _).alloc (Aj _) _).alloc (by simp) _);have h:=fQ ((Blk.new w 156 #[.slice none 0 0,.slice none 0 0,.int .u64 0,.int .i64 0,.int .i64 0]).alloc (.cells #[.int .i64 127] 3));have i:=fQ (Blk.newAt (w.alloc (.cells #[.slice none 0 0,.slice none 0 0,.int .u64 0,.int .i64 0,.int .i64 0] 156)) (N:=w.heap.size+1) 3 #[.int .i64 127] (by simp));refine(qQ op _).mono ?_;rintro e w1 ⟨rfl,b⟩;rw[j.out];have l:=fQ (g.out.trans (b.mono g.out.size));have a:=fQ (h.out.below b h.out.lt);have o:=fQ (i.out.below b i.out.lt);clear b;have p:=a.out.lt;have ae:=o.out.lt;obtain⟨q,r,s,t,u⟩:=gJ a.out;have z0:=frz a.out 0;have z1:=frz a.out 1;have z2:=frz a.out 2;have z3:=frz a.out 3;have z4:=frz a.out 4;go_wp2;refine bodyPost_ret (v:=.tuple #[.agg #[.slice none 0 0,.slice none 0 0,.int .u64 0,.int .i64 0,.int .i64 0],.bool false]) (by simp[results,results134,go_sem,p,q,r,s,t,u]) rfl ?_;exact ShP.no k.out (aXk l.out (Aj _) _ _ _ _ _)
theorem cZk(op:Int)(m:Bool)(n:Nat)(hn:n<18446744073709551616)(w:Ay):AX fZ 134 #[.int .i64 op,.bool m] w (ShP true (mJ m op n) n 0 0 w):=by
 cases ha:acc op with
 | some r=>
  obtain⟨k,wd,st,a⟩:=r
  cases st with
  | true=>exact bWd op k wd a ha m n hn w
  | false=>exact cQf op k wd a ha m n hn w
 | none=>
  by_cases b:op=257
  ·subst b;exact cZj m n hn w
  by_cases h1:op=63
  ·subst h1;exact cVy m n hn w
  by_cases h2:op=64
  ·subst h2;exact cVz m n hn w
  exact cQg op ha (by simpa using b) (by simpa using h1) (by simpa using h2) m n hn w
theorem al4(w:Ay)(a b c d:Obj):AQ w.heap.size w ((((w.alloc a).alloc b).alloc c).alloc d):=((((Az _ _).alloc (Aj _) _).alloc (by simp) _).alloc (by simp;omega) _).alloc (by simp;omega) _
theorem al5(w:Ay)(a b c d e:Obj):AQ w.heap.size w (((((w.alloc a).alloc b).alloc c).alloc d).alloc e):=(al4 w a b c d).alloc (by simp;omega) _
theorem al6(w:Ay)(a b c d e f:Obj):AQ w.heap.size w ((((((w.alloc a).alloc b).alloc c).alloc d).alloc e).alloc f):=(al5 w a b c d e).alloc (by simp;omega) _
theorem at3(w:Ay)(a b:Obj)(t:TypeId)(cs:Array AJ):Blk (((w.alloc a).alloc b).alloc (.cells cs t)) (w.heap.size+1+1) t cs:=Blk.newAt _ _ _ (by simp)
theorem at4(w:Ay)(a b c:Obj)(t:TypeId)(cs:Array AJ):Blk ((((w.alloc a).alloc b).alloc c).alloc (.cells cs t)) (w.heap.size+1+1+1) t cs:=Blk.newAt _ _ _ (by simp)
theorem at5(w:Ay)(a b c d:Obj)(t:TypeId)(cs:Array AJ):Blk (((((w.alloc a).alloc b).alloc c).alloc d).alloc (.cells cs t)) (w.heap.size+1+1+1+1) t cs:=Blk.newAt _ _ _ (by simp)
theorem at6(w:Ay)(a b c d e:Obj)(t:TypeId)(cs:Array AJ):Blk ((((((w.alloc a).alloc b).alloc c).alloc d).alloc e).alloc (.cells cs t)) (w.heap.size+1+1+1+1+1) t cs:=Blk.newAt _ _ _ (by simp)
theorem cQh(e:EnvD)(s:SigD)(f vs:AJ)(n:Nat)(hn:n<18446744073709551616)(w:Ay)(he:EnvV w f e)(hs:SigV w vs s):AX fZ 106 #[f,vs,.int .i64 256,.int .u64 (n:Int)] w (ShP false (iJ e s 256 n) n (tY 256) (tJ 256) w):=by
 obtain⟨a,b,d,rfl,h1,h2,g⟩:=he;obtain⟨As,cs,rfl,_⟩:=h1.len;obtain⟨Ag,cg,rfl⟩:=h2.shape;have k:=g;obtain⟨Am,cm,rfl,_⟩:=g;obtain⟨p,q,rfl,i,c⟩:=hs;obtain⟨Ap,cp,rfl⟩:=i.shape;obtain⟨Aq,cq,rfl⟩:=c.shape;have HO:=fQ c.ir;have j:=fQ (show iJ e s 256 n=some ([],[0]) by simp[iJ]);have l:=fQ hn;clear h1 h2 i c hn k;go_in;go_wp2;refine bodyPost_ret (v:=.tuple #[.agg #[.slice none 0 0,.slice (some ⟨w.heap.size+1+1+1+1,0,none⟩) 1 1,.int .u64 18446744073709551615,.int .i64 0,.int .i64 0],.bool true]) (by simp[results,results106,go_sem]) rfl ?_;have:=l.out;refine⟨_,_,18446744073709551615,0,0,true,[],[0],rfl,?_,?_,by omega,?_,?_,(fun h=>by cases h),?_⟩
 ·exact IR.nil _
 ·exact IR.one (x:=0) (at5 _ _ _ _ _ _ _)
 ·intro hf;rw[j.out]at hf;cases hf
 ·intro x hf;rw[j.out]at hf;simp at hf;exact⟨rfl,by omega,hf.symm,by decide,by decide⟩
 ·exact al5 _ _ _ _ _ _
theorem cQi(e:EnvD)(s:SigD)(f vs:AJ)(n:Nat)(hn:n<18446744073709551616)(w:Ay)(he:EnvV w f e)(hs:SigV w vs s):AX fZ 106 #[f,vs,.int .i64 272,.int .u64 (n:Int)] w (ShP false (iJ e s 272 n) n (tY 272) (tJ 272) w):=by
 obtain⟨a,b,d,rfl,h1,h2,g⟩:=he;obtain⟨As,cs,rfl,_⟩:=h1.len;obtain⟨Ag,cg,rfl⟩:=h2.shape;have k:=g;obtain⟨Am,cm,rfl,_⟩:=g;obtain⟨p,q,rfl,i,c⟩:=hs;obtain⟨Ap,cp,rfl⟩:=i.shape;obtain⟨Aq,cq,rfl⟩:=c.shape;have HO:=fQ c.ir;have j:=fQ (show iJ e s 272 n=if n=0 then some ([0],[0])else none by simp[iJ]);have l:=fQ hn;clear h1 h2 i c hn k;go_in;go_wp2;refine bodyPost_ret (v:=.tuple #[.agg #[.slice (some ⟨w.heap.size+1+1+1+1,0,none⟩) 1 1,.slice (some ⟨w.heap.size+1+1+1+1+1,0,none⟩) 1 1,.int .u64 0,.int .i64 0,.int .i64 0],.bool true]) (by simp[results,results106,go_sem]) rfl ?_;have:=l.out;refine⟨_,_,0,0,0,true,[0],[0],rfl,?_,?_,by omega,?_,?_,(fun h=>by cases h),?_⟩
 ·exact IR.one (x:=0) ((at5 _ _ _ _ _ _ _).alloc _)
 ·exact IR.one (x:=0) (at6 _ _ _ _ _ _ _ _)
 ·intro hf;rw[j.out]at hf;exact .inr (by simp at hf;omega)
 ·intro x hf;rw[j.out]at hf;simp at hf;exact⟨rfl,by omega,hf.2.symm,by decide,by decide⟩
 ·exact al6 _ _ _ _ _ _ _
theorem cQj(e:EnvD)(s:SigD)(f vs:AJ)(n:Nat)(hn:n<18446744073709551616)(w:Ay)(he:EnvV w f e)(hs:SigV w vs s):AX fZ 106 #[f,vs,.int .i64 273,.int .u64 (n:Int)] w (ShP false (iJ e s 273 n) n (tY 273) (tJ 273) w):=by
 obtain⟨a,b,d,rfl,h1,h2,g⟩:=he;obtain⟨As,cs,rfl,_⟩:=h1.len;obtain⟨Ag,cg,rfl⟩:=h2.shape;have k:=g;obtain⟨Am,cm,rfl,_⟩:=g;obtain⟨p,q,rfl,i,c⟩:=hs;obtain⟨Ap,cp,rfl⟩:=i.shape;obtain⟨Aq,cq,rfl⟩:=c.shape;have HO:=fQ c.ir;have j:=fQ (show iJ e s 273 n=if n=0 then some ([],[])else none by simp[iJ]);have l:=fQ hn;clear h1 h2 i c hn k;go_in;go_wp2;refine bodyPost_ret (v:=.tuple #[.agg #[.slice none 0 0,.slice none 0 0,.int .u64 0,.int .i64 1,.int .i64 1],.bool true]) (by simp[results,results106,go_sem]) rfl ?_;have:=l.out;refine⟨_,_,0,1,1,true,[],[],rfl,?_,?_,by omega,?_,?_,(fun h=>by cases h),?_⟩
 ·exact IR.nil _
 ·exact IR.nil _
 ·intro hf;rw[j.out]at hf;exact .inr (by simp at hf;omega)
 ·intro x hf;rw[j.out]at hf;simp at hf;exact⟨rfl,by omega,hf.2.symm,by decide,by decide⟩
 ·exact al4 _ _ _ _ _
theorem cQk(e:EnvD)(s:SigD)(f vs:AJ)(n:Nat)(hn:n<18446744073709551616)(w:Ay)(he:EnvV w f e)(hs:SigV w vs s):AX fZ 106 #[f,vs,.int .i64 274,.int .u64 (n:Int)] w (ShP false (iJ e s 274 n) n (tY 274) (tJ 274) w):=by
 obtain⟨a,b,d,rfl,h1,h2,g⟩:=he;obtain⟨As,cs,rfl,_⟩:=h1.len;obtain⟨Ag,cg,rfl⟩:=h2.shape;have k:=g;obtain⟨Am,cm,rfl,_⟩:=g;obtain⟨p,q,rfl,i,c⟩:=hs;obtain⟨Ap,cp,rfl⟩:=i.shape;obtain⟨Aq,cq,rfl⟩:=c.shape;have HO:=fQ c.ir;have j:=fQ (show iJ e s 274 n=if n=0 then some ([127],[])else none by simp[iJ]);have l:=fQ hn;clear h1 h2 i c hn k;go_in;go_wp2;refine bodyPost_ret (v:=.tuple #[.agg #[.slice (some ⟨w.heap.size+1+1+1,0,none⟩) 1 1,.slice none 0 0,.int .u64 0,.int .i64 1,.int .i64 1],.bool true]) (by simp[results,results106,go_sem]) rfl ?_;have:=l.out;refine⟨_,_,0,1,1,true,[127],[],rfl,?_,?_,by omega,?_,?_,(fun h=>by cases h),?_⟩
 ·exact IR.one (x:=127) (at4 _ _ _ _ _ _)
 ·exact IR.nil _
 ·intro hf;rw[j.out]at hf;exact .inr (by simp at hf;omega)
 ·intro x hf;rw[j.out]at hf;simp at hf;exact⟨rfl,by omega,hf.2.symm,by decide,by decide⟩
 ·exact al4 _ _ _ _ _
theorem cQl(e:EnvD)(s:SigD)(f vs:AJ)(n:Nat)(hn:n<18446744073709551616)(w:Ay)(he:EnvV w f e)(hs:SigV w vs s):AX fZ 106 #[f,vs,.int .i64 275,.int .u64 (n:Int)] w (ShP false (iJ e s 275 n) n (tY 275) (tJ 275) w):=by
 obtain⟨a,b,d,rfl,h1,h2,g⟩:=he;obtain⟨As,cs,rfl,_⟩:=h1.len;obtain⟨Ag,cg,rfl⟩:=h2.shape;have k:=g;obtain⟨Am,cm,rfl,_⟩:=g;obtain⟨p,q,rfl,i,c⟩:=hs;obtain⟨Ap,cp,rfl⟩:=i.shape;obtain⟨Aq,cq,rfl⟩:=c.shape;have HO:=fQ c.ir;have j:=fQ (show iJ e s 275 n=if n=0 then some ([127],[])else none by simp[iJ]);have l:=fQ hn;clear h1 h2 i c hn k;go_in;go_wp2;refine bodyPost_ret (v:=.tuple #[.agg #[.slice (some ⟨w.heap.size+1+1+1,0,none⟩) 1 1,.slice none 0 0,.int .u64 0,.int .i64 1,.int .i64 65],.bool true]) (by simp[results,results106,go_sem]) rfl ?_;have:=l.out;refine⟨_,_,0,1,65,true,[127],[],rfl,?_,?_,by omega,?_,?_,(fun h=>by cases h),?_⟩
 ·exact IR.one (x:=127) (at4 _ _ _ _ _ _)
 ·exact IR.nil _
 ·intro hf;rw[j.out]at hf;exact .inr (by simp at hf;omega)
 ·intro x hf;rw[j.out]at hf;simp at hf;exact⟨rfl,by omega,hf.2.symm,by decide,by decide⟩
 ·exact al4 _ _ _ _ _
theorem cQm(e:EnvD)(s:SigD)(f vs:AJ)(n:Nat)(hn:n<18446744073709551616)(w:Ay)(he:EnvV w f e)(hs:SigV w vs s):AX fZ 106 #[f,vs,.int .i64 276,.int .u64 (n:Int)] w (ShP false (iJ e s 276 n) n (tY 276) (tJ 276) w):=by
 obtain⟨a,b,d,rfl,h1,h2,g⟩:=he;obtain⟨As,cs,rfl,_⟩:=h1.len;obtain⟨Ag,cg,rfl⟩:=h2.shape;have k:=g;obtain⟨Am,cm,rfl,_⟩:=g;obtain⟨p,q,rfl,i,c⟩:=hs;obtain⟨Ap,cp,rfl⟩:=i.shape;obtain⟨l,m,rfl⟩:=c.shape;have o:=fQ c.ir;have j:=fQ (show iJ e s 276 n=if n=0 then some (s.out,[])else none by simp[iJ]);have r:=fQ hn;clear h1 h2 i c hn k;go_in;go_wp2;refine bodyPost_ret (v:=.tuple #[.agg #[.slice l s.out.length m,.slice none 0 0,.int .u64 0,.int .i64 0,.int .i64 0],.bool true]) (by simp[results,results106,go_sem]) rfl ?_;have:=r.out;refine⟨_,_,0,0,0,true,s.out,[],rfl,?_,?_,by omega,?_,?_,(fun h=>by cases h),?_⟩
 ·exact o.out.below (al4 _ _ _ _ _) (Aj _)
 ·exact IR.nil _
 ·intro hf;rw[j.out]at hf;exact .inr (by simp at hf;omega)
 ·intro x hf;rw[j.out]at hf;simp at hf;exact⟨rfl,by omega,hf.2.symm,by decide,by decide⟩
 ·exact al4 _ _ _ _ _
theorem cQn(e:EnvD)(s:SigD)(f vs:AJ)(n:Nat)(hn:n<18446744073709551616)(w:Ay)(he:EnvV w f e)(hs:SigV w vs s):AX fZ 106 #[f,vs,.int .i64 277,.int .u64 (n:Int)] w (ShP false (iJ e s 277 n) n (tY 277) (tJ 277) w):=by
 obtain⟨a,b,d,rfl,h1,h2,g⟩:=he;obtain⟨As,cs,rfl,_⟩:=h1.len;obtain⟨Ag,cg,rfl⟩:=h2.shape;have k:=g;obtain⟨Am,cm,rfl,_⟩:=g;obtain⟨p,q,rfl,i,c⟩:=hs;obtain⟨Ap,cp,rfl⟩:=i.shape;obtain⟨Aq,cq,rfl⟩:=c.shape;have HO:=fQ c.ir;have j:=fQ (show iJ e s 277 n=if n=0 then some ([],[])else none by simp[iJ]);have l:=fQ hn;clear h1 h2 i c hn k;go_in;go_wp2;refine bodyPost_ret (v:=.tuple #[.agg #[.slice none 0 0,.slice none 0 0,.int .u64 0,.int .i64 0,.int .i64 0],.bool true]) (by simp[results,results106,go_sem]) rfl ?_;have:=l.out;refine⟨_,_,0,0,0,true,[],[],rfl,?_,?_,by omega,?_,?_,(fun h=>by cases h),?_⟩
 ·exact IR.nil _
 ·exact IR.nil _
 ·intro hf;rw[j.out]at hf;exact .inr (by simp at hf;omega)
 ·intro x hf;rw[j.out]at hf;simp at hf;exact⟨rfl,by omega,hf.2.symm,by decide,by decide⟩
 ·exact al4 _ _ _ _ _
theorem cQo(e:EnvD)(s:SigD)(f vs:AJ)(n:Nat)(hn:n<18446744073709551616)(w:Ay)(he:EnvV w f e)(hs:SigV w vs s):AX fZ 106 #[f,vs,.int .i64 258,.int .u64 (n:Int)] w (ShP false (iJ e s 258 n) n (tY 258) (tJ 258) w):=by
 obtain⟨a,b,d,rfl,h1,h2,g⟩:=he;obtain⟨As,cs,rfl,_⟩:=h1.len;obtain⟨Ag,cg,rfl⟩:=h2.shape;have k:=g;obtain⟨Am,cm,rfl,_⟩:=g;obtain⟨p,q,rfl,i,c⟩:=hs;obtain⟨Ap,cp,rfl⟩:=i.shape;obtain⟨Aq,cq,rfl⟩:=c.shape;have HO:=fQ c.ir;have j:=fQ (show iJ e s 258 n=if n=0 then some ([],[])else none by simp[iJ]);have l:=fQ hn;clear h1 h2 i c hn k;go_in;go_wp2;refine bodyPost_ret (v:=.tuple #[.agg #[.slice none 0 0,.slice none 0 0,.int .u64 0,.int .i64 0,.int .i64 0],.bool true]) (by simp[results,results106,go_sem]) rfl ?_;have:=l.out;refine⟨_,_,0,0,0,true,[],[],rfl,?_,?_,by omega,?_,?_,(fun h=>by cases h),?_⟩
 ·exact IR.nil _
 ·exact IR.nil _
 ·intro hf;rw[j.out]at hf;exact .inr (by simp at hf;omega)
 ·intro x hf;rw[j.out]at hf;simp at hf;exact⟨rfl,by omega,hf.2.symm,by decide,by decide⟩
 ·exact al4 _ _ _ _ _
theorem cZl(e:EnvD)(s:SigD)(f vs:AJ)(n:Nat)(hn:n<18446744073709551616)(w:Ay)(he:EnvV w f e)(hs:SigV w vs s):AX fZ 106 #[f,vs,.int .i64 27,.int .u64 (n:Int)] w (ShP false (iJ e s 27 n) n (tY 27) (tJ 27) w):=by
 obtain⟨a,b,d,rfl,h1,h2,g⟩:=he;obtain⟨As,cs,rfl,_⟩:=h1.len;obtain⟨Ag,cg,rfl⟩:=h2.shape;have k:=g;obtain⟨Am,cm,rfl,_⟩:=g;obtain⟨p,q,rfl,i,c⟩:=hs;obtain⟨Ap,cp,rfl⟩:=i.shape;obtain⟨Aq,cq,rfl⟩:=c.shape;have HO:=fQ c.ir;have j:=fQ (show iJ e s 27 n=if n=0 then some ([0,0,127],[0])else none by simp[iJ]);have l:=fQ hn;clear h1 h2 i c hn k;go_in;go_wp2;refine bodyPost_ret (v:=.tuple #[.agg #[.slice (some ⟨w.heap.size+1+1+1+1,0,none⟩) 3 3,.slice (some ⟨w.heap.size+1+1+1+1+1,0,none⟩) 1 1,.int .u64 0,.int .i64 0,.int .i64 0],.bool true]) (by simp[results,results106,go_sem]) rfl ?_;have:=l.out;refine⟨_,_,0,0,0,true,[0,0,127],[0],rfl,?_,?_,by omega,?_,?_,(fun h=>by cases h),?_⟩
 ·exact IR.three (x:=0) (y:=0) (z:=127) ((at5 _ _ _ _ _ _ _).alloc _)
 ·exact IR.one (x:=0) (at6 _ _ _ _ _ _ _ _)
 ·intro hf;rw[j.out]at hf;exact .inr (by simp at hf;omega)
 ·intro x hf;rw[j.out]at hf;simp at hf;exact⟨rfl,by omega,hf.2.symm,by decide,by decide⟩
 ·exact al6 _ _ _ _ _ _ _
theorem cZm(e:EnvD)(s:SigD)(C vs:AJ)(n:Nat)(hn:n<18446744073709551616)(w:Ay)(he:EnvV w C e)(hs:SigV w vs s):AX fZ 106 #[C,vs,.int .i64 16,.int .u64 (n:Int)] w (ShP false (iJ e s 16 n) n (tY 16) (tJ 16) w):=by
 obtain⟨a,b,d,rfl,h1,h2,D⟩:=he;obtain⟨As,cs,rfl,_⟩:=h1.len;obtain⟨i,cg,rfl⟩:=h2.shape;have E:=D;obtain⟨j,k,rfl,_⟩:=D;obtain⟨p,q,rfl,z,l⟩:=hs;obtain⟨m,o,rfl⟩:=z.shape;obtain⟨r,t,rfl⟩:=l.shape;have HO:=fQ l.ir;have hl:=h1.eYz;by_cases L:n<e.sigs.length
 ·obtain⟨x,A⟩:∃ x,e.sigs[n]? = some x:=⟨_,Ax L⟩;have M:decide ((n:Int)<(e.sigs.length:Int))=true:=(by simp;omega);have af:(n:Int)<(e.sigs.length:Int):=(by omega);obtain⟨f,go,p,q,rfl,F,N,c1,s0,s1⟩:=h1.sig A;obtain⟨G,H,rfl⟩:=s0.shape;obtain⟨I,J,rfl⟩:=s1.shape;have u:=fQ (show iJ e s 16 n=some (x.inn,x.out) by simp[iJ,A]);have O:=fQ hn;have P:=fQ s0.ir;have Q:=fQ s1.ir;clear h1 h2 z l hn E A s0 s1;go_in;have y:=fQ (al4 w (.cells #[.slice (some ⟨f,go,none⟩) e.sigs.length cs,.int .i64 e.imports,.slice i e.globals.length cg,.slice j e.muts.length k,.bool e.mem] 26) (.cells #[.slice m s.inn.length o,.slice r s.out.length t] 62) (.cells #[.slice none 0 0,.slice none 0 0,.int .u64 0,.int .i64 0,.int .i64 0] 156) (.cells #[.int .i64 127] 3));have K:=fQ ((((Blk.new w 26 #[.slice (some ⟨f,go,none⟩) e.sigs.length cs,.int .i64 e.imports,.slice i e.globals.length cg,.slice j e.muts.length k,.bool e.mem]).alloc (.cells #[.slice m s.inn.length o,.slice r s.out.length t] 62)).alloc (.cells #[.slice none 0 0,.slice none 0 0,.int .u64 0,.int .i64 0,.int .i64 0] 156)).alloc (.cells #[.int .i64 127] 3));have c:=fQ ((at3 w (.cells #[.slice (some ⟨f,go,none⟩) e.sigs.length cs,.int .i64 e.imports,.slice i e.globals.length cg,.slice j e.muts.length k,.bool e.mem] 26) (.cells #[.slice m s.inn.length o,.slice r s.out.length t] 62) 156 #[.slice none 0 0,.slice none 0 0,.int .u64 0,.int .i64 0,.int .i64 0]).alloc (.cells #[.int .i64 127] 3));go_wp2_with fail;generalize ((((w.alloc (.cells #[.slice (some ⟨f,go,none⟩) e.sigs.length cs,.int .i64 e.imports,.slice i e.globals.length cg,.slice j e.muts.length k,.bool e.mem] 26)).alloc (.cells #[.slice m s.inn.length o,.slice r s.out.length t] 62)).alloc (.cells #[.slice none 0 0,.slice none 0 0,.int .u64 0,.int .i64 0,.int .i64 0] 156)).alloc (.cells #[.int .i64 127] 3))=W4 at y K c ⊢;have d0:=(y.out.cell (p:=⟨f,go+n*2,none⟩) F).trans N;have d1:=(y.out.cell (p:=⟨f,go+n*2+1,none⟩) F).trans c1;have e0:=K.out.cell 0;simp at e0;obtain⟨R,S,T,U,V⟩:=gJ c.out;have z0:=frz c.out 0;have z1:=frz c.out 1;have z2:=frz c.out 2;have z3:=frz c.out 3;have z4:=frz c.out 4;have W:=c.out.lt;go_region;go_wp2;refine bodyPost_ret (v:=.tuple #[.agg #[.slice G x.inn.length H,.slice I x.out.length J,.int .u64 (n:Int),.int .i64 0,.int .i64 0],.bool true]) (by simp[results,results106,go_sem,W,R,S,T,U,V]) rfl ?_;have:=O.out;have B:=(aXk y.out (g:=w.heap.size+1+1) (by omega) (.slice G x.inn.length H) (.slice I x.out.length J) (.int .u64 (n:Int)) (.int .i64 0) (.int .i64 0)).drew;refine⟨_,_,n,0,0,true,_,_,rfl,P.out.below B (Aj _),Q.out.below B (Aj _),this,?_,?_,(fun h=>by cases h),B⟩
  ·intro hf;rw[u.out]at hf;cases hf
  ·intro x hf;rw[u.out]at hf;simp at hf;exact⟨rfl,Aj _,hf.symm,by decide,by decide⟩
 ·have M:decide ((n:Int)<(e.sigs.length:Int))=false:=(by simp;omega);have u:=fQ (show iJ e s 16 n=none by simp[iJ];omega);clear h1 h2 z l hn E;go_in;go_wp2;refine bodyPost_ret (v:=.tuple #[.agg #[.slice none 0 0,.slice none 0 0,.int .u64 0,.int .i64 0,.int .i64 0],.bool false]) (by simp[results,results106,go_sem]) rfl ?_;exact ShP.no u.out (al4 _ _ _ _ _)
theorem cZn(e:EnvD)(s:SigD)(k vs:AJ)(n:Nat)(hn:n<18446744073709551616)(w:Ay)(he:EnvV w k e)(hs:SigV w vs s):AX fZ 106 #[k,vs,.int .i64 35,.int .u64 (n:Int)] w (ShP false (iJ e s 35 n) n (tY 35) (tJ 35) w):=by
 obtain⟨a,b,d,rfl,h1,h2,l⟩:=he;obtain⟨As,cs,rfl,_⟩:=h1.len;obtain⟨Ag,cg,rfl⟩:=h2.shape;have m:=l;obtain⟨Am,cm,rfl,_⟩:=l;obtain⟨p,q,rfl,i,c⟩:=hs;obtain⟨Ap,cp,rfl⟩:=i.shape;obtain⟨Aq,cq,rfl⟩:=c.shape;have HO:=fQ c.ir;have hl:=h2.eYz;by_cases r:n<e.globals.length
 ·obtain⟨x,j⟩:∃ x,e.globals[n]? = some x:=⟨_,Ax r⟩;have t:decide ((e.globals.length:Int)<=(n:Int))=false:=(by simp;omega);have o:¬e.globals.length<=n:=(by omega);have af:(n:Int)<(e.globals.length:Int):=(by omega);obtain⟨f,go,rfl,ak,c0⟩:=h2.ir.cell j;have ag:f<w.heap.size+1:=(by omega);have ah:f<w.heap.size+1+1:=(by omega);have ai:f<w.heap.size+1+1+1:=(by omega);have aj:f<w.heap.size+1+1+1+1:=(by omega);have g:=fQ (show iJ e s 35 n=some ([],[x]) by simp[iJ,j]);have u:=fQ hn;clear h1 h2 i c hn m j;go_in;go_wp2;refine bodyPost_ret (v:=.tuple #[.agg #[.slice none 0 0,.slice (some ⟨w.heap.size+1+1+1+1,0,none⟩) 1 1,.int .u64 (n:Int),.int .i64 0,.int .i64 0],.bool true]) (by simp[results,results106,go_sem]) rfl ?_;have:=u.out;refine⟨_,_,n,0,0,true,[],[x],rfl,IR.nil _,IR.one (at5 _ _ _ _ _ _ _),this,?_,?_,(fun h=>by cases h),al5 _ _ _ _ _ _⟩
  ·intro hf;rw[g.out]at hf;cases hf
  ·intro x hf;rw[g.out]at hf;simp at hf;exact⟨rfl,Aj _,hf.symm,by decide,by decide⟩
 ·have t:decide ((e.globals.length:Int)<=(n:Int))=true:=(by simp;omega);have o:e.globals.length<=n:=(by omega);have g:=fQ (show iJ e s 35 n=none by simp[iJ,o]);clear h1 h2 i c hn m;go_in;go_wp2;refine bodyPost_ret (v:=.tuple #[.agg #[.slice none 0 0,.slice none 0 0,.int .u64 0,.int .i64 0,.int .i64 0],.bool false]) (by simp[results,results106,go_sem]) rfl ?_;exact ShP.no g.out (al4 _ _ _ _ _)
theorem cZo(e:EnvD)(s:SigD)(m vs:AJ)(n:Nat)(hn:n<18446744073709551616)(w:Ay)(he:EnvV w m e)(hs:SigV w vs s)(o:e.muts.length=e.globals.length):AX fZ 106 #[m,vs,.int .i64 36,.int .u64 (n:Int)] w (ShP false (iJ e s 36 n) n (tY 36) (tJ 36) w):=by
 obtain⟨a,b,d,rfl,h1,h2,r⟩:=he;obtain⟨As,cs,rfl,_⟩:=h1.len;obtain⟨Ag,cg,rfl⟩:=h2.shape;have t:=r;obtain⟨Am,cm,rfl,_⟩:=r;obtain⟨p,q,rfl,i,c⟩:=hs;obtain⟨Ap,cp,rfl⟩:=i.shape;obtain⟨Aq,cq,rfl⟩:=c.shape;have HO:=fQ c.ir;have hl:=h2.eYz;by_cases A:n<e.globals.length
 ·obtain⟨x,j⟩:∃ x,e.globals[n]? = some x:=⟨_,Ax A⟩;have B:decide ((e.globals.length:Int)<=(n:Int))=false:=(by simp;omega);have u:¬e.globals.length<=n:=(by omega);have ai:(n:Int)<(e.globals.length:Int):=(by omega);obtain⟨f,go,rfl,ax,c0⟩:=h2.ir.cell j;have aj:f<w.heap.size+1:=(by omega);have ak:f<w.heap.size+1+1:=(by omega);have al:f<w.heap.size+1+1+1:=(by omega);have an:f<w.heap.size+1+1+1+1:=(by omega);obtain⟨y,k⟩:∃ y,e.muts[n]? = some y:=⟨_,Ax (by omega)⟩;obtain⟨ay,az,e',l,_⟩:=t;injection e' with C e2 D;subst C;subst D;have z:n<e.muts.length:=(by omega);have ao:(n:Int)<(e.muts.length:Int):=(by omega);obtain⟨mb,mo,rfl,aA⟩:=l.addr (by omega);have aq:mb<w.heap.size+1:=(by omega);have ar:mb<w.heap.size+1+1:=(by omega);have au:mb<w.heap.size+1+1+1:=(by omega);have aw:mb<w.heap.size+1+1+1+1:=(by omega);have c1:=l.at_ z;rw[bJp z,(List.getElem?_eq_some_iff.1 k).2]at c1;have g:=fQ (show iJ e s 36 n=if y=true then some ([x],[])else none by cases y <;> simp[iJ,j,k]);have E:=fQ hn;clear h1 h2 i c hn l j k o;go_in;go_wp2_with fail;go_region;go_wp2;refine bodyPost_ret (v:=.tuple #[.agg #[.slice (some ⟨w.heap.size+1+1+1+1,0,none⟩) 1 1,.slice none 0 0,.int .u64 (n:Int),.int .i64 0,.int .i64 0],.bool y]) (by simp[results,results106,go_sem]) rfl ?_;have:=E.out;refine⟨_,_,n,0,0,y,[x],[],rfl,IR.one (at5 _ _ _ _ _ _ _).drew,IR.nil _,this,fun hf=>?_,fun x hf=>?_,(fun h=>by cases h),(al5 _ _ _ _ _ _).drew⟩
  ·rw[g.out]at hf
   cases y with
   | false=>exact .inl rfl
   | true=>cases hf
  ·rw[g.out]at hf
   cases y with
   | false=>cases hf
   | true=>
    simp at hf;exact⟨rfl,Aj _,hf.symm,by decide,by decide⟩
 ·have B:decide ((e.globals.length:Int)<=(n:Int))=true:=(by simp;omega);have u:e.globals.length<=n:=(by omega);have g:=fQ (show iJ e s 36 n=none by simp[iJ,u]);clear h1 h2 i c hn t o;go_in;go_wp2;refine bodyPost_ret (v:=.tuple #[.agg #[.slice none 0 0,.slice none 0 0,.int .u64 0,.int .i64 0,.int .i64 0],.bool false]) (by simp[results,results106,go_sem]) rfl ?_;exact ShP.no g.out (al4 _ _ _ _ _)
structure Off (op:Int):Prop where
 o0:(op == 256)=false
 o1:(op == 272)=false
 o2:(op == 273)=false
 o3:(op == 274)=false
 o4:(op == 275)=false
 o5:(op == 276)=false
 o6:(op == 277)=false
 o7:(op == 258)=false
 o8:(op == 27)=false
 o9:(op == 16)=false
 o10:(op == 35)=false
 o11:(op == 36)=false
theorem Off.form{op:Int}(h:Off op)(e:EnvD)(s:SigD)(n:Nat):iJ e s op n=(if(fW op).isSome then if n=0 then some (fY op,[lY op])else none else mJ e.mem op n)/\tY op=0/\tJ op=0:=by
 obtain⟨c,h1,h2,a,b,d,f,g,i,j,k,l⟩:=h;simp at c h1 h2 a b d f g i j k l;refine⟨?_,?_,?_⟩
 ·simp only[iJ,c,h1,h2,a,b,d,f,g,i,j,k,l,if_false,or_self]
 ·simp[tY,h2,a,b]
 ·simp[tJ,h2,a,b]
theorem cWa{Q:Int->Prop}(k:Q 256)(h1:Q 272)(h2:Q 273)(l:Q 274)(m:Q 275)(n:Q 276)(o:Q 277)(p:Q 258)(q:Q 27)(r:Q 16)(s:Q 35)(t:Q 36)(hn:∀ op,Off op->Q op)(op:Int):Q op:=by
 by_cases a:op=256
 ·subst a;exact k
 by_cases b:op=272
 ·subst b;exact h1
 by_cases c:op=273
 ·subst c;exact h2
 by_cases d:op=274
 ·subst d;exact l
 by_cases e:op=275
 ·subst e;exact m
 by_cases f:op=276
 ·subst f;exact n
 by_cases g:op=277
 ·subst g;exact o
 by_cases h:op=258
 ·subst h;exact p
 by_cases i:op=27
 ·subst i;exact q
 by_cases j:op=16
 ·subst j;exact r
 by_cases g10:op=35
 ·subst g10;exact s
 by_cases g11:op=36
 ·subst g11;exact t
 exact hn op ⟨beq_false_of_ne a,beq_false_of_ne b,beq_false_of_ne c,beq_false_of_ne d,beq_false_of_ne e,beq_false_of_ne f,beq_false_of_ne g,beq_false_of_ne h,beq_false_of_ne i,beq_false_of_ne j,beq_false_of_ne g10,beq_false_of_ne g11⟩
theorem IR.fQm{base:Nat}(h:w.ownsRow base t 1 (.slice A l.length c) l.length (i64s l))(hg:g<base)(a b d e f:AJ):
  IR (((((w.setCell ⟨g,0,none⟩ a).setCell ⟨g,1,none⟩ b).setCell ⟨g,2,none⟩ d).setCell ⟨g,3,none⟩ e).setCell ⟨g,4,none⟩ f) (.slice A l.length c) l:=by
 have key:∀ a,A=some a->a.block≠g:=by
  intro a ha;subst ha;have:=h.lt a.block (by rfl);omega
 refine⟨A,c,rfl,?_⟩;exact(((((Src.fQd h).setCell (p:=⟨g,0,none⟩) a key).setCell (p:=⟨g,1,none⟩) b key).setCell (p:=⟨g,2,none⟩) d key).setCell (p:=⟨g,3,none⟩) e key).setCell (p:=⟨g,4,none⟩) f key
theorem IR.fQx{base:Nat}(h:IR w v l)(hv:NewV base v)(hg:g<base)(a b d e f:AJ):
  IR (((((w.setCell ⟨g,0,none⟩ a).setCell ⟨g,1,none⟩ b).setCell ⟨g,2,none⟩ d).setCell ⟨g,3,none⟩ e).setCell ⟨g,4,none⟩ f) v l:=by
 have key:∀ A n c,v = .slice A n c->∀ a,A=some a->a.block≠g:=by
  intro A n c e a ha;have:=hv A n c e a ha;omega
 exact((((h.setCell (p:=⟨g,0,none⟩) a key).setCell (p:=⟨g,1,none⟩) b key).setCell (p:=⟨g,2,none⟩) d key).setCell (p:=⟨g,3,none⟩) e key).setCell (p:=⟨g,4,none⟩) f key
theorem cQp(op:Int)(Q : -9223372036854775808<=op)(R:op<=9223372036854775807)(S:Off op)(e:EnvD)(s:SigD)(T vs:AJ)(n:Nat)(hn:n<18446744073709551616)(w:Ay)(he:EnvV w T e)(hs:SigV w vs s):
  AX fZ 106 #[T,vs,.int .i64 op,.int .u64 (n:Int)] w (ShP false (iJ e s op n) n (tY op) (tJ op) w):=by
 obtain⟨hf,ar,au⟩:=S.form e s n;rw[ar,au];obtain⟨a,b,d,rfl,h1,h2,h3⟩:=he;obtain⟨m,cs,rfl,_⟩:=h1.len;obtain⟨r,cg,rfl⟩:=h2.shape;obtain⟨t,u,rfl,_⟩:=h3;obtain⟨p,q,rfl,U,V⟩:=hs;obtain⟨y,z,rfl⟩:=U.shape;obtain⟨A,B,rfl⟩:=V.shape;have HN:=fQ hn;obtain⟨g0,g1,g2,g3,g4,g5,g6,g7,g8,g9,g10,g11⟩:=S;have C:=fQ (al4 w (.cells #[.slice m e.sigs.length cs,.int .i64 e.imports,.slice r e.globals.length cg,.slice t e.muts.length u,.bool e.mem] 26) (.cells #[.slice y s.inn.length z,.slice A s.out.length B] 62) (.cells #[.slice none 0 0,.slice none 0 0,.int .u64 0,.int .i64 0,.int .i64 0] 156) (.cells #[.int .i64 127] 3));have W:=fQ ((((Blk.new w 26 #[.slice m e.sigs.length cs,.int .i64 e.imports,.slice r e.globals.length cg,.slice t e.muts.length u,.bool e.mem]).alloc (.cells #[.slice y s.inn.length z,.slice A s.out.length B] 62)).alloc (.cells #[.slice none 0 0,.slice none 0 0,.int .u64 0,.int .i64 0,.int .i64 0] 156)).alloc (.cells #[.int .i64 127] 3));have D:=fQ ((at3 w (.cells #[.slice m e.sigs.length cs,.int .i64 e.imports,.slice r e.globals.length cg,.slice t e.muts.length u,.bool e.mem] 26) (.cells #[.slice y s.inn.length z,.slice A s.out.length B] 62) 156 #[.slice none 0 0,.slice none 0 0,.int .u64 0,.int .i64 0,.int .i64 0]).alloc (.cells #[.int .i64 127] 3));have X:w.heap.size+1+1+1+1=((((w.alloc (.cells #[.slice m e.sigs.length cs,.int .i64 e.imports,.slice r e.globals.length cg,.slice t e.muts.length u,.bool e.mem] 26)).alloc (.cells #[.slice y s.inn.length z,.slice A s.out.length B] 62)).alloc (.cells #[.slice none 0 0,.slice none 0 0,.int .u64 0,.int .i64 0,.int .i64 0] 156)).alloc (.cells #[.int .i64 127] 3)).heap.size:=(by simp);have Y:=fQ X;clear h1 h2 U V hn X
 cases hg:fW op with
 | some gg=>
  have F:=fQ (show(fW op).isSome=true by simp[hg]);rw[hg]at hf;have k:=fQ (show iJ e s op n=if n=0 then some (fY op,[lY op])else none from hf);clear hf hg;go_in;go_wp2_with fail;refine(aJa op _ Q R).mono ?_;rintro en G ⟨Z,c1,rfl,E,c⟩;rw[F.out];have l:=fQ (C.out.trans (c.mono C.out.size));have f:=fQ (D.out.below c D.out.lt);have HR:=fQ E;have HS:=fQ (c.size);clear c E;obtain⟨H,I,J,K,L⟩:=gJ f.out;have z0:=frz f.out 0;have z1:=frz f.out 1;have z2:=frz f.out 2;have z3:=frz f.out 3;have z4:=frz f.out 4;have M:=f.out.lt;go_wp2;refine bodyPost_ret (v:=.tuple #[.agg #[.slice Z (fY op).length c1,.slice (some ⟨G.heap.size,0,none⟩) 1 1,.int .u64 0,.int .i64 0,.int .i64 0],.bool true]) (by simp[results,results106,go_sem,M,H,I,J,K,L]) rfl ?_;have hh:=HR.out;rw[<-Y.out]at hh;refine⟨_,_,0,0,0,true,fY op,[lY op],rfl,?_,?_,by omega,?_,?_,(fun h=>by cases h),?_⟩
  ·exact(IR.fQm (g:=w.heap.size+1+1) hh (by omega) _ _ _ _ _).alloc _
  ·exact IR.one (x:=lY op) (Blk.newAt _ _ _ (by simp))
  ·intro hf;rw[k.out]at hf;exact .inr (by simp at hf;omega)
  ·intro x hf;rw[k.out]at hf;simp at hf;exact⟨rfl,by omega,hf.2.symm,rfl,rfl⟩
  ·exact(aXk l.out (by omega) _ _ _ _ _).alloc (by simp;exact l.out.size) _
 | none=>
  have F:=fQ (show(fW op).isSome=false by simp[hg]);rw[hg]at hf;have k:=fQ (show iJ e s op n=mJ e.mem op n from hf);clear hf hg;go_in;go_wp2_with fail;refine(aJa op _ Q R).mono ?_;rintro en G ⟨Z,c1,rfl,E,c⟩;rw[F.out];have l:=fQ (C.out.trans (c.mono C.out.size));have f:=fQ (D.out.below c D.out.lt);have F0:=fQ (W.out.below c W.out.lt);have HZ:=fQ c.size;clear c E;have e4:=F0.out.cell 4;simp at e4;go_wp2_with fail;refine(cZk op e.mem n HN.out _).mono ?_;rintro en w2 ⟨vi,vo,most,a,b,ok,i,o,rfl,N,O,ad,hP,hQ,ao,P⟩;obtain⟨Ai,ci,rfl⟩:=N.shape;obtain⟨Ao,co,rfl⟩:=O.shape;have B2:=fQ (l.out.trans (P.mono l.out.size));have j:=fQ (f.out.below P f.out.lt);have aw:=fQ N;have ax:=fQ O;have HP:=fQ hP;have HQ:=fQ hQ;have HM:=fQ ad;have aq:=fQ (ao rfl);clear ao P N O hP hQ ad e4;obtain⟨H,I,J,K,L⟩:=gJ j.out;have z0:=frz j.out 0;have z1:=frz j.out 1;have z2:=frz j.out 2;have z3:=frz j.out 3;have z4:=frz j.out 4;have M:=j.out.lt;go_wp2;refine bodyPost_ret (v:=.tuple #[.agg #[.slice Ai i.length ci,.slice Ao o.length co,.int .u64 (most:Int),.int .i64 a,.int .i64 b],.bool ok]) (by simp[results,results106,go_sem,M,H,I,J,K,L]) rfl ?_;have hz:w.heap.size+1+1+1+1<=G.heap.size:=(by rw[Y.out];exact HZ.out);refine⟨_,_,most,a,b,ok,i,o,rfl,?_,?_,HM.out,?_,?_,(fun h=>by cases h),?_⟩
  ·exact IR.fQx aw.out aq.out.1 (by omega) _ _ _ _ _
  ·exact IR.fQx ax.out aq.out.2 (by omega) _ _ _ _ _
  ·rw[k.out];exact HP.out
  ·rw[k.out];exact HQ.out
  ·exact aXk B2.out (by omega) _ _ _ _ _
theorem cQq(op:Int)(b : -9223372036854775808<=op)(c:op<=9223372036854775807)(e:EnvD)(s:SigD)(a vs:AJ)(n:Nat)(hn:n<18446744073709551616)(w:Ay)(he:EnvV w a e)(hs:SigV w vs s)(d:e.muts.length=e.globals.length):
  AX fZ 106 #[a,vs,.int .i64 op,.int .u64 (n:Int)] w (ShP false (iJ e s op n) n (tY op) (tJ op) w):=by
 revert b c
 revert op
 refine cWa (fun _ _=>cQh e s a vs n hn w he hs) (fun _ _=>cQi e s a vs n hn w he hs) (fun _ _=>cQj e s a vs n hn w he hs) (fun _ _=>cQk e s a vs n hn w he hs) (fun _ _=>cQl e s a vs n hn w he hs) (fun _ _=>cQm e s a vs n hn w he hs) (fun _ _=>cQn e s a vs n hn w he hs) (fun _ _=>cQo e s a vs n hn w he hs) (fun _ _=>cZl e s a vs n hn w he hs) (fun _ _=>cZm e s a vs n hn w he hs) (fun _ _=>cZn e s a vs n hn w he hs) (fun _ _=>cZo e s a vs n hn w he hs d) (fun op f h1 h2=>cQp op h1 h2 f e s a vs n hn w he hs)
end Go.Proofs.YtabibkpfgmolkaaGreatDoor

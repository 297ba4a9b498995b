/- Lemmas for the claim, part 3. Conditions: none. -/
import Derived.Test.YtabibkpfgmolkaaGreatPl02
import Derived.Shelf.Bits.Mul64
import Derived.Shelf.Slices.Clone
import Derived.Shelf.Slices.In.SortNone
import Derived.Shelf.Slices.SearchI
import Derived.Shelf.Slices.Turned
import Derived.Shelf.SlicesE.Clone
import Derived.Shelf.Small.Bits
import Derived.Shelf.Small.Wraps
import Derived.Shelf.Sort.Plain
set_option maxRecDepth 100000
set_option maxHeartbeats 16000000
set_option linter.unusedVariables false
set_option linter.unusedSimpArgs false
open Go.Lib renaming hid→fQ
open Go.Proofs.Tryz renaming prog→fZ
open Go.Proofs.Tryz
open Go.RowKit
open Nat renaming le_refl→Aj
open List renaming getElem?_eq_getElem→Ax,take_of_length_le→Ak,mem_of_getElem?→Av,take_succ_eq_append_getElem→Aw
open Go.RowKit.Below renaming refl→Az
open Go renaming World→Ay,Value→AJ,Calls→AX
open Go.RowKit renaming Below→AQ
namespace Go.Proofs
open Go.Shelf
def Tryz.eJe:Go.Shelf.Ren:=⟨fun | 189=>77 | 125=>104 | 257=>103 | 128=>134 | 129=>135 | 294=>126 | 295=>127 | 296=>128 | 297=>129 | 298=>130 | 299=>131 | 216=>87 | 300=>132 | 301=>133 | 328=>150 | 329=>151 | 330=>152 | 331=>153 | 332=>154 | 215=>85 | 343=>160 | n=>n,fun | 28=>23 | 3=>3 | 46=>135 | 0=>0 | 51=>161 | 53=>50 | 4=>4 | 183=>185 | 182=>184 | 131=>105 | 5=>5 | 9=>9 | 218=>204 | 222=>208 | 228=>218 | 229=>219 | n=>n,fun | n=>n⟩
theorem Tryz.eXz:Go.Proofs.Lays.n189 fZ Tryz.eJe:={
 mixed:=by kernel_rfl
 f125:=Tryz.func104.trans (congrArg some (by kernel_rfl))
 f128:=Tryz.func134.trans (congrArg some (by kernel_rfl))
 f129:=Tryz.func135.trans (congrArg some (by kernel_rfl))
 f189:=Tryz.func77.trans (congrArg some (by kernel_rfl))
 f215:=Tryz.func85.trans (congrArg some (by kernel_rfl))
 f216:=Tryz.func87.trans (congrArg some (by kernel_rfl))
 f257:=Tryz.func103.trans (congrArg some (by kernel_rfl))
 f294:=Tryz.func126.trans (congrArg some (by kernel_rfl))
 f295:=Tryz.func127.trans (congrArg some (by kernel_rfl))
 f296:=Tryz.func128.trans (congrArg some (by kernel_rfl))
 f297:=Tryz.func129.trans (congrArg some (by kernel_rfl))
 f298:=Tryz.func130.trans (congrArg some (by kernel_rfl))
 f299:=Tryz.func131.trans (congrArg some (by kernel_rfl))
 f300:=Tryz.func132.trans (congrArg some (by kernel_rfl))
 f301:=Tryz.func133.trans (congrArg some (by kernel_rfl))
 f328:=Tryz.func150.trans (congrArg some (by kernel_rfl))
 f329:=Tryz.func151.trans (congrArg some (by kernel_rfl))
 f330:=Tryz.func152.trans (congrArg some (by kernel_rfl))
 f331:=Tryz.func153.trans (congrArg some (by kernel_rfl))
 f332:=Tryz.func154.trans (congrArg some (by kernel_rfl))
 f343:=Tryz.func160.trans (congrArg some (by kernel_rfl))
 t0:=underlying0
 a0:=isAgg0
 z0:=sizeOf0
 v0:=zeroValue0
 t3:=underlying3
 a3:=isAgg3
 z3:=sizeOf3
 v3:=zeroValue3
 t4:=underlying4
 a4:=isAgg4
 z4:=sizeOf4
 v4:=zeroValue4
 t5:=underlying5
 a5:=isAgg5
 z5:=sizeOf5
 v5:=zeroValue5
 t9:=underlying9
 a9:=isAgg9
 z9:=sizeOf9
 v9:=zeroValue9
 t28:=underlying23
 a28:=isAgg23
 z28:=sizeOf23
 v28:=zeroValue23
 t46:=underlying135
 a46:=isAgg135
 z46:=sizeOf135
 v46:=zeroValue135
 t51:=underlying161
 a51:=isAgg161
 z51:=sizeOf161
 v51:=zeroValue161
 t53:=underlying50
 a53:=isAgg50
 z53:=sizeOf50
 v53:=zeroValue50
 t131:=underlying105
 a131:=isAgg105
 z131:=sizeOf105
 v131:=zeroValue105
 t182:=underlying184
 a182:=isAgg184
 z182:=sizeOf184
 v182:=zeroValue184
 t183:=underlying185
 a183:=isAgg185
 z183:=sizeOf185
 v183:=zeroValue185
 t218:=underlying204
 a218:=isAgg204
 z218:=sizeOf204
 v218:=zeroValue204
 t222:=underlying208
 a222:=isAgg208
 z222:=sizeOf208
 v222:=zeroValue208
 t228:=underlying218
 a228:=isAgg218
 z228:=sizeOf218
 v228:=zeroValue218
 t229:=underlying219
 a229:=isAgg219
 z229:=sizeOf219
 v229:=zeroValue219 }
open Go.Sort Go.RowKit in
theorem Tryz.slices_Sort_int(blk off cap:Nat)(a:List Int)(w:Ay)(b:Holds (Value.int .i64) w blk off a.toArray)(c:blk<w.heap.size)(hsz:a.length<4611686018427387904):
  AX fZ 77 #[.slice (some ⟨blk,off,none⟩) a.length cap] w fun e w'=>
   e = .returned (.tuple #[])/\∃ n os,w'=grow (putRow (Value.int .i64) (Sort.ahead w n) blk off (a.mergeSort fun x y=>decide (x<=y)).toArray) os:=Any.slices_Sort_int Tryz.eXz blk off cap a w b c hsz
open Go.RowKit Go.Sort in
theorem Tryz.slices_Sort_int_none(p:Option Addr)(cap:Nat)(w:Ay):
  AX fZ 77 #[.slice p 0 cap] w fun e w'=>e = .returned (.tuple #[])/\w'=w:=Any.slices_Sort_int_none Tryz.eXz p cap w
end Go.Proofs
namespace Go.Proofs.YtabibkpfgmolkaaGreat
variable {w:Ay}{l:List Int}{g k n c:Nat}{A:Option Addr}{t:TypeId}{v:AJ}{x:Int}
def IR(w:Ay)(v:AJ)(l:List Int):Prop:=∃ A c,v = .slice A l.length c/\Src w A l.length (i64s l)
theorem Ints.ir(h:Ints w v l):IR w v l:=by
 obtain⟨A,c,e,hs,_⟩:=h;exact⟨A,c,e,hs⟩
theorem IR.below{w w':Ay}{B:Nat}{v:AJ}{l:List Int}(h:IR w v l)(hb:AQ B w w')(a:w.heap.size<=B):IR w' v l:=by
 obtain⟨A,c,e,hs⟩:=h;exact⟨A,c,e,hs.below hb a⟩
theorem IR.nil(w:Ay):IR w (.slice none 0 0) []:=⟨none,0,rfl,Src.nil _ _⟩
theorem IR.drew{w:Ay}{v:AJ}{l:List Int}(h:IR w v l):IR w.drew v l:=h
theorem IR.drewN{w:Ay}{v:AJ}{l:List Int}(h:IR w v l)(n:Nat):IR (w.drewN n) v l:=h
theorem IR.alloc{w:Ay}{v:AJ}{l:List Int}(h:IR w v l)(o:Obj):IR (w.alloc o) v l:=h.below ((Az w.heap.size _).alloc (Aj _) _) (Aj _)
theorem IR.one(h:Blk w g t #[.int .i64 x]):IR w (.slice (some ⟨g,0,none⟩) 1 1) [x]:=⟨_,_,rfl,Blk.eXm (cs:=#[.int .i64 x]) h rfl⟩
theorem Blk.setCell{w:Ay}{g:Nat}{e:TypeId}{cs:Array AJ}(h:Blk w g e cs){p:Addr}(v:AJ)(hp:g≠p.block):Blk (w.setCell p v) g e cs:=(heap_setCell_other w p g v hp).trans h
theorem IR.two{y:Int}(h:Blk w g t #[.int .i64 x,.int .i64 y]):IR w (.slice (some ⟨g,0,none⟩) 2 2) [x,y]:=⟨_,_,rfl,Blk.eXm (cs:=#[.int .i64 x,.int .i64 y]) h rfl⟩
theorem IR.three{y z:Int}(h:Blk w g t #[.int .i64 x,.int .i64 y,.int .i64 z]):IR w (.slice (some ⟨g,0,none⟩) 3 3) [x,y,z]:=⟨_,_,rfl,Blk.eXm (cs:=#[.int .i64 x,.int .i64 y,.int .i64 z]) h rfl⟩
theorem IR.setCell{w:Ay}{v:AJ}{l:List Int}(h:IR w v l){p:Addr}(u:AJ)(hp:∀ A n c,v = .slice A n c->∀ a,A=some a->a.block≠p.block):IR (w.setCell p u) v l:=by
 obtain⟨A,c,e,hs⟩:=h;exact⟨A,c,e,hs.setCell u (hp _ _ _ e)⟩
theorem IR.of(h:Src w A n (i64s l))(hn:l.length=n):IR w (.slice A n c) l:=by
 subst hn;exact⟨A,c,rfl,h⟩
def SigV(w:Ay)(v:AJ)(s:SigD):Prop:=∃ a b,v = .agg #[a,b]/\Ints w a s.inn/\Ints w b s.out
def EnvV(w:Ay)(v:AJ)(e:EnvD):Prop:=∃ a b d,v = .agg #[a,.int .i64 e.imports,b,d,.bool e.mem]/\Structs 2 SigC w a e.sigs/\Ints w b e.globals/\Bools w d e.muts
def CodeV(w:Ay)(v:AJ)(c:CodeD):Prop:=∃ a b d,v = .agg #[.int .i64 c.op,.int .u64 (c.n:Int),a,b,d]/\c.ok/\Ints w a c.args/\Ints w b c.outs/\Ints w d c.to
def RowV(w:Ay)(v:AJ)(x:RowD):Prop:=∃ a b p d,v = .agg #[a,b,.int .i64 x.places,p,d]/\Ints w a x.sig.inn/\Ints w b x.sig.out/\Ints w p x.params/\Structs 5 CodeC w d x.code
theorem SigV.below{w w':Ay}{B:Nat}{r:AJ}{s:SigD}(h:SigV w r s)(hb:AQ B w w')(c:w.heap.size<=B):SigV w' r s:=by
 obtain⟨a,b,e,h1,h2⟩:=h;exact⟨a,b,e,h1.below hb c,h2.below hb c⟩
theorem CodeV.below{w w':Ay}{B:Nat}{r:AJ}{c:CodeD}(h:CodeV w r c)(hb:AQ B w w')(f:w.heap.size<=B):CodeV w' r c:=by
 obtain⟨a,b,d,e,g,h1,h2,i⟩:=h;exact⟨a,b,d,e,g,h1.below hb f,h2.below hb f,i.below hb f⟩
theorem EnvV.below{w w':Ay}{B:Nat}{r:AJ}{e:EnvD}(h:EnvV w r e)(hb:AQ B w w')(c:w.heap.size<=B):EnvV w' r e:=by
 obtain⟨a,b,d,e',h1,h2,f⟩:=h;exact⟨a,b,d,e',h1.below hb c (fun r x q=>q.below hb c),h2.below hb c,f.below hb c⟩
theorem RowV.below{w w':Ay}{B:Nat}{r:AJ}{x:RowD}(h:RowV w r x)(hb:AQ B w w')(c:w.heap.size<=B):RowV w' r x:=by
 obtain⟨a,b,p,d,e',h1,h2,e,f⟩:=h;exact⟨a,b,p,d,e',h1.below hb c,h2.below hb c,e.below hb c,f.below hb c (fun r x q=>q.below hb c)⟩
def isK(t:Int):Bool:=t == 127 || t == 126
def kK(m:Nat)(l:List Int):Bool:=decide (l.length<=m) && l.all isK
def sigOk(s:SigD):Bool:=kK 8 s.inn && kK 8 s.out
def envOk(e:EnvD):Bool:=decide (e.sigs.length<=64/\0<=e.imports/\e.imports<=e.sigs.length/\e.muts.length=e.globals.length) && (kK 32 e.globals && e.sigs.all sigOk)
def mY(m:Bool)(op:Int)(n:Nat):Option (List Int×List Int):=
 if m=false then none
 else if op=257 then if n<=8589934592 then some ([127],[])else none
 else match acc op with
  | some (k,_,st,_)=>if n<=4294967295 then some (if st then([127,k],[])else([127],[k]))else none
  | none=>if op=63 then if n=0 then some ([],[127])else none else if op=64 then if n=0 then some ([127],[127])else none else none
def iZ(e:EnvD)(s:SigD)(op:Int)(n:Nat):Option (List Int×List Int):=
 if op=256 then some ([],[0])
 else if op=272 then if n=0 then some ([0],[0])else none
 else if op=273\/op=277\/op=258 then if n=0 then some ([],[])else none
 else if op=274\/op=275 then if n=0 then some ([127],[])else none
 else if op=276 then if n=0 then some (s.out,[])else none
 else if op=27 then if n=0 then some ([0,0,127],[0])else none
 else if op=16 then(e.sigs[n]?).map fun g=>(g.inn,g.out)
 else if op=35 then(e.globals[n]?).map fun g=>([],[g])
 else if op=36 then match e.globals[n]?,e.muts[n]? with
  | some g,some true=>some ([g],[])
  | _,_=>none
 else if(fV op).isSome then if n=0 then some (gX op,[kW op])else none
 else mY e.mem op n
def qK(op:Int):Int:=if op=273\/op=274\/op=275 then 1 else 0
def nX(op:Int):Int:=if op=273\/op=274 then 1 else if op=275 then 65 else 0
def within(n:Int)(l:List Int):Bool:=l.all fun x=>decide (0<=x/\x<n)
def codeOk(e:EnvD)(r:RowD)(c:CodeD):Bool:=match iZ e r.sig c.op c.n with
 | none=>false
 | some (i,o)=>decide (c.args.length=i.length/\c.outs.length=o.length/\qK c.op<=c.to.length/\(c.to.length:Int)<=nX c.op) && (within r.places c.args && (within r.places c.outs && (decide c.outs.Nodup && within r.code.length c.to)))
def nextOf(c:CodeD)(i:Nat):List Int:=
 if c.op=276\/c.op=277 then[]else if c.op=273\/c.op=275 then c.to else if c.op=274 then[(i:Int)+1,c.to.headD 0]else[(i:Int)+1]
def Ranked(r:RowD):Prop:=∃ rk:Nat->Nat,∀ i c (k:Nat),r.code[i]? = some c->c.op≠258->(k:Int)∈nextOf c i->rk k<rk i
structure CheckP (e:EnvD) (r:RowD):Prop where
 env:envOk e=true
 sig:sigOk r.sig=true
 n1:1<=r.code.length
 n2:r.code.length<=4096
 p1:0<=r.places
 p2:r.places<=4096
 par:r.params.length=r.sig.inn.length
 pin:within r.places r.params=true
 pun:r.params.Nodup
 code:∀ c∈r.code,codeOk e r c=true
 first:∀ c,r.code[0]? = some c->c.op=258
 last:∀ c,r.code[r.code.length - 1]? = some c->c.op=273\/c.op=275\/c.op=276\/c.op=277
 rank:Ranked r
inductive Live (r:RowD):Nat->Int->Prop
 | arg {i:Nat} {c:CodeD} {p:Int}:r.code[i]? = some c->p∈c.args->Live r i p
 | step {i k:Nat} {c:CodeD} {p:Int}:r.code[i]? = some c->(k:Int)∈nextOf c i->Live r k p->p ∉ c.outs->Live r i p
def LiveB(r:RowD)(i:Nat)(p:Int):Prop:=∃ c,r.code[i]? = some c/\∃ k:Nat,(k:Int)∈nextOf c i/\Live r k p
def IsSet(l:List Int)(P:Int->Prop):Prop:=l.Pairwise (· < ·)/\∀ x,x∈l↔P x
theorem IsSet.one{m:List Int}{P:Int->Prop}(h:IsSet l P)(k:IsSet m P):l=m:=by
 have hp:l.Perm m:=by
  rw[List.perm_iff_count];have n1:l.Nodup:=h.1.imp (fun h=>by omega);have n2:m.Nodup:=k.1.imp (fun h=>by omega);intro a;rw[n1.count,n2.count];by_cases ha:a∈l
  ·rw[if_pos ha,if_pos ((k.2 a).2 ((h.2 a).1 ha))]
  ·rw[if_neg ha,if_neg (fun c=>ha ((h.2 a).2 ((k.2 a).1 c)))]
 exact hp.eq_of_pairwise (le:=fun a b=>a<=b) (fun a b _ _ h1 h2=>by omega) (h.1.imp (fun h=>by omega)) (k.1.imp (fun h=>by omega))
theorem aJc{α:Type}{l:List α}{p:α}{q:α->Bool}(h:l[k]? = some p)(h1:(l.take k).any q=false)(h2:q p=false):(l.take (k+1)).any q=false:=by
 obtain⟨a,e⟩:=List.getElem?_eq_some_iff.1 h;rw[Aw a,e,List.any_append,h1];simp[h2]
theorem aVf{α:Type}{l:List α}{p:α}{q:α->Bool}(h:l[k]? = some p)(h2:q p=true):l.any q=true:=List.any_eq_true.2 ⟨p,Av h,h2⟩
theorem IR.cell{w:Ay}{A:Option Addr}{n c:Nat}{l:List Int}(h:IR w (.slice A n c) l){k:Nat}{x:Int}(d:l[k]? = some x):∃ b o,A=some ⟨b,o,none⟩/\b<w.heap.size/\w.cell? ⟨b,o+k,none⟩=some (.int .i64 x):=by
 obtain⟨A',c',e,hs⟩:=h;injection e with f e2 e3;subst f;obtain⟨a,e⟩:=List.getElem?_eq_some_iff.1 d;obtain⟨b,o,rfl,hb⟩:=hs.addr (by omega);have:=hs.at_ (k:=k) a;rw[aZj a,e]at this;exact⟨b,o,rfl,hb,this⟩
theorem IR.len(h:IR w (.slice A n c) l):n=l.length:=by
 obtain⟨A',c',e,hs⟩:=h;injection e
theorem Structs.sig{l:List SigD}(h:Structs 2 SigC w (.slice A n c) l){x:SigD}(a:l[k]? = some x):
  ∃ b o p q,A=some ⟨b,o,none⟩/\b<w.heap.size/\w.cell? ⟨b,o+k*2,none⟩=some p/\w.cell? ⟨b,o+k*2+1,none⟩=some q/\Ints w p x.inn/\Ints w q x.out:=by
 obtain⟨b,o,c',r,e,hb,hr,⟨p,q,rfl,h1,h2⟩,hc⟩:=h.at (by omega) a;injection e with d e2 e3;exact⟨b,o,p,q,d,hb,hc 0 p rfl,hc 1 q rfl,h1,h2⟩
theorem Structs.code{l:List CodeD}(h:Structs 5 CodeC w (.slice A n c) l){x:CodeD}(a:l[k]? = some x):
  ∃ b o p q r,A=some ⟨b,o,none⟩/\b<w.heap.size/\w.cell? ⟨b,o+k*5,none⟩=some (.int .i64 x.op)/\w.cell? ⟨b,o+k*5+1,none⟩=some (.int .u64 (x.n:Int))/\w.cell? ⟨b,o+k*5+2,none⟩=some p/\w.cell? ⟨b,o+k*5+3,none⟩=some q/\w.cell? ⟨b,o+k*5+4,none⟩=some r /\
   x.ok/\Ints w p x.args/\Ints w q x.outs/\Ints w r x.to:=by
 obtain⟨b,o,c',rr,e,hb,hr,⟨p,q,r,rfl,d,h1,h2,f⟩,hc⟩:=h.at (by omega) a;injection e with g e2 e3;exact⟨b,o,p,q,r,g,hb,hc 0 _ rfl,hc 1 _ rfl,hc 2 _ rfl,hc 3 _ rfl,hc 4 _ rfl,d,h1,h2,f⟩
theorem Structs.eXi{α:Type}{R:Ay->List AJ->α->Prop}{l:List α}(h:Structs k R w (.slice A n c) l):n=l.length/\n<=c/\n<=140737488351232/\c<=9223372036854775807:=by
 obtain⟨A',c',e,h1,h2⟩:=h.len;injection e with e1 e2 a;subst e2;subst a;exact⟨rfl,h1,h2⟩
theorem Ints.eXi(h:Ints w (.slice A n c) l):n=l.length/\n<=c/\n<=17592186043904/\c<=9223372036854775807:=by
 obtain⟨A',c',e,hs,h1,h2,h3⟩:=h;injection e with e1 e2 a;subst a;exact⟨e2,by omega,by omega,by omega⟩
theorem Ints.shape(h:Ints w v l):∃ A c,v = .slice A l.length c:=by
 obtain⟨A,c,e,_⟩:=h;exact⟨A,c,e⟩
theorem IR.shape(h:IR w v l):∃ A c,v = .slice A l.length c:=by
 obtain⟨A,c,e,_⟩:=h;exact⟨A,c,e⟩
theorem bQg{α:Type}(l:List α)(p:α->Bool):(!(l.any fun x=>!p x))=l.all p:=by
 induction l with
 | nil=>rfl
 | cons a l b=>simp only[List.any_cons,List.all_cons,Bool.not_or,Bool.not_not,b]
theorem bZl(A:Option Addr)(n c:Nat)(l:List Int)(Q:Int->Bool)(w:Ay)(hs:IR w (.slice A n c) l)(hm:n<=9223372036854775807)
  (hq:∀ x∈l,∀ v w',AQ w.heap.size w w'->v = .int .i64 x->AX fZ 105 #[v] w' fun e t=>e = .returned (.bool (Q x))/\AQ w'.heap.size w' t) :
  AX fZ 123 #[.slice A n c,.func (.func 105) #[] #[]] w fun e w'=>∃ r:Int,e = .returned (.int .i64 r)/\decide (0<=r)=l.any Q/\AQ w.heap.size w w':=by
 have j:=hs.len;have u:=fQ hs;have m:=fQ j;have y:=fQ hq;clear hs hq j;go_in;go_wp2;go_loopw [8] (fun i wr=>∃ k:Nat,k<=n/\i = .int .i64 k/\Hid ((l.take k).any Q=false)/\Hid (AQ w.heap.size w wr)) (fun i _=>n - (intOf i).toNat)
 case atStart=>exact⟨0,by omega,rfl,fQ rfl,fQ (Az _ _)⟩
 case round=>
  obtain⟨k,hk,rfl,o,a⟩:=hrel;by_cases z:k<n
  ·have B:decide ((k:Int)<n)=true:=(by simp;omega);have ah:(k:Int)<n:=(by omega);obtain⟨x,f⟩:∃ x,l[k]? = some x:=⟨_,Ax (by rw[<-m.out];exact z)⟩;obtain⟨ab,ao,rfl,hab,ai⟩:=(u.out.below a.out (Aj _)).cell f;have p:=fQ f;have q:=a.out.size;have s:=fQ (y.out x (Av f));clear f
   cases g:Q x with
   | true=>
    have b:=fQ g;clear g;go_wp2_with fail;refine(s.out _ _ a.out rfl).mono ?_;rintro e w1 ⟨rfl,d⟩;rw[b.out];have h:=fQ (a.out.trans (d.mono q));clear d;go_wp2;go_ret;exact⟨k,rfl,by rw[aVf p.out b.out];simp,h.out⟩
   | false=>
    have b:=fQ g;clear g;go_wp2_with fail;refine(s.out _ _ a.out rfl).mono ?_;rintro e w1 ⟨rfl,d⟩;rw[b.out];have h:=fQ (a.out.trans (d.mono q));clear d;go_wp2;exact⟨⟨k+1,by omega,by simp,fQ (aJc p.out o.out b.out),h⟩,by simp[intOf];omega⟩
  ·have B:decide ((k:Int)<n)=false:=(by simp;omega);go_wp2;go_ret;refine⟨-1,rfl,?_,a.out⟩;have:=o.out;rw[Ak (by rw[<-m.out];omega)]at this;rw[this];rfl
theorem bZm(A:Option Addr)(n c:Nat)(l:List Int)(Q:Int->Bool)(w:Ay)(hs:IR w (.slice A n c) l)(d:n<=9223372036854775807)
  (hq:∀ x∈l,∀ v w',AQ w.heap.size w w'->v = .int .i64 x->AX fZ 105 #[v] w' fun e f=>e = .returned (.bool (Q x))/\AQ w'.heap.size w' f) :
  AX fZ 97 #[.slice A n c,.func (.func 105) #[] #[]] w fun e w'=>e = .returned (.bool (l.any Q))/\AQ w.heap.size w w':=by
 have g:=fQ hs;have h:=fQ hq;clear hs hq;go_in;go_wp2_with fail;refine(bZl A n c l Q _ g.out d h.out).mono ?_;rintro e w1 ⟨r,rfl,a,b⟩;have i:=fQ a;have j:=fQ b;clear a b;go_wp2;go_ret;exact⟨by rw[<-i.out];rfl,j.out⟩
theorem bQh(A:Option Addr)(n c:Nat)(l:List Int)(Q:Int->Bool)(b0:Nat)(w:Ay)(hs:IR w (.slice A n c) l)(hm:n<=9223372036854775807)
  (hq:∀ x∈l,∀ v w',AQ w.heap.size w w'->v = .int .i64 x->AX fZ 98 #[v,.pointer (some ⟨b0,0,none⟩)] w' fun e t=>e = .returned (.bool (Q x))/\AQ w'.heap.size w' t) :
  AX fZ 123 #[.slice A n c,.func (.func 98) #[] #[.pointer (some ⟨b0,0,none⟩)]] w fun e w'=>∃ r:Int,e = .returned (.int .i64 r)/\decide (0<=r)=l.any Q/\AQ w.heap.size w w':=by
 have j:=hs.len;have u:=fQ hs;have m:=fQ j;have y:=fQ hq;clear hs hq j;go_in;go_wp2;go_loopw [8] (fun i wr=>∃ k:Nat,k<=n/\i = .int .i64 k/\Hid ((l.take k).any Q=false)/\Hid (AQ w.heap.size w wr)) (fun i _=>n - (intOf i).toNat)
 case atStart=>exact⟨0,by omega,rfl,fQ rfl,fQ (Az _ _)⟩
 case round=>
  obtain⟨k,hk,rfl,o,a⟩:=hrel;by_cases z:k<n
  ·have B:decide ((k:Int)<n)=true:=(by simp;omega);have ah:(k:Int)<n:=(by omega);obtain⟨x,f⟩:∃ x,l[k]? = some x:=⟨_,Ax (by rw[<-m.out];exact z)⟩;obtain⟨ab,ao,rfl,hab,ai⟩:=(u.out.below a.out (Aj _)).cell f;have p:=fQ f;have q:=a.out.size;have s:=fQ (y.out x (Av f));clear f
   cases g:Q x with
   | true=>
    have b:=fQ g;clear g;go_wp2_with fail;refine(s.out _ _ a.out rfl).mono ?_;rintro e w1 ⟨rfl,d⟩;rw[b.out];have h:=fQ (a.out.trans (d.mono q));clear d;go_wp2;go_ret;exact⟨k,rfl,by rw[aVf p.out b.out];simp,h.out⟩
   | false=>
    have b:=fQ g;clear g;go_wp2_with fail;refine(s.out _ _ a.out rfl).mono ?_;rintro e w1 ⟨rfl,d⟩;rw[b.out];have h:=fQ (a.out.trans (d.mono q));clear d;go_wp2;exact⟨⟨k+1,by omega,by simp,fQ (aJc p.out o.out b.out),h⟩,by simp[intOf];omega⟩
  ·have B:decide ((k:Int)<n)=false:=(by simp;omega);go_wp2;go_ret;refine⟨-1,rfl,?_,a.out⟩;have:=o.out;rw[Ak (by rw[<-m.out];omega)]at this;rw[this];rfl
theorem bQi(A:Option Addr)(n c:Nat)(l:List Int)(Q:Int->Bool)(b0:Nat)(w:Ay)(hs:IR w (.slice A n c) l)(d:n<=9223372036854775807)
  (hq:∀ x∈l,∀ v w',AQ w.heap.size w w'->v = .int .i64 x->AX fZ 98 #[v,.pointer (some ⟨b0,0,none⟩)] w' fun e f=>e = .returned (.bool (Q x))/\AQ w'.heap.size w' f) :
  AX fZ 97 #[.slice A n c,.func (.func 98) #[] #[.pointer (some ⟨b0,0,none⟩)]] w fun e w'=>e = .returned (.bool (l.any Q))/\AQ w.heap.size w w':=by
 have g:=fQ hs;have h:=fQ hq;clear hs hq;go_in;go_wp2_with fail;refine(bQh A n c l Q b0 _ g.out d h.out).mono ?_;rintro e w1 ⟨r,rfl,a,b⟩;have i:=fQ a;have j:=fQ b;clear a b;go_wp2;go_ret;exact⟨by rw[<-i.out];rfl,j.out⟩
theorem aWj(A:Option Addr)(n c:Nat)(l:List SigD)(Q:SigD->Bool)(w:Ay)(hs:Structs 2 SigC w (.slice A n c) l)(hm:n<=9223372036854775807)
  (hq:∀ x∈l,∀ v w',AQ w.heap.size w w'->SigV w' v x->AX fZ 80 #[v] w' fun e B=>e = .returned (.bool (Q x))/\AQ w'.heap.size w' B) :
  AX fZ 107 #[.slice A n c,.func (.func 80) #[] #[]] w fun e w'=>∃ r:Int,e = .returned (.int .i64 r)/\decide (0<=r)=l.any Q/\AQ w.heap.size w w':=by
 obtain⟨m,ai,af⟩:=hs.eXi;have C:=fQ hs;have o:=fQ m;have D:=fQ hq;clear hs hq m;go_in;go_wp2;go_loopw [8] (fun i wr=>∃ k:Nat,k<=n/\i = .int .i64 k/\Hid ((l.take k).any Q=false)/\Hid (AQ w.heap.size w wr)) (fun i _=>n - (intOf i).toNat)
 case atStart=>exact⟨0,by omega,rfl,fQ rfl,fQ (Az _ _)⟩
 case round=>
  obtain⟨k,hk,rfl,s,a⟩:=hrel;by_cases E:k<n
  ·have F:decide ((k:Int)<n)=true:=(by simp;omega);have ak:(k:Int)<n:=(by omega);obtain⟨x,f⟩:∃ x,l[k]? = some x:=⟨_,Ax (by rw[<-o.out];exact E)⟩;obtain⟨ab,ao,p,q,rfl,hab,c0,c1,s0,s1⟩:=(C.out.below a.out (Aj _) (fun _ _ h=>h.below a.out (Aj _))).sig f;obtain⟨pA,pc,rfl⟩:=s0.shape;obtain⟨qA,qc,rfl⟩:=s1.shape;have t:=fQ (show SigV wr (.agg #[_,_]) x from⟨_,_,rfl,s0,s1⟩);clear s0 s1;have u:=fQ f;have y:=a.out.size;have z:=fQ (D.out x (Av f));clear f
   cases g:Q x with
   | true=>
    have b:=fQ g;clear g;go_wp2_with fail;refine(z.out _ _ a.out t.out).mono ?_;rintro e w1 ⟨rfl,d⟩;rw[b.out];have j:=fQ (a.out.trans (d.mono y));clear d;go_wp2;go_ret;exact⟨k,rfl,by rw[aVf u.out b.out];simp,j.out⟩
   | false=>
    have b:=fQ g;clear g;go_wp2_with fail;refine(z.out _ _ a.out t.out).mono ?_;rintro e w1 ⟨rfl,d⟩;rw[b.out];have j:=fQ (a.out.trans (d.mono y));clear d;go_wp2;exact⟨⟨k+1,by omega,by simp,fQ (aJc u.out s.out b.out),j⟩,by simp[intOf];omega⟩
  ·have F:decide ((k:Int)<n)=false:=(by simp;omega);go_wp2;go_ret;refine⟨-1,rfl,?_,a.out⟩;have:=s.out;rw[Ak (by rw[<-o.out];omega)]at this;rw[this];rfl
theorem aWk(A:Option Addr)(n c:Nat)(l:List SigD)(Q:SigD->Bool)(w:Ay)(hs:Structs 2 SigC w (.slice A n c) l)(d:n<=9223372036854775807)
  (hq:∀ x∈l,∀ v w',AQ w.heap.size w w'->SigV w' v x->AX fZ 80 #[v] w' fun e f=>e = .returned (.bool (Q x))/\AQ w'.heap.size w' f) :
  AX fZ 79 #[.slice A n c,.func (.func 80) #[] #[]] w fun e w'=>e = .returned (.bool (l.any Q))/\AQ w.heap.size w w':=by
 have g:=fQ hs;have h:=fQ hq;clear hs hq;go_in;go_wp2_with fail;refine(aWj A n c l Q _ g.out d h.out).mono ?_;rintro e w1 ⟨r,rfl,a,b⟩;have i:=fQ a;have j:=fQ b;clear a b;go_wp2;go_ret;exact⟨by rw[<-i.out];rfl,j.out⟩
theorem bZn(A:Option Addr)(n c:Nat)(l:List CodeD)(Q:CodeD->Bool)(b0 b1:Nat)(w:Ay)(hs:Structs 5 CodeC w (.slice A n c) l)(hm:n<=9223372036854775807)
  (hq:∀ x∈l,∀ v w',AQ w.heap.size w w'->CodeV w' v x->AX fZ 73 #[v,.pointer (some ⟨b0,0,none⟩),.pointer (some ⟨b1,0,none⟩)] w' fun e B=>e = .returned (.bool (Q x))/\AQ w'.heap.size w' B) :
  AX fZ 99 #[.slice A n c,.func (.func 73) #[] #[.pointer (some ⟨b0,0,none⟩),.pointer (some ⟨b1,0,none⟩)]] w fun e w'=>∃ r:Int,e = .returned (.int .i64 r)/\decide (0<=r)=l.any Q/\AQ w.heap.size w w':=by
 obtain⟨m,ai,af⟩:=hs.eXi;have C:=fQ hs;have o:=fQ m;have D:=fQ hq;clear hs hq m;go_in;go_wp2;go_loopw [8] (fun i wr=>∃ k:Nat,k<=n/\i = .int .i64 k/\Hid ((l.take k).any Q=false)/\Hid (AQ w.heap.size w wr)) (fun i _=>n - (intOf i).toNat)
 case atStart=>exact⟨0,by omega,rfl,fQ rfl,fQ (Az _ _)⟩
 case round=>
  obtain⟨k,hk,rfl,s,a⟩:=hrel;by_cases E:k<n
  ·have F:decide ((k:Int)<n)=true:=(by simp;omega);have ak:(k:Int)<n:=(by omega);obtain⟨x,f⟩:∃ x,l[k]? = some x:=⟨_,Ax (by rw[<-o.out];exact E)⟩;obtain⟨ab,ao,p,q,r,rfl,hab,c0,c1,c2,c3,c4,s0,s1,s2,s3⟩:=(C.out.below a.out (Aj _) (fun _ _ h=>h.below a.out (Aj _))).code f;obtain⟨pA,pc,rfl⟩:=s1.shape;obtain⟨qA,qc,rfl⟩:=s2.shape;obtain⟨rA,rc,rfl⟩:=s3.shape;have t:=fQ (show CodeV wr (.agg #[.int .i64 x.op,.int .u64 (x.n:Int),_,_,_]) x from⟨_,_,_,rfl,s0,s1,s2,s3⟩);clear s0 s1 s2 s3;have u:=fQ f;have y:=a.out.size;have z:=fQ (D.out x (Av f));clear f
   cases g:Q x with
   | true=>
    have b:=fQ g;clear g;go_wp2_with fail;refine(z.out _ _ a.out t.out).mono ?_;rintro e w1 ⟨rfl,d⟩;rw[b.out];have j:=fQ (a.out.trans (d.mono y));clear d;go_wp2;go_ret;exact⟨k,rfl,by rw[aVf u.out b.out];simp,j.out⟩
   | false=>
    have b:=fQ g;clear g;go_wp2_with fail;refine(z.out _ _ a.out t.out).mono ?_;rintro e w1 ⟨rfl,d⟩;rw[b.out];have j:=fQ (a.out.trans (d.mono y));clear d;go_wp2;exact⟨⟨k+1,by omega,by simp,fQ (aJc u.out s.out b.out),j⟩,by simp[intOf];omega⟩
  ·have F:decide ((k:Int)<n)=false:=(by simp;omega);go_wp2;go_ret;refine⟨-1,rfl,?_,a.out⟩;have:=s.out;rw[Ak (by rw[<-o.out];omega)]at this;rw[this];rfl
theorem bZo(A:Option Addr)(n c:Nat)(l:List CodeD)(Q:CodeD->Bool)(b0 b1:Nat)(w:Ay)(hs:Structs 5 CodeC w (.slice A n c) l)(d:n<=9223372036854775807)
  (hq:∀ x∈l,∀ v w',AQ w.heap.size w w'->CodeV w' v x->AX fZ 73 #[v,.pointer (some ⟨b0,0,none⟩),.pointer (some ⟨b1,0,none⟩)] w' fun e f=>e = .returned (.bool (Q x))/\AQ w'.heap.size w' f) :
  AX fZ 72 #[.slice A n c,.func (.func 73) #[] #[.pointer (some ⟨b0,0,none⟩),.pointer (some ⟨b1,0,none⟩)]] w fun e w'=>e = .returned (.bool (l.any Q))/\AQ w.heap.size w w':=by
 have g:=fQ hs;have h:=fQ hq;clear hs hq;go_in;go_wp2_with fail;refine(bZn A n c l Q b0 b1 _ g.out d h.out).mono ?_;rintro e w1 ⟨r,rfl,a,b⟩;have i:=fQ a;have j:=fQ b;clear a b;go_wp2;go_ret;exact⟨by rw[<-i.out];rfl,j.out⟩
theorem bYx(t:Int)(w:Ay):AX fZ 106 #[.int .i64 t] w fun e w'=>e = .returned (.bool (isK t))/\w=w':=by
 cases h1:(t == 127)with
 | true=>
  have a:=fQ (show isK t=true by simp[isK,h1]);go_in;go_wp2;go_ret;exact⟨by rw[a.out];rfl,rfl⟩
 | false=>
  have a:=fQ (show isK t=(t == 126) by simp only[isK,h1,Bool.false_or]);go_in;go_wp2;go_ret;exact⟨by rw[a.out];rfl,rfl⟩
theorem bYy(t:Int)(w:Ay):AX fZ 105 #[.int .i64 t] w fun e w'=>e = .returned (.bool (!isK t))/\AQ w.heap.size w w':=by
 go_in;go_wp2_with fail;refine(bYx _ _).mono ?_;rintro e w1 ⟨rfl,rfl⟩;go_wp2;go_ret;exact⟨rfl,Az _ _⟩
theorem aQp(m:Nat)(a:Int)(d:a=m)(v:AJ)(l:List Int)(w:Ay)(hs:IR w v l)(g:l.length<=9223372036854775807):
  AX fZ 78 #[.int .i64 a,v] w fun e w'=>e = .returned (.bool (kK m l))/\AQ w.heap.size w w':=by
 obtain⟨A,c,rfl⟩:=hs.shape;have i:=fQ hs;clear hs;by_cases h:l.length<=m
 ·have j:decide ((l.length:Int)<=a)=true:=(by simp;omega);have b:=fQ (show kK m l = !(l.any fun x=>!isK x) by rw[bQg];simp[kK,h]);clear h d;go_in;go_wp2_with fail;refine(bZm A l.length c l (fun x=>!isK x) _ i.out g (fun x hx v w' hb e=>by subst e;exact bYy x w')).mono ?_;rintro e w1 ⟨rfl,f⟩;have k:=fQ f;clear f;go_wp2;go_ret;exact⟨by rw[b.out];rfl,k.out⟩
 ·have j:decide ((l.length:Int)<=a)=false:=(by simp;omega);have b:=fQ (show kK m l=false by simp[kK,h]);clear h d;go_in;go_wp2;go_ret;exact⟨by rw[b.out];rfl,Az _ _⟩
theorem bJq(v:AJ)(s:SigD)(w:Ay)(hs:SigV w v s):
  AX fZ 81 #[v] w fun e w'=>e = .returned (.bool (sigOk s))/\AQ w.heap.size w w':=by
 obtain⟨a,b,rfl,hi,ho⟩:=hs;obtain⟨k,ci,rfl⟩:=hi.shape;obtain⟨l,m,rfl⟩:=ho.shape;have ai:=hi.eXi;have aj:=ho.eXi;have B0:=fQ (show AQ w.heap.size w (w.alloc (.cells #[.slice k s.inn.length ci,.slice l s.out.length m] 40))from(Az _ _).alloc (Aj _) _);have n:=fQ (hi.ir.below B0.out (Aj _));have q:=fQ (ho.ir.below B0.out (Aj _));have d:=Blk.new w 40 #[.slice k s.inn.length ci,.slice l s.out.length m];have o:=fQ d;have r:=d.cell 0;have c1:=d.cell 1;simp at r c1;clear hi ho d
 cases h:kK 8 s.inn with
 | true=>
  have g:=fQ h;have i:=fQ (show sigOk s=kK 8 s.out by simp only[sigOk,h,Bool.true_and]);clear h;go_in;go_wp2_with fail;refine(aQp 8 8 rfl _ s.inn _ n.out (by omega)).mono ?_;rintro e w1 ⟨rfl,c⟩;rw[g.out];have f:=fQ (B0.out.trans (c.mono B0.out.size));have t:=fQ (q.out.below c (Aj _));have j:=o.out.below c o.out.lt;have u:=j.cell 0;have x:=j.cell 1;simp at u x;clear c j;go_wp2_with fail;refine(aQp 8 8 rfl _ s.out _ t.out (by omega)).mono ?_;rintro e w2 ⟨rfl,p⟩;have y:=fQ (f.out.trans (p.mono f.out.size));clear p;go_wp2;go_ret;exact⟨by rw[i.out];rfl,y.out⟩
 | false=>
  have g:=fQ h;have i:=fQ (show sigOk s=false by simp only[sigOk,h,Bool.false_and]);clear h;go_in;go_wp2_with fail;refine(aQp 8 8 rfl _ s.inn _ n.out (by omega)).mono ?_;rintro e w1 ⟨rfl,c⟩;rw[g.out];have f:=fQ (B0.out.trans (c.mono B0.out.size));clear c;go_wp2;go_ret;exact⟨by rw[i.out];rfl,f.out⟩
theorem bZp(v:AJ)(s:SigD)(w:Ay)(hs:SigV w v s):
  AX fZ 80 #[v] w fun e w'=>e = .returned (.bool (!sigOk s))/\AQ w.heap.size w w':=by
 have d:=fQ hs;obtain⟨a,b,rfl,_⟩:=hs;have B0:=fQ (show AQ w.heap.size w (w.alloc (.cells #[a,b] 40))from(Az _ _).alloc (Aj _) _);have f:=fQ (d.out.below B0.out (Aj _));go_in;go_wp2_with fail;refine(bJq _ s _ f.out).mono ?_;rintro e w1 ⟨rfl,c⟩;have g:=fQ (B0.out.trans (c.mono B0.out.size));clear c;go_wp2;go_ret;exact⟨rfl,g.out⟩
theorem bXj(e:EnvD):(decide (e.imports<0)=true/\envOk e=false)\/(decide (e.imports<0)=false/\decide ((e.sigs.length:Int)<e.imports)=true/\envOk e=false) \/
  (decide (e.imports<0)=false/\decide ((e.sigs.length:Int)<e.imports)=false/\decide (64<(e.sigs.length:Int))=true/\envOk e=false) \/
  (decide (e.imports<0)=false/\decide ((e.sigs.length:Int)<e.imports)=false/\decide (64<(e.sigs.length:Int))=false/\((e.muts.length:Int) != (e.globals.length:Int))=true/\(e.muts.length != e.globals.length)=true/\envOk e=false) \/
  (decide (e.imports<0)=false/\decide ((e.sigs.length:Int)<e.imports)=false/\decide (64<(e.sigs.length:Int))=false/\((e.muts.length:Int) != (e.globals.length:Int))=false/\(e.muts.length != e.globals.length)=false/\envOk e=(kK 32 e.globals && e.sigs.all sigOk)):=by
 by_cases h1:e.imports<0
 ·refine .inl ⟨by simpa using h1,?_⟩;simp only[envOk];rw[decide_eq_false (by omega)];rfl
 by_cases h2:(e.sigs.length:Int)<e.imports
 ·refine .inr (.inl ⟨by simp;omega,by simpa using h2,?_⟩);simp only[envOk];rw[decide_eq_false (by omega)];rfl
 by_cases a:64<(e.sigs.length:Int)
 ·refine .inr (.inr (.inl ⟨by simp;omega,by simp;omega,by simpa using a,?_⟩));simp only[envOk];rw[decide_eq_false (by omega)];rfl
 by_cases h4:e.muts.length=e.globals.length
 ·refine .inr (.inr (.inr (.inr ⟨by simp;omega,by simp;omega,by simp;omega,by simp;omega,by simp;omega,?_⟩)));simp only[envOk];rw[decide_eq_true (by omega)];rfl
 ·refine .inr (.inr (.inr (.inl ⟨by simp;omega,by simp;omega,by simp;omega,by simp;omega,by simp;omega,?_⟩)));simp only[envOk];rw[decide_eq_false (by omega)];rfl
theorem aKd(v:AJ)(e:EnvD)(w:Ay)(hs:EnvV w v e):
  AX fZ 48 #[v] w fun i w'=>i = .returned (.bool (envOk e))/\AQ w.heap.size w w':=by
 obtain⟨a,b,d,rfl,hs,hg,u⟩:=hs;obtain⟨k,cs,rfl,_⟩:=hs.len;obtain⟨m,cg,rfl⟩:=hg.shape;obtain⟨n,o,rfl,_⟩:=u;have ai:=hg.eXi;have aj:=hs.eXi;have B0:=fQ (show AQ w.heap.size w (w.alloc (.cells #[.slice k e.sigs.length cs,.int .i64 e.imports,.slice m e.globals.length cg,.slice n e.muts.length o,.bool e.mem] 26))from(Az _ _).alloc (Aj _) _);have y:=fQ (hs.below B0.out (Aj _) (fun _ _ h=>h.below B0.out (Aj _)));have p:=fQ (hg.ir.below B0.out (Aj _));have q:=fQ (Blk.new w 26 #[.slice k e.sigs.length cs,.int .i64 e.imports,.slice m e.globals.length cg,.slice n e.muts.length o,.bool e.mem]);clear hs hg;rcases bXj e with⟨h1,he⟩ | ⟨h1,h2,he⟩ | ⟨h1,h2,r,he⟩ | ⟨h1,h2,r,z,A,he⟩ | ⟨h1,h2,r,z,A,he⟩
 ·have c:=fQ he;clear he;go_in;go_wp2;go_ret;exact⟨by rw[c.out];rfl,B0.out⟩
 ·have c:=fQ he;clear he;go_in;go_wp2;go_ret;exact⟨by rw[c.out];rfl,B0.out⟩
 ·have c:=fQ he;clear he;go_in;go_wp2;go_ret;exact⟨by rw[c.out];rfl,B0.out⟩
 ·have c:=fQ he;clear he;go_in;go_wp2;go_ret;exact⟨by rw[c.out];rfl,B0.out⟩
 ·cases g:kK 32 e.globals with
  | false=>
   rw[g]at he;have c:=fQ he;have l:=fQ g;clear he g;go_in;go_wp2_with fail;refine(aQp 32 32 rfl _ e.globals _ p.out (by omega)).mono ?_;rintro i w1 ⟨rfl,f⟩;rw[l.out];have j:=fQ (B0.out.trans (f.mono B0.out.size));clear f;go_wp2;go_ret;exact⟨by rw[c.out];rfl,j.out⟩
  | true=>
   rw[g]at he;have c:=fQ (show envOk e = !(e.sigs.any fun x=>!sigOk x) by rw[he,bQg];rfl);have l:=fQ g;clear he g;go_in;go_wp2_with fail;refine(aQp 32 32 rfl _ e.globals _ p.out (by omega)).mono ?_;rintro i w1 ⟨rfl,f⟩;rw[l.out];have j:=fQ (B0.out.trans (f.mono B0.out.size));have B:=fQ (y.out.below f (Aj _) (fun _ _ h=>h.below f (Aj _)));have s:=q.out.below f q.out.lt;have C:=s.cell 0;simp at C;clear f s;go_wp2_with fail;refine(aWk k e.sigs.length cs e.sigs (fun x=>!sigOk x) _ B.out (by omega) (fun x hx v w' hb D=>bZp v x w' D)).mono ?_;rintro i w2 ⟨rfl,t⟩;have E:=fQ (j.out.trans (t.mono j.out.size));clear t;go_wp2;go_ret;exact⟨by rw[c.out];rfl,E.out⟩
theorem bXm{α:Type}{l:List α}{p:α}{q:α->Bool}(h:l[k]? = some p)(h1:(l.take k).all q=true)(h2:q p=true):(l.take (k+1)).all q=true:=by
 obtain⟨a,e⟩:=List.getElem?_eq_some_iff.1 h;rw[Aw a,e,List.all_append,h1];simp[h2]
theorem bJw{α:Type}{l:List α}{p:α}{q:α->Bool}(h:l[k]? = some p)(h2:q p=false):l.all q=false:=by
 rw[List.all_eq_false];exact⟨p,Av h,by simp[h2]⟩
theorem bXn(t:Int)(w:Ay):AX fZ 67 #[.int .i64 t] w fun e w'=>e = .returned (.bool (isK t))/\w=w':=by
 cases h1:(t == 127)with
 | true=>
  have a:=fQ (show isK t=true by simp[isK,h1]);go_in;go_wp2;go_ret;exact⟨by rw[a.out];rfl,rfl⟩
 | false=>
  have a:=fQ (show isK t=(t == 126) by simp only[isK,h1,Bool.false_or]);go_in;go_wp2;go_ret;exact⟨by rw[a.out];rfl,rfl⟩
theorem aXa(m:Nat)(b:Int)(q:b=m)(v:AJ)(l:List Int)(w:Ay)(hs:IR w v l)(t:l.length<=9223372036854775807):
  AX fZ 37 #[v,.int .i64 b] w fun e w'=>e = .returned (.bool (kK m l))/\AQ w.heap.size w w':=by
 obtain⟨A,c,rfl⟩:=hs.shape;have u:=fQ hs;clear hs;obtain⟨n,hn⟩:=fX l.length;rw[hn]at t ⊢;have j:=fQ hn;by_cases h:n<=m
 ·have y:decide (b<(n:Int))=false:=(by simp;omega);have d:=fQ (show kK m l=l.all isK by simp[kK,hn,h]);clear h q hn;go_in;go_wp2;go_loopw [5] (fun i wr=>∃ k:Nat,k<=n/\i = .int .i64 k/\Hid ((l.take k).all isK=true)/\Hid (AQ w.heap.size w wr)) (fun i _=>n - (intOf i).toNat)
  case atStart=>exact⟨0,by omega,rfl,fQ rfl,fQ (Az _ _)⟩
  case round=>
   obtain⟨k,hk,rfl,r,f⟩:=hrel;by_cases z:k<n
   ·have B:decide ((k:Int)<n)=true:=(by simp;omega);have ag:(k:Int)<n:=(by omega);obtain⟨x,o⟩:∃ x,l[k]? = some x:=⟨_,Ax (by rw[j.out];exact z)⟩;have p:=u.out.below f.out (Aj _);rw[j.out]at p;obtain⟨ab,ao,rfl,hab,ah⟩:=p.cell o;have s:=fQ o;clear o p
    cases g:isK x with
    | true=>
     have a:=fQ g;clear g;go_wp2_with (go_at_call 67;refine(bXn _ _).mono ?_;rintro e C ⟨rfl,rfl⟩;rw[a.out]);exact⟨⟨k+1,by omega,by simp,fQ (bXm s.out r.out a.out),f⟩,by simp[intOf];omega⟩
    | false=>
     have a:=fQ g;clear g;go_wp2_with (go_at_call 67;refine(bXn _ _).mono ?_;rintro e C ⟨rfl,rfl⟩;rw[a.out]);go_ret;exact⟨by rw[d.out,bJw s.out a.out];rfl,f.out⟩
   ·have B:decide ((k:Int)<n)=false:=(by simp;omega);have D:=fQ (show l.all isK=true by have:=r.out;rwa[Ak (by rw[j.out];omega)]at this);go_wp2;go_ret;exact⟨by rw[d.out,D.out];rfl,f.out⟩
 ·have y:decide (b<(n:Int))=true:=(by simp;omega);have d:=fQ (show kK m l=false by simp[kK,hn,h]);clear h q hn;go_in;go_wp2;go_ret;exact⟨by rw[d.out];rfl,Az _ _⟩
theorem bJx(v:AJ)(s:SigD)(w:Ay)(hs:SigV w v s):
  AX fZ 38 #[v] w fun e w'=>e = .returned (.bool (sigOk s))/\AQ w.heap.size w w':=by
 obtain⟨a,b,rfl,hi,ho⟩:=hs;obtain⟨k,ci,rfl⟩:=hi.shape;obtain⟨l,m,rfl⟩:=ho.shape;have ai:=hi.eXi;have aj:=ho.eXi;have B0:=fQ (show AQ w.heap.size w (w.alloc (.cells #[.slice k s.inn.length ci,.slice l s.out.length m] 40))from(Az _ _).alloc (Aj _) _);have n:=fQ (hi.ir.below B0.out (Aj _));have q:=fQ (ho.ir.below B0.out (Aj _));have d:=Blk.new w 40 #[.slice k s.inn.length ci,.slice l s.out.length m];have o:=fQ d;have r:=d.cell 0;have c1:=d.cell 1;simp at r c1;clear hi ho d
 cases h:kK 8 s.inn with
 | true=>
  have g:=fQ h;have i:=fQ (show sigOk s=kK 8 s.out by simp only[sigOk,h,Bool.true_and]);clear h;go_in;go_wp2_with fail;refine(aXa 8 8 rfl _ s.inn _ n.out (by omega)).mono ?_;rintro e w1 ⟨rfl,c⟩;rw[g.out];have f:=fQ (B0.out.trans (c.mono B0.out.size));have t:=fQ (q.out.below c (Aj _));have j:=o.out.below c o.out.lt;have u:=j.cell 0;have x:=j.cell 1;simp at u x;clear c j;go_wp2_with fail;refine(aXa 8 8 rfl _ s.out _ t.out (by omega)).mono ?_;rintro e w2 ⟨rfl,p⟩;have y:=fQ (f.out.trans (p.mono f.out.size));clear p;go_wp2;go_ret;exact⟨by rw[i.out];rfl,y.out⟩
 | false=>
  have g:=fQ h;have i:=fQ (show sigOk s=false by simp only[sigOk,h,Bool.false_and]);clear h;go_in;go_wp2_with fail;refine(aXa 8 8 rfl _ s.inn _ n.out (by omega)).mono ?_;rintro e w1 ⟨rfl,c⟩;rw[g.out];have f:=fQ (B0.out.trans (c.mono B0.out.size));clear c;go_wp2;go_ret;exact⟨by rw[i.out];rfl,f.out⟩
theorem cQd(e:EnvD):(decide (64<(e.sigs.length:Int))=true/\envOk e=false)\/(decide (64<(e.sigs.length:Int))=false/\decide (e.imports<0)=true/\envOk e=false) \/
  (decide (64<(e.sigs.length:Int))=false/\decide (e.imports<0)=false/\decide ((e.sigs.length:Int)<e.imports)=true/\envOk e=false) \/
  (decide (64<(e.sigs.length:Int))=false/\decide (e.imports<0)=false/\decide ((e.sigs.length:Int)<e.imports)=false/\kK 32 e.globals=false/\envOk e=false) \/
  (decide (64<(e.sigs.length:Int))=false/\decide (e.imports<0)=false/\decide ((e.sigs.length:Int)<e.imports)=false/\kK 32 e.globals=true/\((e.muts.length:Int) != (e.globals.length:Int))=true/\(e.muts.length != e.globals.length)=true/\envOk e=false) \/
  (decide (64<(e.sigs.length:Int))=false/\decide (e.imports<0)=false/\decide ((e.sigs.length:Int)<e.imports)=false/\kK 32 e.globals=true/\((e.muts.length:Int) != (e.globals.length:Int))=false/\(e.muts.length != e.globals.length)=false/\envOk e=e.sigs.all sigOk):=by
 rcases bXj e with⟨h1,he⟩ | ⟨h1,h2,he⟩ | ⟨h1,h2,a,he⟩ | ⟨h1,h2,a,b,c,he⟩ | ⟨h1,h2,a,b,c,he⟩
 ·cases a:decide (64<(e.sigs.length:Int))with
  | true=>exact .inl ⟨rfl,he⟩
  | false=>exact .inr (.inl ⟨rfl,h1,he⟩)
 ·cases a:decide (64<(e.sigs.length:Int))with
  | true=>exact .inl ⟨rfl,he⟩
  | false=>exact .inr (.inr (.inl ⟨rfl,h1,h2,he⟩))
 ·exact .inl ⟨a,he⟩
 ·cases hk:kK 32 e.globals with
  | false=>exact .inr (.inr (.inr (.inl ⟨a,h1,h2,rfl,he⟩)))
  | true=>exact .inr (.inr (.inr (.inr (.inl ⟨a,h1,h2,rfl,b,c,he⟩))))
 ·cases hk:kK 32 e.globals with
  | false=>exact .inr (.inr (.inr (.inl ⟨a,h1,h2,rfl,by rw[he,hk];rfl⟩)))
  | true=>exact .inr (.inr (.inr (.inr (.inr ⟨a,h1,h2,rfl,b,c,by rw[he,hk];rfl⟩))))
theorem xW(v:AJ)(e:EnvD)(w:Ay)(hs:EnvV w v e):
  AX fZ 17 #[v] w fun o w'=>o = .returned (.bool (envOk e))/\AQ w.heap.size w w':=by
 obtain⟨a,b,d,rfl,hs,hg,K⟩:=hs;obtain⟨A,cs,rfl,_⟩:=hs.len;obtain⟨B,cg,rfl⟩:=hg.shape;obtain⟨C,D,rfl,_⟩:=K;have ar:=hg.eXi;have au:=hs.eXi;have B0:=fQ (show AQ w.heap.size w (w.alloc (.cells #[.slice A e.sigs.length cs,.int .i64 e.imports,.slice B e.globals.length cg,.slice C e.muts.length D,.bool e.mem] 26))from(Az _ _).alloc (Aj _) _);have L:=fQ (hs.below B0.out (Aj _) (fun _ _ h=>h.below B0.out (Aj _)));have M:=fQ (hg.ir.below B0.out (Aj _));have E:=fQ (Blk.new w 26 #[.slice A e.sigs.length cs,.int .i64 e.imports,.slice B e.globals.length cg,.slice C e.muts.length D,.bool e.mem]);clear hs hg;rcases cQd e with⟨h1,he⟩ | ⟨h1,h2,he⟩ | ⟨h1,h2,u,he⟩ | ⟨h1,h2,u,r,he⟩ | ⟨h1,h2,u,r,N,O,he⟩ | ⟨h1,h2,u,r,N,O,he⟩
 ·have c:=fQ he;clear he;go_in;go_wp2;go_ret;exact⟨by rw[c.out];rfl,B0.out⟩
 ·have c:=fQ he;clear he;go_in;go_wp2;go_ret;exact⟨by rw[c.out];rfl,B0.out⟩
 ·have c:=fQ he;clear he;go_in;go_wp2;go_ret;exact⟨by rw[c.out];rfl,B0.out⟩
 all_goals
  have c:=fQ he;have P:=fQ r;clear he r;go_in;go_wp2_with fail;refine(aXa 32 32 rfl _ e.globals _ M.out (by omega)).mono ?_;rintro o w1 ⟨rfl,j⟩;rw[P.out];have g:=fQ (B0.out.trans (j.mono B0.out.size));have Q:=fQ (L.out.below j (Aj _) (fun _ _ h=>h.below j (Aj _)));have l:=fQ (E.out.below j E.out.lt);have s:=l.out.cell 0;have F:=l.out.cell 2;have G:=l.out.cell 3;simp at s F G;clear j
 ·go_wp2;go_ret;exact⟨by rw[c.out];rfl,g.out⟩
 ·go_wp2;go_ret;exact⟨by rw[c.out];rfl,g.out⟩
 ·go_wp2;clear s F G;go_loopw [3] (fun i wr=>∃ k:Nat,k<=e.sigs.length/\i = .int .i64 k/\Hid ((e.sigs.take k).all sigOk=true)/\Hid (AQ w1.heap.size w1 wr)) (fun i _=>e.sigs.length - (intOf i).toNat)
  case atStart=>exact⟨0,by omega,rfl,fQ rfl,fQ (Az _ _)⟩
  case round=>
   obtain⟨k,hk,rfl,H,f⟩:=hrel;have R:=fQ (l.out.below f.out l.out.lt);have s:=R.out.cell 0;simp at s;by_cases S:k<e.sigs.length
   ·have T:decide ((k:Int)<(e.sigs.length:Int))=true:=(by simp;omega);have aq:(k:Int)<(e.sigs.length:Int):=(by omega);obtain⟨x,y⟩:∃ x,e.sigs[k]? = some x:=⟨_,Ax S⟩;obtain⟨ab,ao,p,q,rfl,hab,c0,c1,s0,s1⟩:=(Q.out.below f.out (Aj _) (fun _ _ h=>h.below f.out (Aj _))).sig y;obtain⟨pA,pc,rfl⟩:=s0.shape;obtain⟨qA,qc,rfl⟩:=s1.shape;have I:=fQ (show SigV wr (.agg #[_,_]) x from⟨_,_,rfl,s0,s1⟩);have J:=fQ y;clear y s0 s1
    cases t:sigOk x with
    | true=>
     have m:=fQ t;clear t;go_wp2_with fail;refine(bJx _ x _ I.out).mono ?_;rintro o U ⟨rfl,n⟩;rw[m.out];have z:=fQ (f.out.trans (n.mono f.out.size));clear n;go_wp2;exact⟨⟨k+1,by omega,by simp,fQ (bXm J.out H.out m.out),z⟩,by simp[intOf];omega⟩
    | false=>
     have m:=fQ t;clear t;go_wp2_with fail;refine(bJx _ x _ I.out).mono ?_;rintro o U ⟨rfl,n⟩;rw[m.out];have z:=fQ (f.out.trans (n.mono f.out.size));clear n;go_wp2;go_ret;exact⟨by rw[c.out,bJw J.out m.out];rfl,g.out.trans (z.out.mono g.out.size)⟩
   ·have T:decide ((k:Int)<(e.sigs.length:Int))=false:=(by simp;omega);have V:=fQ (show e.sigs.all sigOk=true by have:=H.out;rwa[Ak (by omega)]at this);go_wp2;go_ret;exact⟨by rw[c.out,V.out];rfl,g.out.trans (f.out.mono g.out.size)⟩
def NewV(base:Nat)(v:AJ):Prop:=∀ A n c,v = .slice A n c->∀ a,A=some a->base<=a.block
theorem NewV.nil(base:Nat):NewV base (.slice none 0 0):=by
 intro A n c e a ha;injection e with e;rw[<-e]at ha;cases ha
theorem NewV.at{base g n c:Nat}(h:base<=g):NewV base (.slice (some ⟨g,0,none⟩) n c):=by
 intro A n c e a ha;injection e with e;rw[<-e]at ha;injection ha with ha;subst ha;exact h
def ShP(fr:Bool)(F:Option (List Int×List Int))(n:Nat)(lo hi:Int)(w:Ay)(d:Ending)(w':Ay):Prop:=
 ∃ (c vo:AJ) (most:Nat) (a b:Int) (ok:Bool) (i o:List Int),d = .returned (.tuple #[.agg #[c,vo,.int .u64 (most:Int),.int .i64 a,.int .i64 b],.bool ok])/\IR w' c i/\IR w' vo o/\most<18446744073709551616 /\
  (F=none->ok=false\/most<n)/\(∀ x,F=some x->ok=true/\n<=most/\x=(i,o)/\a=lo/\b=hi)/\(fr=true->NewV w.heap.size c/\NewV w.heap.size vo)/\AQ w.heap.size w w'
theorem ShP.no{fr:Bool}{F:Option (List Int×List Int)}{n:Nat}{lo hi:Int}{w':Ay}(hF:F=none)(hb:AQ w.heap.size w w'):
  ShP fr F n lo hi w (.returned (.tuple #[.agg #[.slice none 0 0,.slice none 0 0,.int .u64 0,.int .i64 0,.int .i64 0],.bool false])) w':=
 ⟨_,_,0,0,0,false,[],[],rfl,IR.nil _,IR.nil _,by omega,fun _=>.inl rfl,(fun x h=>by rw[hF]at h;cases h),fun _=>⟨NewV.nil _,NewV.nil _⟩,hb⟩
theorem gJ{e:TypeId}{a b c d f:AJ}(h:Blk w g e #[a,b,c,d,f]):
  w.cell? ⟨g,0,none⟩=some a/\w.cell? ⟨g,1,none⟩=some b/\w.cell? ⟨g,2,none⟩=some c/\w.cell? ⟨g,3,none⟩=some d/\w.cell? ⟨g,4,none⟩=some f:=by
 have i:=h.cell 0;have c1:=h.cell 1;have j:=h.cell 2;have k:=h.cell 3;have l:=h.cell 4;simp at i c1 j k l;exact⟨i,c1,j,k,l⟩
theorem frz{e:TypeId}{cs:Array AJ}(h:Blk w g e cs)(i:Nat):w.frozen? ⟨g,i,none⟩=false:=frozen_of_row w g i _ _ h
theorem aQa{B:Nat}{w':Ay}(h:AQ B w w')(hg:B<=g)(a b c d e:AJ):
  AQ B w (((((w'.setCell ⟨g,0,none⟩ a).setCell ⟨g,1,none⟩ b).setCell ⟨g,2,none⟩ c).setCell ⟨g,3,none⟩ d).setCell ⟨g,4,none⟩ e):=
 ((((h.setCell (p:=⟨g,0,none⟩) hg a).setCell (p:=⟨g,1,none⟩) hg b).setCell (p:=⟨g,2,none⟩) hg c).setCell (p:=⟨g,3,none⟩) hg d).setCell (p:=⟨g,4,none⟩) hg e
theorem aYc{cs:Array AJ}(h:Blk w k t cs)(hg:k≠g)(a b c d e:AJ):
  Blk (((((w.setCell ⟨g,0,none⟩ a).setCell ⟨g,1,none⟩ b).setCell ⟨g,2,none⟩ c).setCell ⟨g,3,none⟩ d).setCell ⟨g,4,none⟩ e) k t cs:=
 ((((h.setCell (p:=⟨g,0,none⟩) a hg).setCell (p:=⟨g,1,none⟩) b hg).setCell (p:=⟨g,2,none⟩) c hg).setCell (p:=⟨g,3,none⟩) d hg).setCell (p:=⟨g,4,none⟩) e hg
theorem bYh(m:Bool)(n:Nat)(hn:n<18446744073709551616)(w:Ay):AX fZ 125 #[.int .i64 257,.bool m] w (ShP true (mY m 257 n) n 0 0 w):=by
 have ha:acc 257=none:=(by kernel_rfl);have i:=fQ (show fJ 257 = .tuple #[.int .i64 0,.int .i64 0,.bool false,.bool false] by simp[fJ,ha]);have c:=fQ (show mY m 257 n=if m=false then none else if n<=8589934592 then some ([127],[])else none by simp[mY]);clear ha;have j:=fQ hn;clear hn;go_in;go_wp2_with fail;have B0:=fQ (show AQ w.heap.size w ((w.alloc (.cells #[.slice none 0 0,.slice none 0 0,.int .u64 0,.int .i64 0,.int .i64 0] 151)).alloc (.cells #[.int .i64 127] 3))from((Az _ _).alloc (Aj _) _).alloc (by simp) _);have d:=fQ ((Blk.new w 151 #[.slice none 0 0,.slice none 0 0,.int .u64 0,.int .i64 0,.int .i64 0]).alloc (.cells #[.int .i64 127] 3));have f:=fQ (Blk.newAt (w.alloc (.cells #[.slice none 0 0,.slice none 0 0,.int .u64 0,.int .i64 0,.int .i64 0] 151)) (N:=w.heap.size+1) 3 #[.int .i64 127] (by simp));refine(wJ 257 _).mono ?_;rintro e w1 ⟨rfl,b⟩;rw[i.out];have g:=fQ (B0.out.trans (b.mono B0.out.size));have a:=fQ (d.out.below b d.out.lt);have h:=fQ (f.out.below b f.out.lt);clear b;have k:=a.out.lt;have ad:=h.out.lt;obtain⟨l,o,p,q,r⟩:=gJ a.out;have z0:=frz a.out 0;have z1:=frz a.out 1;have z2:=frz a.out 2;have z3:=frz a.out 3;have z4:=frz a.out 4;go_wp2;refine bodyPost_ret (v:=.tuple #[.agg #[.slice (some ⟨w.heap.size+1,0,none⟩) 1 1,.slice none 0 0,.int .u64 8589934592,.int .i64 0,.int .i64 0],.bool m]) (by simp[results,results125,go_sem,k,l,o,p,q,r]) rfl ?_;have:=j.out;refine⟨_,_,8589934592,0,0,m,[127],[],rfl,?_,?_,by omega,?_,?_,?_,?_⟩
 ·exact IR.one (t:=3) (x:=127) (aYc h.out (by omega) _ _ _ _ _)
 ·exact IR.nil _
 ·intro hf;rw[c.out]at hf
  cases m with
  | false=>exact .inl rfl
  | true=>exact .inr (by simp at hf;omega)
 ·intro x hf;rw[c.out]at hf
  cases m with
  | false=>simp at hf
  | true=>
   simp at hf;exact⟨rfl,by omega,hf.2.symm,rfl,rfl⟩
 ·exact fun _=>⟨NewV.at (by have:=g.out.size;omega),NewV.nil _⟩
 ·exact(aQa g.out (Aj _) _ _ _ _ _)
theorem cZx(m:Bool)(n:Nat)(hn:n<18446744073709551616)(w:Ay):AX fZ 125 #[.int .i64 63,.bool m] w (ShP true (mY m 63 n) n 0 0 w):=by
 have ha:acc 63=none:=(by kernel_rfl);have i:=fQ (show fJ 63 = .tuple #[.int .i64 0,.int .i64 0,.bool false,.bool false] by simp[fJ,ha]);have c:=fQ (show mY m 63 n=if m=false then none else if n=0 then some ([],[127])else none by simp[mY,ha]);clear ha;have j:=fQ hn;clear hn;go_in;go_wp2_with fail;have B0:=fQ (show AQ w.heap.size w ((w.alloc (.cells #[.slice none 0 0,.slice none 0 0,.int .u64 0,.int .i64 0,.int .i64 0] 151)).alloc (.cells #[.int .i64 127] 3))from((Az _ _).alloc (Aj _) _).alloc (by simp) _);have d:=fQ ((Blk.new w 151 #[.slice none 0 0,.slice none 0 0,.int .u64 0,.int .i64 0,.int .i64 0]).alloc (.cells #[.int .i64 127] 3));have f:=fQ (Blk.newAt (w.alloc (.cells #[.slice none 0 0,.slice none 0 0,.int .u64 0,.int .i64 0,.int .i64 0] 151)) (N:=w.heap.size+1) 3 #[.int .i64 127] (by simp));refine(wJ 63 _).mono ?_;rintro e w1 ⟨rfl,b⟩;rw[i.out];have g:=fQ (B0.out.trans (b.mono B0.out.size));have a:=fQ (d.out.below b d.out.lt);have h:=fQ (f.out.below b f.out.lt);clear b;have k:=a.out.lt;have ad:=h.out.lt;obtain⟨l,o,p,q,r⟩:=gJ a.out;have z0:=frz a.out 0;have z1:=frz a.out 1;have z2:=frz a.out 2;have z3:=frz a.out 3;have z4:=frz a.out 4;go_wp2;refine bodyPost_ret (v:=.tuple #[.agg #[.slice none 0 0,.slice (some ⟨w.heap.size+1,0,none⟩) 1 1,.int .u64 0,.int .i64 0,.int .i64 0],.bool m]) (by simp[results,results125,go_sem,k,l,o,p,q,r]) rfl ?_;have:=j.out;refine⟨_,_,0,0,0,m,[],[127],rfl,?_,?_,by omega,?_,?_,?_,?_⟩
 ·exact IR.nil _
 ·exact IR.one (t:=3) (x:=127) (aYc h.out (by omega) _ _ _ _ _)
 ·intro hf;rw[c.out]at hf
  cases m with
  | false=>exact .inl rfl
  | true=>exact .inr (by simp at hf;omega)
 ·intro x hf;rw[c.out]at hf
  cases m with
  | false=>simp at hf
  | true=>
   simp at hf;exact⟨rfl,by omega,hf.2.symm,rfl,rfl⟩
 ·exact fun _=>⟨NewV.nil _,NewV.at (by have:=g.out.size;omega)⟩
 ·exact(aQa g.out (Aj _) _ _ _ _ _)
theorem cZy(m:Bool)(n:Nat)(hn:n<18446744073709551616)(w:Ay):AX fZ 125 #[.int .i64 64,.bool m] w (ShP true (mY m 64 n) n 0 0 w):=by
 have ha:acc 64=none:=(by kernel_rfl);have i:=fQ (show fJ 64 = .tuple #[.int .i64 0,.int .i64 0,.bool false,.bool false] by simp[fJ,ha]);have f:=fQ (show mY m 64 n=if m=false then none else if n=0 then some ([127],[127])else none by simp[mY,ha]);clear ha;have j:=fQ hn;clear hn;go_in;go_wp2_with fail;have B0:=fQ (show AQ w.heap.size w ((w.alloc (.cells #[.slice none 0 0,.slice none 0 0,.int .u64 0,.int .i64 0,.int .i64 0] 151)).alloc (.cells #[.int .i64 127] 3))from((Az _ _).alloc (Aj _) _).alloc (by simp) _);have g:=fQ ((Blk.new w 151 #[.slice none 0 0,.slice none 0 0,.int .u64 0,.int .i64 0,.int .i64 0]).alloc (.cells #[.int .i64 127] 3));have h:=fQ (Blk.newAt (w.alloc (.cells #[.slice none 0 0,.slice none 0 0,.int .u64 0,.int .i64 0,.int .i64 0] 151)) (N:=w.heap.size+1) 3 #[.int .i64 127] (by simp));refine(wJ 64 _).mono ?_;rintro e w1 ⟨rfl,b⟩;rw[i.out];have c:=fQ (B0.out.trans (b.mono B0.out.size));have a:=fQ (g.out.below b g.out.lt);have d:=fQ (h.out.below b h.out.lt);clear b;have k:=a.out.lt;have ad:=d.out.lt;obtain⟨l,o,p,q,r⟩:=gJ a.out;have z0:=frz a.out 0;have z1:=frz a.out 1;have z2:=frz a.out 2;have z3:=frz a.out 3;have z4:=frz a.out 4;go_wp2;refine bodyPost_ret (v:=.tuple #[.agg #[.slice (some ⟨w.heap.size+1,0,none⟩) 1 1,.slice (some ⟨w.heap.size+1,0,none⟩) 1 1,.int .u64 0,.int .i64 0,.int .i64 0],.bool m]) (by simp[results,results125,go_sem,k,l,o,p,q,r]) rfl ?_;have:=j.out;refine⟨_,_,0,0,0,m,[127],[127],rfl,?_,?_,by omega,?_,?_,?_,?_⟩
 ·exact IR.one (t:=3) (x:=127) (aYc d.out (by omega) _ _ _ _ _)
 ·exact IR.one (t:=3) (x:=127) (aYc d.out (by omega) _ _ _ _ _)
 ·intro hf;rw[f.out]at hf
  cases m with
  | false=>exact .inl rfl
  | true=>exact .inr (by simp at hf;omega)
 ·intro x hf;rw[f.out]at hf
  cases m with
  | false=>simp at hf
  | true=>
   simp at hf;exact⟨rfl,by omega,hf.2.symm,rfl,rfl⟩
 ·exact fun _=>⟨NewV.at (by have:=c.out.size;omega),NewV.at (by have:=c.out.size;omega)⟩
 ·exact(aQa c.out (Aj _) _ _ _ _ _)
theorem bJj(op k wd:Int)(h:Bool)(ha:acc op=some (k,wd,true,h))(m:Bool)(n:Nat)(hn:n<18446744073709551616)(w:Ay):AX fZ 125 #[.int .i64 op,.bool m] w (ShP true (mY m op n) n 0 0 w):=by
 have i:=fQ (show fJ op = .tuple #[.int .i64 k,.int .i64 wd,.bool true,.bool true] by simp[fJ,ha]);have hb:=(nZ ha).2.2;have d:=fQ (show mY m op n=if m=false then none else if n<=4294967295 then some ([127,k],[])else none by simp only[mY,ha];rw[if_neg (show ¬op=257 by omega)];rfl);have g0:(op == 257)=false:=(by simp;omega);have g1:(op == 63)=false:=(by simp;omega);have g2:(op == 64)=false:=(by simp;omega);clear ha hb;have j:=fQ hn;clear hn;go_in;go_wp2_with fail;have B0:=fQ (show AQ w.heap.size w ((w.alloc (.cells #[.slice none 0 0,.slice none 0 0,.int .u64 0,.int .i64 0,.int .i64 0] 151)).alloc (.cells #[.int .i64 127] 3))from((Az _ _).alloc (Aj _) _).alloc (by simp) _);have f:=fQ ((Blk.new w 151 #[.slice none 0 0,.slice none 0 0,.int .u64 0,.int .i64 0,.int .i64 0]).alloc (.cells #[.int .i64 127] 3));have g:=fQ (Blk.newAt (w.alloc (.cells #[.slice none 0 0,.slice none 0 0,.int .u64 0,.int .i64 0,.int .i64 0] 151)) (N:=w.heap.size+1) 3 #[.int .i64 127] (by simp));refine(wJ op _).mono ?_;rintro e w1 ⟨rfl,b⟩;rw[i.out];have c:=fQ (B0.out.trans (b.mono B0.out.size));have a:=fQ (f.out.below b f.out.lt);have l:=fQ (g.out.below b g.out.lt);clear b;have o:=a.out.lt;have ad:=l.out.lt;obtain⟨p,q,r,s,u⟩:=gJ a.out;have z0:=frz a.out 0;have z1:=frz a.out 1;have z2:=frz a.out 2;have z3:=frz a.out 3;have z4:=frz a.out 4;go_wp2;refine bodyPost_ret (v:=.tuple #[.agg #[.slice (some ⟨w1.heap.size,0,none⟩) 2 2,.slice none 0 0,.int .u64 4294967295,.int .i64 0,.int .i64 0],.bool m]) (by simp[results,results125,go_sem,o,p,q,r,s,u]) rfl ?_;have:=j.out;refine⟨_,_,4294967295,0,0,m,[127,k],[],rfl,?_,?_,by omega,?_,?_,?_,?_⟩
 ·exact IR.two (t:=3) (x:=127) (y:=k) (Blk.newAt _ _ _ (by simp))
 ·exact IR.nil _
 ·intro hf;rw[d.out]at hf
  cases m with
  | false=>exact .inl rfl
  | true=>exact .inr (by simp at hf;omega)
 ·intro x hf;rw[d.out]at hf
  cases m with
  | false=>simp at hf
  | true=>
   simp at hf;exact⟨rfl,by omega,hf.2.symm,rfl,rfl⟩
 ·exact fun _=>⟨NewV.at (by have:=c.out.size;omega),NewV.nil _⟩
 ·exact(aQa c.out (Aj _) _ _ _ _ _).alloc (by simp;have:=c.out.size;omega) _
theorem bVk(op k wd:Int)(i:Bool)(ha:acc op=some (k,wd,false,i))(m:Bool)(n:Nat)(hn:n<18446744073709551616)(w:Ay):AX fZ 125 #[.int .i64 op,.bool m] w (ShP true (mY m op n) n 0 0 w):=by
 have j:=fQ (show fJ op = .tuple #[.int .i64 k,.int .i64 wd,.bool false,.bool true] by simp[fJ,ha]);have hb:=(nZ ha).2.2;have d:=fQ (show mY m op n=if m=false then none else if n<=4294967295 then some ([127],[k])else none by simp only[mY,ha];rw[if_neg (show ¬op=257 by omega)];rfl);have g0:(op == 257)=false:=(by simp;omega);have g1:(op == 63)=false:=(by simp;omega);have g2:(op == 64)=false:=(by simp;omega);clear ha hb;have l:=fQ hn;clear hn;go_in;go_wp2_with fail;have B0:=fQ (show AQ w.heap.size w ((w.alloc (.cells #[.slice none 0 0,.slice none 0 0,.int .u64 0,.int .i64 0,.int .i64 0] 151)).alloc (.cells #[.int .i64 127] 3))from((Az _ _).alloc (Aj _) _).alloc (by simp) _);have f:=fQ ((Blk.new w 151 #[.slice none 0 0,.slice none 0 0,.int .u64 0,.int .i64 0,.int .i64 0]).alloc (.cells #[.int .i64 127] 3));have g:=fQ (Blk.newAt (w.alloc (.cells #[.slice none 0 0,.slice none 0 0,.int .u64 0,.int .i64 0,.int .i64 0] 151)) (N:=w.heap.size+1) 3 #[.int .i64 127] (by simp));refine(wJ op _).mono ?_;rintro e w1 ⟨rfl,b⟩;rw[j.out];have c:=fQ (B0.out.trans (b.mono B0.out.size));have a:=fQ (f.out.below b f.out.lt);have h:=fQ (g.out.below b g.out.lt);clear b;have o:=a.out.lt;have ad:=h.out.lt;obtain⟨p,q,r,s,u⟩:=gJ a.out;have z0:=frz a.out 0;have z1:=frz a.out 1;have z2:=frz a.out 2;have z3:=frz a.out 3;have z4:=frz a.out 4;go_wp2;refine bodyPost_ret (v:=.tuple #[.agg #[.slice (some ⟨w.heap.size+1,0,none⟩) 1 1,.slice (some ⟨w1.heap.size,0,none⟩) 1 1,.int .u64 4294967295,.int .i64 0,.int .i64 0],.bool m]) (by simp[results,results125,go_sem,o,p,q,r,s,u]) rfl ?_;have:=l.out;refine⟨_,_,4294967295,0,0,m,[127],[k],rfl,?_,?_,by omega,?_,?_,?_,?_⟩
 ·exact IR.one (t:=3) (x:=127) ((aYc h.out (by omega) _ _ _ _ _).alloc _)
 ·exact IR.one (t:=3) (x:=k) (Blk.newAt _ _ _ (by simp))
 ·intro hf;rw[d.out]at hf
  cases m with
  | false=>exact .inl rfl
  | true=>exact .inr (by simp at hf;omega)
 ·intro x hf;rw[d.out]at hf
  cases m with
  | false=>simp at hf
  | true=>
   simp at hf;exact⟨rfl,by omega,hf.2.symm,rfl,rfl⟩
 ·exact fun _=>⟨NewV.at (by have:=c.out.size;omega),NewV.at (by have:=c.out.size;omega)⟩
 ·exact(aQa c.out (Aj _) _ _ _ _ _).alloc (by simp;have:=c.out.size;omega) _
theorem bVl(op:Int)(ha:acc op=none)(c:(op == 257)=false)(d:(op == 63)=false)(f:(op == 64)=false)(m:Bool)(n:Nat)(hn:n<18446744073709551616)(w:Ay):AX fZ 125 #[.int .i64 op,.bool m] w (ShP true (mY m op n) n 0 0 w):=by
 have i:=fQ (show fJ op = .tuple #[.int .i64 0,.int .i64 0,.bool false,.bool false] by simp[fJ,ha])
 have j:=fQ (show mY m op n=none by
  simp at c d f;simp only[mY,ha,c,d,f,if_false]
  cases m <;> rfl)
 clear ha;have HN:=fQ hn;clear hn;go_in;go_wp2_with fail;have B0:=fQ (show AQ w.heap.size w ((w.alloc (.cells #[.slice none 0 0,.slice none 0 0,.int .u64 0,.int .i64 0,.int .i64 0] 151)).alloc (.cells #[.int .i64 127] 3))from((Az _ _).alloc (Aj _) _).alloc (by simp) _);have g:=fQ ((Blk.new w 151 #[.slice none 0 0,.slice none 0 0,.int .u64 0,.int .i64 0,.int .i64 0]).alloc (.cells #[.int .i64 127] 3));have h:=fQ (Blk.newAt (w.alloc (.cells #[.slice none 0 0,.slice none 0 0,.int .u64 0,.int .i64 0,.int .i64 0] 151)) (N:=w.heap.size+1) 3 #[.int .i64 127] (by simp));refine(wJ op _).mono ?_;rintro e w1 ⟨rfl,b⟩;rw[i.out];have k:=fQ (B0.out.trans (b.mono B0.out.size));have a:=fQ (g.out.below b g.out.lt);have l:=fQ (h.out.below b h.out.lt);clear b;have o:=a.out.lt;have ad:=l.out.lt;obtain⟨p,q,r,s,t⟩:=gJ a.out;have z0:=frz a.out 0;have z1:=frz a.out 1;have z2:=frz a.out 2;have z3:=frz a.out 3;have z4:=frz a.out 4;go_wp2;refine bodyPost_ret (v:=.tuple #[.agg #[.slice none 0 0,.slice none 0 0,.int .u64 0,.int .i64 0,.int .i64 0],.bool false]) (by simp[results,results125,go_sem,o,p,q,r,s,t]) rfl ?_;exact ShP.no j.out (aQa k.out (Aj _) _ _ _ _ _)
theorem bYi(op:Int)(m:Bool)(n:Nat)(hn:n<18446744073709551616)(w:Ay):AX fZ 125 #[.int .i64 op,.bool m] w (ShP true (mY m op n) n 0 0 w):=by
 cases ha:acc op with
 | some r=>
  obtain⟨k,wd,st,a⟩:=r
  cases st with
  | true=>exact bJj op k wd a ha m n hn w
  | false=>exact bVk op k wd a ha m n hn w
 | none=>
  by_cases b:op=257
  ·subst b;exact bYh m n hn w
  by_cases h1:op=63
  ·subst h1;exact cZx m n hn w
  by_cases h2:op=64
  ·subst h2;exact cZy m n hn w
  exact bVl op ha (by simpa using b) (by simpa using h1) (by simpa using h2) m n hn w
theorem al4(w:Ay)(a b c d:Obj):AQ w.heap.size w ((((w.alloc a).alloc b).alloc c).alloc d):=((((Az _ _).alloc (Aj _) _).alloc (by simp) _).alloc (by simp;omega) _).alloc (by simp;omega) _
theorem al5(w:Ay)(a b c d e:Obj):AQ w.heap.size w (((((w.alloc a).alloc b).alloc c).alloc d).alloc e):=(al4 w a b c d).alloc (by simp;omega) _
theorem al6(w:Ay)(a b c d e f:Obj):AQ w.heap.size w ((((((w.alloc a).alloc b).alloc c).alloc d).alloc e).alloc f):=(al5 w a b c d e).alloc (by simp;omega) _
theorem at3(w:Ay)(a b:Obj)(t:TypeId)(cs:Array AJ):Blk (((w.alloc a).alloc b).alloc (.cells cs t)) (w.heap.size+1+1) t cs:=Blk.newAt _ _ _ (by simp)
theorem at4(w:Ay)(a b c:Obj)(t:TypeId)(cs:Array AJ):Blk ((((w.alloc a).alloc b).alloc c).alloc (.cells cs t)) (w.heap.size+1+1+1) t cs:=Blk.newAt _ _ _ (by simp)
theorem at5(w:Ay)(a b c d:Obj)(t:TypeId)(cs:Array AJ):Blk (((((w.alloc a).alloc b).alloc c).alloc d).alloc (.cells cs t)) (w.heap.size+1+1+1+1) t cs:=Blk.newAt _ _ _ (by simp)
theorem at6(w:Ay)(a b c d e:Obj)(t:TypeId)(cs:Array AJ):Blk ((((((w.alloc a).alloc b).alloc c).alloc d).alloc e).alloc (.cells cs t)) (w.heap.size+1+1+1+1+1) t cs:=Blk.newAt _ _ _ (by simp)
theorem bVm(e:EnvD)(s:SigD)(f vs:AJ)(n:Nat)(hn:n<18446744073709551616)(w:Ay)(he:EnvV w f e)(hs:SigV w vs s):AX fZ 100 #[f,vs,.int .i64 256,.int .u64 (n:Int)] w (ShP false (iZ e s 256 n) n (qK 256) (nX 256) w):=by
 obtain⟨a,b,d,rfl,h1,h2,g⟩:=he;obtain⟨As,cs,rfl,_⟩:=h1.len;obtain⟨Ag,cg,rfl⟩:=h2.shape;have k:=g;obtain⟨Am,cm,rfl,_⟩:=g;obtain⟨p,q,rfl,i,c⟩:=hs;obtain⟨Ap,cp,rfl⟩:=i.shape;obtain⟨Aq,cq,rfl⟩:=c.shape;have HO:=fQ c.ir;have j:=fQ (show iZ e s 256 n=some ([],[0]) by simp[iZ]);have l:=fQ hn;clear h1 h2 i c hn k;go_in;go_wp2;refine bodyPost_ret (v:=.tuple #[.agg #[.slice none 0 0,.slice (some ⟨w.heap.size+1+1+1+1,0,none⟩) 1 1,.int .u64 18446744073709551615,.int .i64 0,.int .i64 0],.bool true]) (by simp[results,results100,go_sem]) rfl ?_;have:=l.out;refine⟨_,_,18446744073709551615,0,0,true,[],[0],rfl,?_,?_,by omega,?_,?_,(fun h=>by cases h),?_⟩
 ·exact IR.nil _
 ·exact IR.one (x:=0) (at5 _ _ _ _ _ _ _)
 ·intro hf;rw[j.out]at hf;cases hf
 ·intro x hf;rw[j.out]at hf;simp at hf;exact⟨rfl,by omega,hf.symm,by decide,by decide⟩
 ·exact al5 _ _ _ _ _ _
theorem bVn(e:EnvD)(s:SigD)(f vs:AJ)(n:Nat)(hn:n<18446744073709551616)(w:Ay)(he:EnvV w f e)(hs:SigV w vs s):AX fZ 100 #[f,vs,.int .i64 272,.int .u64 (n:Int)] w (ShP false (iZ e s 272 n) n (qK 272) (nX 272) w):=by
 obtain⟨a,b,d,rfl,h1,h2,g⟩:=he;obtain⟨As,cs,rfl,_⟩:=h1.len;obtain⟨Ag,cg,rfl⟩:=h2.shape;have k:=g;obtain⟨Am,cm,rfl,_⟩:=g;obtain⟨p,q,rfl,i,c⟩:=hs;obtain⟨Ap,cp,rfl⟩:=i.shape;obtain⟨Aq,cq,rfl⟩:=c.shape;have HO:=fQ c.ir;have j:=fQ (show iZ e s 272 n=if n=0 then some ([0],[0])else none by simp[iZ]);have l:=fQ hn;clear h1 h2 i c hn k;go_in;go_wp2;refine bodyPost_ret (v:=.tuple #[.agg #[.slice (some ⟨w.heap.size+1+1+1+1,0,none⟩) 1 1,.slice (some ⟨w.heap.size+1+1+1+1+1,0,none⟩) 1 1,.int .u64 0,.int .i64 0,.int .i64 0],.bool true]) (by simp[results,results100,go_sem]) rfl ?_;have:=l.out;refine⟨_,_,0,0,0,true,[0],[0],rfl,?_,?_,by omega,?_,?_,(fun h=>by cases h),?_⟩
 ·exact IR.one (x:=0) ((at5 _ _ _ _ _ _ _).alloc _)
 ·exact IR.one (x:=0) (at6 _ _ _ _ _ _ _ _)
 ·intro hf;rw[j.out]at hf;exact .inr (by simp at hf;omega)
 ·intro x hf;rw[j.out]at hf;simp at hf;exact⟨rfl,by omega,hf.2.symm,by decide,by decide⟩
 ·exact al6 _ _ _ _ _ _ _
theorem bVo(e:EnvD)(s:SigD)(f vs:AJ)(n:Nat)(hn:n<18446744073709551616)(w:Ay)(he:EnvV w f e)(hs:SigV w vs s):AX fZ 100 #[f,vs,.int .i64 273,.int .u64 (n:Int)] w (ShP false (iZ e s 273 n) n (qK 273) (nX 273) w):=by
 obtain⟨a,b,d,rfl,h1,h2,g⟩:=he;obtain⟨As,cs,rfl,_⟩:=h1.len;obtain⟨Ag,cg,rfl⟩:=h2.shape;have k:=g;obtain⟨Am,cm,rfl,_⟩:=g;obtain⟨p,q,rfl,i,c⟩:=hs;obtain⟨Ap,cp,rfl⟩:=i.shape;obtain⟨Aq,cq,rfl⟩:=c.shape;have HO:=fQ c.ir;have j:=fQ (show iZ e s 273 n=if n=0 then some ([],[])else none by simp[iZ]);have l:=fQ hn;clear h1 h2 i c hn k;go_in;go_wp2;refine bodyPost_ret (v:=.tuple #[.agg #[.slice none 0 0,.slice none 0 0,.int .u64 0,.int .i64 1,.int .i64 1],.bool true]) (by simp[results,results100,go_sem]) rfl ?_;have:=l.out;refine⟨_,_,0,1,1,true,[],[],rfl,?_,?_,by omega,?_,?_,(fun h=>by cases h),?_⟩
 ·exact IR.nil _
 ·exact IR.nil _
 ·intro hf;rw[j.out]at hf;exact .inr (by simp at hf;omega)
 ·intro x hf;rw[j.out]at hf;simp at hf;exact⟨rfl,by omega,hf.2.symm,by decide,by decide⟩
 ·exact al4 _ _ _ _ _
theorem bVp(e:EnvD)(s:SigD)(f vs:AJ)(n:Nat)(hn:n<18446744073709551616)(w:Ay)(he:EnvV w f e)(hs:SigV w vs s):AX fZ 100 #[f,vs,.int .i64 274,.int .u64 (n:Int)] w (ShP false (iZ e s 274 n) n (qK 274) (nX 274) w):=by
 obtain⟨a,b,d,rfl,h1,h2,g⟩:=he;obtain⟨As,cs,rfl,_⟩:=h1.len;obtain⟨Ag,cg,rfl⟩:=h2.shape;have k:=g;obtain⟨Am,cm,rfl,_⟩:=g;obtain⟨p,q,rfl,i,c⟩:=hs;obtain⟨Ap,cp,rfl⟩:=i.shape;obtain⟨Aq,cq,rfl⟩:=c.shape;have HO:=fQ c.ir;have j:=fQ (show iZ e s 274 n=if n=0 then some ([127],[])else none by simp[iZ]);have l:=fQ hn;clear h1 h2 i c hn k;go_in;go_wp2;refine bodyPost_ret (v:=.tuple #[.agg #[.slice (some ⟨w.heap.size+1+1+1,0,none⟩) 1 1,.slice none 0 0,.int .u64 0,.int .i64 1,.int .i64 1],.bool true]) (by simp[results,results100,go_sem]) rfl ?_;have:=l.out;refine⟨_,_,0,1,1,true,[127],[],rfl,?_,?_,by omega,?_,?_,(fun h=>by cases h),?_⟩
 ·exact IR.one (x:=127) (at4 _ _ _ _ _ _)
 ·exact IR.nil _
 ·intro hf;rw[j.out]at hf;exact .inr (by simp at hf;omega)
 ·intro x hf;rw[j.out]at hf;simp at hf;exact⟨rfl,by omega,hf.2.symm,by decide,by decide⟩
 ·exact al4 _ _ _ _ _
theorem bVq(e:EnvD)(s:SigD)(f vs:AJ)(n:Nat)(hn:n<18446744073709551616)(w:Ay)(he:EnvV w f e)(hs:SigV w vs s):AX fZ 100 #[f,vs,.int .i64 275,.int .u64 (n:Int)] w (ShP false (iZ e s 275 n) n (qK 275) (nX 275) w):=by
 obtain⟨a,b,d,rfl,h1,h2,g⟩:=he;obtain⟨As,cs,rfl,_⟩:=h1.len;obtain⟨Ag,cg,rfl⟩:=h2.shape;have k:=g;obtain⟨Am,cm,rfl,_⟩:=g;obtain⟨p,q,rfl,i,c⟩:=hs;obtain⟨Ap,cp,rfl⟩:=i.shape;obtain⟨Aq,cq,rfl⟩:=c.shape;have HO:=fQ c.ir;have j:=fQ (show iZ e s 275 n=if n=0 then some ([127],[])else none by simp[iZ]);have l:=fQ hn;clear h1 h2 i c hn k;go_in;go_wp2;refine bodyPost_ret (v:=.tuple #[.agg #[.slice (some ⟨w.heap.size+1+1+1,0,none⟩) 1 1,.slice none 0 0,.int .u64 0,.int .i64 1,.int .i64 65],.bool true]) (by simp[results,results100,go_sem]) rfl ?_;have:=l.out;refine⟨_,_,0,1,65,true,[127],[],rfl,?_,?_,by omega,?_,?_,(fun h=>by cases h),?_⟩
 ·exact IR.one (x:=127) (at4 _ _ _ _ _ _)
 ·exact IR.nil _
 ·intro hf;rw[j.out]at hf;exact .inr (by simp at hf;omega)
 ·intro x hf;rw[j.out]at hf;simp at hf;exact⟨rfl,by omega,hf.2.symm,by decide,by decide⟩
 ·exact al4 _ _ _ _ _
theorem bVr(e:EnvD)(s:SigD)(f vs:AJ)(n:Nat)(hn:n<18446744073709551616)(w:Ay)(he:EnvV w f e)(hs:SigV w vs s):AX fZ 100 #[f,vs,.int .i64 276,.int .u64 (n:Int)] w (ShP false (iZ e s 276 n) n (qK 276) (nX 276) w):=by
 obtain⟨a,b,d,rfl,h1,h2,g⟩:=he;obtain⟨As,cs,rfl,_⟩:=h1.len;obtain⟨Ag,cg,rfl⟩:=h2.shape;have k:=g;obtain⟨Am,cm,rfl,_⟩:=g;obtain⟨p,q,rfl,i,c⟩:=hs;obtain⟨Ap,cp,rfl⟩:=i.shape;obtain⟨l,m,rfl⟩:=c.shape;have o:=fQ c.ir;have j:=fQ (show iZ e s 276 n=if n=0 then some (s.out,[])else none by simp[iZ]);have r:=fQ hn;clear h1 h2 i c hn k;go_in;go_wp2;refine bodyPost_ret (v:=.tuple #[.agg #[.slice l s.out.length m,.slice none 0 0,.int .u64 0,.int .i64 0,.int .i64 0],.bool true]) (by simp[results,results100,go_sem]) rfl ?_;have:=r.out;refine⟨_,_,0,0,0,true,s.out,[],rfl,?_,?_,by omega,?_,?_,(fun h=>by cases h),?_⟩
 ·exact o.out.below (al4 _ _ _ _ _) (Aj _)
 ·exact IR.nil _
 ·intro hf;rw[j.out]at hf;exact .inr (by simp at hf;omega)
 ·intro x hf;rw[j.out]at hf;simp at hf;exact⟨rfl,by omega,hf.2.symm,by decide,by decide⟩
 ·exact al4 _ _ _ _ _
theorem bVs(e:EnvD)(s:SigD)(f vs:AJ)(n:Nat)(hn:n<18446744073709551616)(w:Ay)(he:EnvV w f e)(hs:SigV w vs s):AX fZ 100 #[f,vs,.int .i64 277,.int .u64 (n:Int)] w (ShP false (iZ e s 277 n) n (qK 277) (nX 277) w):=by
 obtain⟨a,b,d,rfl,h1,h2,g⟩:=he;obtain⟨As,cs,rfl,_⟩:=h1.len;obtain⟨Ag,cg,rfl⟩:=h2.shape;have k:=g;obtain⟨Am,cm,rfl,_⟩:=g;obtain⟨p,q,rfl,i,c⟩:=hs;obtain⟨Ap,cp,rfl⟩:=i.shape;obtain⟨Aq,cq,rfl⟩:=c.shape;have HO:=fQ c.ir;have j:=fQ (show iZ e s 277 n=if n=0 then some ([],[])else none by simp[iZ]);have l:=fQ hn;clear h1 h2 i c hn k;go_in;go_wp2;refine bodyPost_ret (v:=.tuple #[.agg #[.slice none 0 0,.slice none 0 0,.int .u64 0,.int .i64 0,.int .i64 0],.bool true]) (by simp[results,results100,go_sem]) rfl ?_;have:=l.out;refine⟨_,_,0,0,0,true,[],[],rfl,?_,?_,by omega,?_,?_,(fun h=>by cases h),?_⟩
 ·exact IR.nil _
 ·exact IR.nil _
 ·intro hf;rw[j.out]at hf;exact .inr (by simp at hf;omega)
 ·intro x hf;rw[j.out]at hf;simp at hf;exact⟨rfl,by omega,hf.2.symm,by decide,by decide⟩
 ·exact al4 _ _ _ _ _
theorem bVt(e:EnvD)(s:SigD)(f vs:AJ)(n:Nat)(hn:n<18446744073709551616)(w:Ay)(he:EnvV w f e)(hs:SigV w vs s):AX fZ 100 #[f,vs,.int .i64 258,.int .u64 (n:Int)] w (ShP false (iZ e s 258 n) n (qK 258) (nX 258) w):=by
 obtain⟨a,b,d,rfl,h1,h2,g⟩:=he;obtain⟨As,cs,rfl,_⟩:=h1.len;obtain⟨Ag,cg,rfl⟩:=h2.shape;have k:=g;obtain⟨Am,cm,rfl,_⟩:=g;obtain⟨p,q,rfl,i,c⟩:=hs;obtain⟨Ap,cp,rfl⟩:=i.shape;obtain⟨Aq,cq,rfl⟩:=c.shape;have HO:=fQ c.ir;have j:=fQ (show iZ e s 258 n=if n=0 then some ([],[])else none by simp[iZ]);have l:=fQ hn;clear h1 h2 i c hn k;go_in;go_wp2;refine bodyPost_ret (v:=.tuple #[.agg #[.slice none 0 0,.slice none 0 0,.int .u64 0,.int .i64 0,.int .i64 0],.bool true]) (by simp[results,results100,go_sem]) rfl ?_;have:=l.out;refine⟨_,_,0,0,0,true,[],[],rfl,?_,?_,by omega,?_,?_,(fun h=>by cases h),?_⟩
 ·exact IR.nil _
 ·exact IR.nil _
 ·intro hf;rw[j.out]at hf;exact .inr (by simp at hf;omega)
 ·intro x hf;rw[j.out]at hf;simp at hf;exact⟨rfl,by omega,hf.2.symm,by decide,by decide⟩
 ·exact al4 _ _ _ _ _
theorem bYj(e:EnvD)(s:SigD)(f vs:AJ)(n:Nat)(hn:n<18446744073709551616)(w:Ay)(he:EnvV w f e)(hs:SigV w vs s):AX fZ 100 #[f,vs,.int .i64 27,.int .u64 (n:Int)] w (ShP false (iZ e s 27 n) n (qK 27) (nX 27) w):=by
 obtain⟨a,b,d,rfl,h1,h2,g⟩:=he;obtain⟨As,cs,rfl,_⟩:=h1.len;obtain⟨Ag,cg,rfl⟩:=h2.shape;have k:=g;obtain⟨Am,cm,rfl,_⟩:=g;obtain⟨p,q,rfl,i,c⟩:=hs;obtain⟨Ap,cp,rfl⟩:=i.shape;obtain⟨Aq,cq,rfl⟩:=c.shape;have HO:=fQ c.ir;have j:=fQ (show iZ e s 27 n=if n=0 then some ([0,0,127],[0])else none by simp[iZ]);have l:=fQ hn;clear h1 h2 i c hn k;go_in;go_wp2;refine bodyPost_ret (v:=.tuple #[.agg #[.slice (some ⟨w.heap.size+1+1+1+1,0,none⟩) 3 3,.slice (some ⟨w.heap.size+1+1+1+1+1,0,none⟩) 1 1,.int .u64 0,.int .i64 0,.int .i64 0],.bool true]) (by simp[results,results100,go_sem]) rfl ?_;have:=l.out;refine⟨_,_,0,0,0,true,[0,0,127],[0],rfl,?_,?_,by omega,?_,?_,(fun h=>by cases h),?_⟩
 ·exact IR.three (x:=0) (y:=0) (z:=127) ((at5 _ _ _ _ _ _ _).alloc _)
 ·exact IR.one (x:=0) (at6 _ _ _ _ _ _ _ _)
 ·intro hf;rw[j.out]at hf;exact .inr (by simp at hf;omega)
 ·intro x hf;rw[j.out]at hf;simp at hf;exact⟨rfl,by omega,hf.2.symm,by decide,by decide⟩
 ·exact al6 _ _ _ _ _ _ _
theorem bYk(e:EnvD)(s:SigD)(A vs:AJ)(n:Nat)(hn:n<18446744073709551616)(w:Ay)(he:EnvV w A e)(hs:SigV w vs s):AX fZ 100 #[A,vs,.int .i64 16,.int .u64 (n:Int)] w (ShP false (iZ e s 16 n) n (qK 16) (nX 16) w):=by
 obtain⟨a,b,d,rfl,h1,h2,B⟩:=he;obtain⟨As,cs,rfl,_⟩:=h1.len;obtain⟨f,cg,rfl⟩:=h2.shape;have C:=B;obtain⟨i,j,rfl,_⟩:=B;obtain⟨p,q,rfl,y,k⟩:=hs;obtain⟨l,m,rfl⟩:=y.shape;obtain⟨o,r,rfl⟩:=k.shape;have HO:=fQ k.ir;have hl:=h1.eXi;by_cases J:n<e.sigs.length
 ·obtain⟨x,z⟩:∃ x,e.sigs[n]? = some x:=⟨_,Ax J⟩;have K:decide ((n:Int)<(e.sigs.length:Int))=true:=(by simp;omega);have ae:(n:Int)<(e.sigs.length:Int):=(by omega);obtain⟨gb,go,p,q,rfl,D,L,c1,s0,s1⟩:=h1.sig z;obtain⟨E,F,rfl⟩:=s0.shape;obtain⟨G,H,rfl⟩:=s1.shape;have t:=fQ (show iZ e s 16 n=some (x.inn,x.out) by simp[iZ,z]);have M:=fQ hn;have N:=fQ s0.ir;have O:=fQ s1.ir;clear h1 h2 y k hn C z s0 s1;go_in;have u:=fQ (al4 w (.cells #[.slice (some ⟨gb,go,none⟩) e.sigs.length cs,.int .i64 e.imports,.slice f e.globals.length cg,.slice i e.muts.length j,.bool e.mem] 26) (.cells #[.slice l s.inn.length m,.slice o s.out.length r] 40) (.cells #[.slice none 0 0,.slice none 0 0,.int .u64 0,.int .i64 0,.int .i64 0] 151) (.cells #[.int .i64 127] 3));have I:=fQ ((((Blk.new w 26 #[.slice (some ⟨gb,go,none⟩) e.sigs.length cs,.int .i64 e.imports,.slice f e.globals.length cg,.slice i e.muts.length j,.bool e.mem]).alloc (.cells #[.slice l s.inn.length m,.slice o s.out.length r] 40)).alloc (.cells #[.slice none 0 0,.slice none 0 0,.int .u64 0,.int .i64 0,.int .i64 0] 151)).alloc (.cells #[.int .i64 127] 3));have c:=fQ ((at3 w (.cells #[.slice (some ⟨gb,go,none⟩) e.sigs.length cs,.int .i64 e.imports,.slice f e.globals.length cg,.slice i e.muts.length j,.bool e.mem] 26) (.cells #[.slice l s.inn.length m,.slice o s.out.length r] 40) 151 #[.slice none 0 0,.slice none 0 0,.int .u64 0,.int .i64 0,.int .i64 0]).alloc (.cells #[.int .i64 127] 3));go_wp2_with fail;generalize ((((w.alloc (.cells #[.slice (some ⟨gb,go,none⟩) e.sigs.length cs,.int .i64 e.imports,.slice f e.globals.length cg,.slice i e.muts.length j,.bool e.mem] 26)).alloc (.cells #[.slice l s.inn.length m,.slice o s.out.length r] 40)).alloc (.cells #[.slice none 0 0,.slice none 0 0,.int .u64 0,.int .i64 0,.int .i64 0] 151)).alloc (.cells #[.int .i64 127] 3))=W4 at u I c ⊢;have d0:=(u.out.cell (p:=⟨gb,go+n*2,none⟩) D).trans L;have d1:=(u.out.cell (p:=⟨gb,go+n*2+1,none⟩) D).trans c1;have e0:=I.out.cell 0;simp at e0;obtain⟨P,Q,R,S,T⟩:=gJ c.out;have z0:=frz c.out 0;have z1:=frz c.out 1;have z2:=frz c.out 2;have z3:=frz c.out 3;have z4:=frz c.out 4;have U:=c.out.lt;go_region;go_wp2;refine bodyPost_ret (v:=.tuple #[.agg #[.slice E x.inn.length F,.slice G x.out.length H,.int .u64 (n:Int),.int .i64 0,.int .i64 0],.bool true]) (by simp[results,results100,go_sem,U,P,Q,R,S,T]) rfl ?_;have:=M.out;have hb:=(aQa u.out (g:=w.heap.size+1+1) (by omega) (.slice E x.inn.length F) (.slice G x.out.length H) (.int .u64 (n:Int)) (.int .i64 0) (.int .i64 0)).drew;refine⟨_,_,n,0,0,true,_,_,rfl,N.out.below hb (Aj _),O.out.below hb (Aj _),this,?_,?_,(fun h=>by cases h),hb⟩
  ·intro hf;rw[t.out]at hf;cases hf
  ·intro x hf;rw[t.out]at hf;simp at hf;exact⟨rfl,Aj _,hf.symm,by decide,by decide⟩
 ·have K:decide ((n:Int)<(e.sigs.length:Int))=false:=(by simp;omega);have t:=fQ (show iZ e s 16 n=none by simp[iZ];omega);clear h1 h2 y k hn C;go_in;go_wp2;refine bodyPost_ret (v:=.tuple #[.agg #[.slice none 0 0,.slice none 0 0,.int .u64 0,.int .i64 0,.int .i64 0],.bool false]) (by simp[results,results100,go_sem]) rfl ?_;exact ShP.no t.out (al4 _ _ _ _ _)
theorem bYl(e:EnvD)(s:SigD)(j vs:AJ)(n:Nat)(hn:n<18446744073709551616)(w:Ay)(he:EnvV w j e)(hs:SigV w vs s):AX fZ 100 #[j,vs,.int .i64 35,.int .u64 (n:Int)] w (ShP false (iZ e s 35 n) n (qK 35) (nX 35) w):=by
 obtain⟨a,b,d,rfl,h1,h2,k⟩:=he;obtain⟨As,cs,rfl,_⟩:=h1.len;obtain⟨Ag,cg,rfl⟩:=h2.shape;have l:=k;obtain⟨Am,cm,rfl,_⟩:=k;obtain⟨p,q,rfl,g,c⟩:=hs;obtain⟨Ap,cp,rfl⟩:=g.shape;obtain⟨Aq,cq,rfl⟩:=c.shape;have HO:=fQ c.ir;have hl:=h2.eXi;by_cases o:n<e.globals.length
 ·obtain⟨x,i⟩:∃ x,e.globals[n]? = some x:=⟨_,Ax o⟩;have r:decide ((e.globals.length:Int)<=(n:Int))=false:=(by simp;omega);have m:¬e.globals.length<=n:=(by omega);have ae:(n:Int)<(e.globals.length:Int):=(by omega);obtain⟨gb,go,rfl,aj,c0⟩:=h2.ir.cell i;have af:gb<w.heap.size+1:=(by omega);have ag:gb<w.heap.size+1+1:=(by omega);have ah:gb<w.heap.size+1+1+1:=(by omega);have ai:gb<w.heap.size+1+1+1+1:=(by omega);have f:=fQ (show iZ e s 35 n=some ([],[x]) by simp[iZ,i]);have t:=fQ hn;clear h1 h2 g c hn l i;go_in;go_wp2;refine bodyPost_ret (v:=.tuple #[.agg #[.slice none 0 0,.slice (some ⟨w.heap.size+1+1+1+1,0,none⟩) 1 1,.int .u64 (n:Int),.int .i64 0,.int .i64 0],.bool true]) (by simp[results,results100,go_sem]) rfl ?_;have:=t.out;refine⟨_,_,n,0,0,true,[],[x],rfl,IR.nil _,IR.one (at5 _ _ _ _ _ _ _),this,?_,?_,(fun h=>by cases h),al5 _ _ _ _ _ _⟩
  ·intro hf;rw[f.out]at hf;cases hf
  ·intro x hf;rw[f.out]at hf;simp at hf;exact⟨rfl,Aj _,hf.symm,by decide,by decide⟩
 ·have r:decide ((e.globals.length:Int)<=(n:Int))=true:=(by simp;omega);have m:e.globals.length<=n:=(by omega);have f:=fQ (show iZ e s 35 n=none by simp[iZ,m]);clear h1 h2 g c hn l;go_in;go_wp2;refine bodyPost_ret (v:=.tuple #[.agg #[.slice none 0 0,.slice none 0 0,.int .u64 0,.int .i64 0,.int .i64 0],.bool false]) (by simp[results,results100,go_sem]) rfl ?_;exact ShP.no f.out (al4 _ _ _ _ _)
theorem bYm(e:EnvD)(s:SigD)(l vs:AJ)(n:Nat)(hn:n<18446744073709551616)(w:Ay)(he:EnvV w l e)(hs:SigV w vs s)(m:e.muts.length=e.globals.length):AX fZ 100 #[l,vs,.int .i64 36,.int .u64 (n:Int)] w (ShP false (iZ e s 36 n) n (qK 36) (nX 36) w):=by
 obtain⟨a,b,d,rfl,h1,h2,o⟩:=he;obtain⟨As,cs,rfl,_⟩:=h1.len;obtain⟨Ag,cg,rfl⟩:=h2.shape;have r:=o;obtain⟨Am,cm,rfl,_⟩:=o;obtain⟨p,q,rfl,g,c⟩:=hs;obtain⟨Ap,cp,rfl⟩:=g.shape;obtain⟨Aq,cq,rfl⟩:=c.shape;have HO:=fQ c.ir;have hl:=h2.eXi;by_cases z:n<e.globals.length
 ·obtain⟨x,i⟩:∃ x,e.globals[n]? = some x:=⟨_,Ax z⟩;have A:decide ((e.globals.length:Int)<=(n:Int))=false:=(by simp;omega);have t:¬e.globals.length<=n:=(by omega);have ah:(n:Int)<(e.globals.length:Int):=(by omega);obtain⟨gb,go,rfl,av,c0⟩:=h2.ir.cell i;have ai:gb<w.heap.size+1:=(by omega);have aj:gb<w.heap.size+1+1:=(by omega);have ak:gb<w.heap.size+1+1+1:=(by omega);have al:gb<w.heap.size+1+1+1+1:=(by omega);obtain⟨y,j⟩:∃ y,e.muts[n]? = some y:=⟨_,Ax (by omega)⟩;obtain⟨aw,ax,e',k,_⟩:=r;injection e' with B e2 C;subst B;subst C;have u:n<e.muts.length:=(by omega);have an:(n:Int)<(e.muts.length:Int):=(by omega);obtain⟨mb,mo,rfl,ay⟩:=k.addr (by omega);have ao:mb<w.heap.size+1:=(by omega);have aq:mb<w.heap.size+1+1:=(by omega);have ar:mb<w.heap.size+1+1+1:=(by omega);have au:mb<w.heap.size+1+1+1+1:=(by omega);have c1:=k.at_ u;rw[bXa u,(List.getElem?_eq_some_iff.1 j).2]at c1;have f:=fQ (show iZ e s 36 n=if y=true then some ([x],[])else none by cases y <;> simp[iZ,i,j]);have D:=fQ hn;clear h1 h2 g c hn k i j m;go_in;go_wp2_with fail;go_region;go_wp2;refine bodyPost_ret (v:=.tuple #[.agg #[.slice (some ⟨w.heap.size+1+1+1+1,0,none⟩) 1 1,.slice none 0 0,.int .u64 (n:Int),.int .i64 0,.int .i64 0],.bool y]) (by simp[results,results100,go_sem]) rfl ?_;have:=D.out;refine⟨_,_,n,0,0,y,[x],[],rfl,IR.one (at5 _ _ _ _ _ _ _).drew,IR.nil _,this,fun hf=>?_,fun x hf=>?_,(fun h=>by cases h),(al5 _ _ _ _ _ _).drew⟩
  ·rw[f.out]at hf
   cases y with
   | false=>exact .inl rfl
   | true=>cases hf
  ·rw[f.out]at hf
   cases y with
   | false=>cases hf
   | true=>
    simp at hf;exact⟨rfl,Aj _,hf.symm,by decide,by decide⟩
 ·have A:decide ((e.globals.length:Int)<=(n:Int))=true:=(by simp;omega);have t:e.globals.length<=n:=(by omega);have f:=fQ (show iZ e s 36 n=none by simp[iZ,t]);clear h1 h2 g c hn r m;go_in;go_wp2;refine bodyPost_ret (v:=.tuple #[.agg #[.slice none 0 0,.slice none 0 0,.int .u64 0,.int .i64 0,.int .i64 0],.bool false]) (by simp[results,results100,go_sem]) rfl ?_;exact ShP.no f.out (al4 _ _ _ _ _)
structure Off (op:Int):Prop where
 o0:(op == 256)=false
 o1:(op == 272)=false
 o2:(op == 273)=false
 o3:(op == 274)=false
 o4:(op == 275)=false
 o5:(op == 276)=false
 o6:(op == 277)=false
 o7:(op == 258)=false
 o8:(op == 27)=false
 o9:(op == 16)=false
 o10:(op == 35)=false
 o11:(op == 36)=false
theorem Off.form{op:Int}(h:Off op)(e:EnvD)(s:SigD)(n:Nat):iZ e s op n=(if(fV op).isSome then if n=0 then some (gX op,[kW op])else none else mY e.mem op n)/\qK op=0/\nX op=0:=by
 obtain⟨c,h1,h2,a,b,d,f,g,i,j,k,l⟩:=h;simp at c h1 h2 a b d f g i j k l;refine⟨?_,?_,?_⟩
 ·simp only[iZ,c,h1,h2,a,b,d,f,g,i,j,k,l,if_false,or_self]
 ·simp[qK,h2,a,b]
 ·simp[nX,h2,a,b]
theorem cZz{Q:Int->Prop}(k:Q 256)(h1:Q 272)(h2:Q 273)(l:Q 274)(m:Q 275)(n:Q 276)(o:Q 277)(p:Q 258)(q:Q 27)(r:Q 16)(s:Q 35)(t:Q 36)(hn:∀ op,Off op->Q op)(op:Int):Q op:=by
 by_cases a:op=256
 ·subst a;exact k
 by_cases b:op=272
 ·subst b;exact h1
 by_cases c:op=273
 ·subst c;exact h2
 by_cases d:op=274
 ·subst d;exact l
 by_cases e:op=275
 ·subst e;exact m
 by_cases f:op=276
 ·subst f;exact n
 by_cases g:op=277
 ·subst g;exact o
 by_cases h:op=258
 ·subst h;exact p
 by_cases i:op=27
 ·subst i;exact q
 by_cases j:op=16
 ·subst j;exact r
 by_cases g10:op=35
 ·subst g10;exact s
 by_cases g11:op=36
 ·subst g11;exact t
 exact hn op ⟨beq_false_of_ne a,beq_false_of_ne b,beq_false_of_ne c,beq_false_of_ne d,beq_false_of_ne e,beq_false_of_ne f,beq_false_of_ne g,beq_false_of_ne h,beq_false_of_ne i,beq_false_of_ne j,beq_false_of_ne g10,beq_false_of_ne g11⟩
theorem IR.eXr{base:Nat}(h:w.ownsRow base t 1 (.slice A l.length c) l.length (i64s l))(hg:g<base)(a b d e f:AJ):
  IR (((((w.setCell ⟨g,0,none⟩ a).setCell ⟨g,1,none⟩ b).setCell ⟨g,2,none⟩ d).setCell ⟨g,3,none⟩ e).setCell ⟨g,4,none⟩ f) (.slice A l.length c) l:=by
 have key:∀ a,A=some a->a.block≠g:=by
  intro a ha;subst ha;have:=h.lt a.block (by rfl);omega
 refine⟨A,c,rfl,?_⟩;exact(((((Src.eXq h).setCell (p:=⟨g,0,none⟩) a key).setCell (p:=⟨g,1,none⟩) b key).setCell (p:=⟨g,2,none⟩) d key).setCell (p:=⟨g,3,none⟩) e key).setCell (p:=⟨g,4,none⟩) f key
theorem IR.eZn{base:Nat}(h:IR w v l)(i:NewV base v)(hg:g<base)(a b d e f:AJ):
  IR (((((w.setCell ⟨g,0,none⟩ a).setCell ⟨g,1,none⟩ b).setCell ⟨g,2,none⟩ d).setCell ⟨g,3,none⟩ e).setCell ⟨g,4,none⟩ f) v l:=by
 have key:∀ A n c,v = .slice A n c->∀ a,A=some a->a.block≠g:=by
  intro A n c e a ha;have:=i A n c e a ha;omega
 exact((((h.setCell (p:=⟨g,0,none⟩) a key).setCell (p:=⟨g,1,none⟩) b key).setCell (p:=⟨g,2,none⟩) d key).setCell (p:=⟨g,3,none⟩) e key).setCell (p:=⟨g,4,none⟩) f key
theorem bVu(op:Int)(P : -9223372036854775808<=op)(Q:op<=9223372036854775807)(ho:Off op)(e:EnvD)(s:SigD)(R vs:AJ)(n:Nat)(hn:n<18446744073709551616)(w:Ay)(he:EnvV w R e)(hs:SigV w vs s):
  AX fZ 100 #[R,vs,.int .i64 op,.int .u64 (n:Int)] w (ShP false (iZ e s op n) n (qK op) (nX op) w):=by
 obtain⟨hf,aq,ar⟩:=ho.form e s n;rw[aq,ar];obtain⟨a,b,d,rfl,h1,h2,h3⟩:=he;obtain⟨m,cs,rfl,_⟩:=h1.len;obtain⟨r,cg,rfl⟩:=h2.shape;obtain⟨t,u,rfl,_⟩:=h3;obtain⟨p,q,rfl,S,T⟩:=hs;obtain⟨y,z,rfl⟩:=S.shape;obtain⟨A,B,rfl⟩:=T.shape;have HN:=fQ hn;obtain⟨g0,g1,g2,g3,g4,g5,g6,g7,g8,g9,g10,g11⟩:=ho;have C:=fQ (al4 w (.cells #[.slice m e.sigs.length cs,.int .i64 e.imports,.slice r e.globals.length cg,.slice t e.muts.length u,.bool e.mem] 26) (.cells #[.slice y s.inn.length z,.slice A s.out.length B] 40) (.cells #[.slice none 0 0,.slice none 0 0,.int .u64 0,.int .i64 0,.int .i64 0] 151) (.cells #[.int .i64 127] 3));have U:=fQ ((((Blk.new w 26 #[.slice m e.sigs.length cs,.int .i64 e.imports,.slice r e.globals.length cg,.slice t e.muts.length u,.bool e.mem]).alloc (.cells #[.slice y s.inn.length z,.slice A s.out.length B] 40)).alloc (.cells #[.slice none 0 0,.slice none 0 0,.int .u64 0,.int .i64 0,.int .i64 0] 151)).alloc (.cells #[.int .i64 127] 3));have D:=fQ ((at3 w (.cells #[.slice m e.sigs.length cs,.int .i64 e.imports,.slice r e.globals.length cg,.slice t e.muts.length u,.bool e.mem] 26) (.cells #[.slice y s.inn.length z,.slice A s.out.length B] 40) 151 #[.slice none 0 0,.slice none 0 0,.int .u64 0,.int .i64 0,.int .i64 0]).alloc (.cells #[.int .i64 127] 3));have V:w.heap.size+1+1+1+1=((((w.alloc (.cells #[.slice m e.sigs.length cs,.int .i64 e.imports,.slice r e.globals.length cg,.slice t e.muts.length u,.bool e.mem] 26)).alloc (.cells #[.slice y s.inn.length z,.slice A s.out.length B] 40)).alloc (.cells #[.slice none 0 0,.slice none 0 0,.int .u64 0,.int .i64 0,.int .i64 0] 151)).alloc (.cells #[.int .i64 127] 3)).heap.size:=(by simp);have W:=fQ V;clear h1 h2 S T hn V
 cases hg:fV op with
 | some gg=>
  have F:=fQ (show(fV op).isSome=true by simp[hg]);rw[hg]at hf;have k:=fQ (show iZ e s op n=if n=0 then some (gX op,[kW op])else none from hf);clear hf hg;go_in;go_wp2_with fail;refine(bWi op _ P Q).mono ?_;rintro X w1 ⟨Y,c1,rfl,E,c⟩;rw[F.out];have l:=fQ (C.out.trans (c.mono C.out.size));have f:=fQ (D.out.below c D.out.lt);have HR:=fQ E;have HS:=fQ (c.size);clear c E;obtain⟨G,H,I,J,K⟩:=gJ f.out;have z0:=frz f.out 0;have z1:=frz f.out 1;have z2:=frz f.out 2;have z3:=frz f.out 3;have z4:=frz f.out 4;have L:=f.out.lt;go_wp2;refine bodyPost_ret (v:=.tuple #[.agg #[.slice Y (gX op).length c1,.slice (some ⟨w1.heap.size,0,none⟩) 1 1,.int .u64 0,.int .i64 0,.int .i64 0],.bool true]) (by simp[results,results100,go_sem,L,G,H,I,J,K]) rfl ?_;have Z:=HR.out;rw[<-W.out]at Z;refine⟨_,_,0,0,0,true,gX op,[kW op],rfl,?_,?_,by omega,?_,?_,(fun h=>by cases h),?_⟩
  ·exact(IR.eXr (g:=w.heap.size+1+1) Z (by omega) _ _ _ _ _).alloc _
  ·exact IR.one (x:=kW op) (Blk.newAt _ _ _ (by simp))
  ·intro hf;rw[k.out]at hf;exact .inr (by simp at hf;omega)
  ·intro x hf;rw[k.out]at hf;simp at hf;exact⟨rfl,by omega,hf.2.symm,rfl,rfl⟩
  ·exact(aQa l.out (by omega) _ _ _ _ _).alloc (by simp;exact l.out.size) _
 | none=>
  have F:=fQ (show(fV op).isSome=false by simp[hg]);rw[hg]at hf;have k:=fQ (show iZ e s op n=mY e.mem op n from hf);clear hf hg;go_in;go_wp2_with fail;refine(bWi op _ P Q).mono ?_;rintro X w1 ⟨Y,c1,rfl,E,c⟩;rw[F.out];have l:=fQ (C.out.trans (c.mono C.out.size));have f:=fQ (D.out.below c D.out.lt);have F0:=fQ (U.out.below c U.out.lt);have HZ:=fQ c.size;clear c E;have e4:=F0.out.cell 4;simp at e4;go_wp2_with fail;refine(bYi op e.mem n HN.out _).mono ?_;rintro X w2 ⟨vi,vo,most,a,b,ok,i,o,rfl,M,N,ab,hP,hQ,an,O⟩;obtain⟨Ai,ci,rfl⟩:=M.shape;obtain⟨Ao,co,rfl⟩:=N.shape;have B2:=fQ (l.out.trans (O.mono l.out.size));have j:=fQ (f.out.below O f.out.lt);have au:=fQ M;have av:=fQ N;have HP:=fQ hP;have HQ:=fQ hQ;have HM:=fQ ab;have ao:=fQ (an rfl);clear an O M N hP hQ ab e4;obtain⟨G,H,I,J,K⟩:=gJ j.out;have z0:=frz j.out 0;have z1:=frz j.out 1;have z2:=frz j.out 2;have z3:=frz j.out 3;have z4:=frz j.out 4;have L:=j.out.lt;go_wp2;refine bodyPost_ret (v:=.tuple #[.agg #[.slice Ai i.length ci,.slice Ao o.length co,.int .u64 (most:Int),.int .i64 a,.int .i64 b],.bool ok]) (by simp[results,results100,go_sem,L,G,H,I,J,K]) rfl ?_;have hz:w.heap.size+1+1+1+1<=w1.heap.size:=(by rw[W.out];exact HZ.out);refine⟨_,_,most,a,b,ok,i,o,rfl,?_,?_,HM.out,?_,?_,(fun h=>by cases h),?_⟩
  ·exact IR.eZn au.out ao.out.1 (by omega) _ _ _ _ _
  ·exact IR.eZn av.out ao.out.2 (by omega) _ _ _ _ _
  ·rw[k.out];exact HP.out
  ·rw[k.out];exact HQ.out
  ·exact aQa B2.out (by omega) _ _ _ _ _
theorem bVv(op:Int)(b : -9223372036854775808<=op)(c:op<=9223372036854775807)(e:EnvD)(s:SigD)(a vs:AJ)(n:Nat)(hn:n<18446744073709551616)(w:Ay)(he:EnvV w a e)(hs:SigV w vs s)(d:e.muts.length=e.globals.length):
  AX fZ 100 #[a,vs,.int .i64 op,.int .u64 (n:Int)] w (ShP false (iZ e s op n) n (qK op) (nX op) w):=by
 revert b c
 revert op
 refine cZz (fun _ _=>bVm e s a vs n hn w he hs) (fun _ _=>bVn e s a vs n hn w he hs) (fun _ _=>bVo e s a vs n hn w he hs) (fun _ _=>bVp e s a vs n hn w he hs) (fun _ _=>bVq e s a vs n hn w he hs) (fun _ _=>bVr e s a vs n hn w he hs) (fun _ _=>bVs e s a vs n hn w he hs) (fun _ _=>bVt e s a vs n hn w he hs) (fun _ _=>bYj e s a vs n hn w he hs) (fun _ _=>bYk e s a vs n hn w he hs) (fun _ _=>bYl e s a vs n hn w he hs) (fun _ _=>bYm e s a vs n hn w he hs d) (fun op ho h1 h2=>bVu op h1 h2 ho e s a vs n hn w he hs)
end Go.Proofs.YtabibkpfgmolkaaGreat

/- Lemmas for the claim, part 2. Conditions: none. -/
import Derived.Test.YtabibkpfgmolkaaGreatPk01
import Derived.Shelf.Bits.Mul64
import Derived.Shelf.Slices.Clone
import Derived.Shelf.Slices.In.SortNone
import Derived.Shelf.Slices.SearchI
import Derived.Shelf.Slices.Turned
import Derived.Shelf.SlicesE.Clone
import Derived.Shelf.Small.Bits
import Derived.Shelf.Small.Wraps
import Derived.Shelf.Sort.Plain
set_option maxRecDepth 100000
set_option maxHeartbeats 16000000
set_option linter.unusedVariables false
set_option linter.unusedSimpArgs false
open Go.Lib renaming hid→fQ
open Go.Proofs.Tryz renaming prog→fZ
open Go.Proofs.Tryz
open Go.RowKit
open Nat renaming le_refl→Aj
open List renaming getElem?_eq_getElem→Ax,take_of_length_le→Ak,mem_of_getElem?→Av,take_succ_eq_append_getElem→Aw
open Go.RowKit.Below renaming refl→Az
open Go renaming World→Ay,Value→AJ,Calls→AX
open Go.RowKit renaming Below→AQ
namespace Go.Proofs
open Go.Shelf
def Tryz.fZe:Go.Shelf.Ren:=⟨fun | 122=>56 | 215=>85 | n=>n,fun | 3=>3 | 4=>4 | n=>n,fun | n=>n⟩
theorem Tryz.fXc:Go.Proofs.Lays.n122 fZ Tryz.fZe:={
 mixed:=by kernel_rfl
 f122:=Tryz.func56.trans (congrArg some (by kernel_rfl))
 f215:=Tryz.func85.trans (congrArg some (by kernel_rfl))
 t3:=underlying3
 a3:=isAgg3
 z3:=sizeOf3
 v3:=zeroValue3
 t4:=underlying4
 a4:=isAgg4
 z4:=sizeOf4
 v4:=zeroValue4 }
open Go.RowKit in
theorem Tryz.cmp_Compare_int(x y:Int)(w:Ay):
  AX fZ 56 #[.int .i64 x,.int .i64 y] w fun e w'=>e = .returned (.int .i64 (Lib.compareInt x y))/\w'=w:=Any.cmp_Compare_int Tryz.fXc x y w
def Tryz.fZf:Go.Shelf.Ren:=⟨fun | 189=>77 | 125=>104 | 257=>103 | 128=>134 | 129=>135 | 294=>126 | 295=>127 | 296=>128 | 297=>129 | 298=>130 | 299=>131 | 216=>87 | 300=>132 | 301=>133 | 328=>150 | 329=>151 | 330=>152 | 331=>153 | 332=>154 | 215=>85 | 343=>160 | n=>n,fun | 28=>23 | 3=>3 | 46=>135 | 0=>0 | 51=>161 | 53=>50 | 4=>4 | 183=>185 | 182=>184 | 131=>105 | 5=>5 | 9=>9 | 218=>204 | 222=>208 | 228=>218 | 229=>219 | n=>n,fun | n=>n⟩
theorem Tryz.fQu:Go.Proofs.Lays.n189 fZ Tryz.fZf:={
 mixed:=by kernel_rfl
 f125:=Tryz.func104.trans (congrArg some (by kernel_rfl))
 f128:=Tryz.func134.trans (congrArg some (by kernel_rfl))
 f129:=Tryz.func135.trans (congrArg some (by kernel_rfl))
 f189:=Tryz.func77.trans (congrArg some (by kernel_rfl))
 f215:=Tryz.func85.trans (congrArg some (by kernel_rfl))
 f216:=Tryz.func87.trans (congrArg some (by kernel_rfl))
 f257:=Tryz.func103.trans (congrArg some (by kernel_rfl))
 f294:=Tryz.func126.trans (congrArg some (by kernel_rfl))
 f295:=Tryz.func127.trans (congrArg some (by kernel_rfl))
 f296:=Tryz.func128.trans (congrArg some (by kernel_rfl))
 f297:=Tryz.func129.trans (congrArg some (by kernel_rfl))
 f298:=Tryz.func130.trans (congrArg some (by kernel_rfl))
 f299:=Tryz.func131.trans (congrArg some (by kernel_rfl))
 f300:=Tryz.func132.trans (congrArg some (by kernel_rfl))
 f301:=Tryz.func133.trans (congrArg some (by kernel_rfl))
 f328:=Tryz.func150.trans (congrArg some (by kernel_rfl))
 f329:=Tryz.func151.trans (congrArg some (by kernel_rfl))
 f330:=Tryz.func152.trans (congrArg some (by kernel_rfl))
 f331:=Tryz.func153.trans (congrArg some (by kernel_rfl))
 f332:=Tryz.func154.trans (congrArg some (by kernel_rfl))
 f343:=Tryz.func160.trans (congrArg some (by kernel_rfl))
 t0:=underlying0
 a0:=isAgg0
 z0:=sizeOf0
 v0:=zeroValue0
 t3:=underlying3
 a3:=isAgg3
 z3:=sizeOf3
 v3:=zeroValue3
 t4:=underlying4
 a4:=isAgg4
 z4:=sizeOf4
 v4:=zeroValue4
 t5:=underlying5
 a5:=isAgg5
 z5:=sizeOf5
 v5:=zeroValue5
 t9:=underlying9
 a9:=isAgg9
 z9:=sizeOf9
 v9:=zeroValue9
 t28:=underlying23
 a28:=isAgg23
 z28:=sizeOf23
 v28:=zeroValue23
 t46:=underlying135
 a46:=isAgg135
 z46:=sizeOf135
 v46:=zeroValue135
 t51:=underlying161
 a51:=isAgg161
 z51:=sizeOf161
 v51:=zeroValue161
 t53:=underlying50
 a53:=isAgg50
 z53:=sizeOf50
 v53:=zeroValue50
 t131:=underlying105
 a131:=isAgg105
 z131:=sizeOf105
 v131:=zeroValue105
 t182:=underlying184
 a182:=isAgg184
 z182:=sizeOf184
 v182:=zeroValue184
 t183:=underlying185
 a183:=isAgg185
 z183:=sizeOf185
 v183:=zeroValue185
 t218:=underlying204
 a218:=isAgg204
 z218:=sizeOf204
 v218:=zeroValue204
 t222:=underlying208
 a222:=isAgg208
 z222:=sizeOf208
 v222:=zeroValue208
 t228:=underlying218
 a228:=isAgg218
 z228:=sizeOf218
 v228:=zeroValue218
 t229:=underlying219
 a229:=isAgg219
 z229:=sizeOf219
 v229:=zeroValue219 }
open Go.Sort Go.RowKit in
theorem Tryz.slices_Sort_int(blk off cap:Nat)(a:List Int)(w:Ay)(b:Holds (Value.int .i64) w blk off a.toArray)(c:blk<w.heap.size)(hsz:a.length<4611686018427387904):
  AX fZ 77 #[.slice (some ⟨blk,off,none⟩) a.length cap] w fun e w'=>
   e = .returned (.tuple #[])/\∃ n os,w'=grow (putRow (Value.int .i64) (Sort.ahead w n) blk off (a.mergeSort fun x y=>decide (x<=y)).toArray) os:=Any.slices_Sort_int Tryz.fQu blk off cap a w b c hsz
def Tryz.fZg:Go.Shelf.Ren:=⟨fun | 212=>86 | 263=>112 | 264=>113 | n=>n,fun | 46=>135 | 51=>161 | 146=>162 | 53=>50 | 148=>164 | n=>n,fun | n=>n⟩
theorem Tryz.fXd:Go.Proofs.Lays.n212 fZ Tryz.fZg:={
 mixed:=by kernel_rfl
 f212:=Tryz.func86.trans (congrArg some (by kernel_rfl))
 f263:=Tryz.func112.trans (congrArg some (by kernel_rfl))
 f264:=Tryz.func113.trans (congrArg some (by kernel_rfl))
 t46:=underlying135
 a46:=isAgg135
 z46:=sizeOf135
 v46:=zeroValue135
 t51:=underlying161
 a51:=isAgg161
 z51:=sizeOf161
 v51:=zeroValue161
 t53:=underlying50
 a53:=isAgg50
 z53:=sizeOf50
 v53:=zeroValue50
 t146:=underlying162
 a146:=isAgg162
 z146:=sizeOf162
 v146:=zeroValue162
 t148:=underlying164
 a148:=isAgg164
 z148:=sizeOf164
 v148:=zeroValue164 }
open Go.RowKit Go.Lib in
theorem Tryz.bits_Mul(x y:Nat)(a:x<18446744073709551616)(b:y<18446744073709551616)(w:Ay):
  AX fZ 86 #[.int .u64 x,.int .u64 y] w fun e w'=>e = .returned (.tuple #[.int .u64 ((x*y / 18446744073709551616:Nat):Int),.int .u64 ((x*y % 18446744073709551616:Nat):Int)])/\w'=w:=Any.bits_Mul Tryz.fXd x y a b w
def Tryz.fZh:Go.Shelf.Ren:=⟨fun | 25=>58 | 31=>87 | 32=>88 | 37=>85 | n=>n,fun | 22=>23 | 3=>3 | 4=>4 | 40=>135 | 0=>0 | n=>n,fun | n=>n⟩
theorem Tryz.fXe:Go.Proofs.Lays2.n25 fZ Tryz.fZh:={
 mixed:=by kernel_rfl
 f25:=Tryz.func58.trans (congrArg some (by kernel_rfl))
 f31:=Tryz.func87.trans (congrArg some (by kernel_rfl))
 f32:=Tryz.func88.trans (congrArg some (by kernel_rfl))
 f37:=Tryz.func85.trans (congrArg some (by kernel_rfl))
 t0:=underlying0
 a0:=isAgg0
 z0:=sizeOf0
 v0:=zeroValue0
 t3:=underlying3
 a3:=isAgg3
 z3:=sizeOf3
 v3:=zeroValue3
 t4:=underlying4
 a4:=isAgg4
 z4:=sizeOf4
 v4:=zeroValue4
 t22:=underlying23
 a22:=isAgg23
 z22:=sizeOf23
 v22:=zeroValue23
 t40:=underlying135
 a40:=isAgg135
 z40:=sizeOf135
 v40:=zeroValue135 }
open Go.RowKit Go.Lib in
theorem Tryz.slices_BinarySearch_int(b off n c:Nat)(a:List Int)(x:Int)(w:Ay)(hz:n<=a.length)(d:n<4611686018427387904)(hc:∀ j,j<a.length->w.cell? ⟨b,off+j,none⟩=some (.int .i64 (a.getD j 0)))(hs:(a.take n).Pairwise (· <= ·)):
  AX fZ 58 #[.slice (some ⟨b,off,none⟩) n c,.int .i64 x] w fun e w'=>e = .returned (.tuple #[.int .i64 ((a.take n).countP (· < x):Nat),.bool ((a.take n).contains x)])/\∃ q,w'=w.drewN q:=Any.slices_BinarySearch_int Tryz.fXe b off n c a x w hz d hc hs
open Go.RowKit Go.Sort in
theorem Tryz.slices_Sort_int_none(p:Option Addr)(cap:Nat)(w:Ay):
  AX fZ 77 #[.slice p 0 cap] w fun e w'=>e = .returned (.tuple #[])/\w'=w:=Any.slices_Sort_int_none Tryz.fQu p cap w
end Go.Proofs
namespace Go.Proofs.YtabibkpfgmolkaaGreat
variable {w:Ay}{l:List Int}{g k n base:Nat}{A:Option Addr}{t:TypeId}{v:AJ}{x:Int}
def IR(w:Ay)(v:AJ)(l:List Int):Prop:=∃ A c,v = .slice A l.length c/\Src w A l.length (i64s l)
theorem Ints.ir(h:Ints w v l):IR w v l:=by
 obtain⟨A,c,e,hs,_⟩:=h;exact⟨A,c,e,hs⟩
theorem IR.below{w w':Ay}{B:Nat}{v:AJ}{l:List Int}(h:IR w v l)(a:AQ B w w')(b:w.heap.size<=B):IR w' v l:=by
 obtain⟨A,c,e,hs⟩:=h;exact⟨A,c,e,hs.below a b⟩
theorem IR.nil(w:Ay):IR w (.slice none 0 0) []:=⟨none,0,rfl,Src.nil _ _⟩
theorem IR.drew{w:Ay}{v:AJ}{l:List Int}(h:IR w v l):IR w.drew v l:=h
theorem IR.drewN{w:Ay}{v:AJ}{l:List Int}(h:IR w v l)(n:Nat):IR (w.drewN n) v l:=h
theorem IR.alloc{w:Ay}{v:AJ}{l:List Int}(h:IR w v l)(o:Obj):IR (w.alloc o) v l:=h.below ((Az w.heap.size _).alloc (Aj _) _) (Aj _)
theorem IR.one(h:Blk w g t #[.int .i64 x]):IR w (.slice (some ⟨g,0,none⟩) 1 1) [x]:=⟨_,_,rfl,Blk.fQc (cs:=#[.int .i64 x]) h rfl⟩
theorem Blk.setCell{w:Ay}{g:Nat}{e:TypeId}{cs:Array AJ}(h:Blk w g e cs){p:Addr}(v:AJ)(hp:g≠p.block):Blk (w.setCell p v) g e cs:=(heap_setCell_other w p g v hp).trans h
theorem IR.two{y:Int}(h:Blk w g t #[.int .i64 x,.int .i64 y]):IR w (.slice (some ⟨g,0,none⟩) 2 2) [x,y]:=⟨_,_,rfl,Blk.fQc (cs:=#[.int .i64 x,.int .i64 y]) h rfl⟩
theorem IR.three{y z:Int}(h:Blk w g t #[.int .i64 x,.int .i64 y,.int .i64 z]):IR w (.slice (some ⟨g,0,none⟩) 3 3) [x,y,z]:=⟨_,_,rfl,Blk.fQc (cs:=#[.int .i64 x,.int .i64 y,.int .i64 z]) h rfl⟩
theorem IR.setCell{w:Ay}{v:AJ}{l:List Int}(h:IR w v l){p:Addr}(u:AJ)(hp:∀ A n c,v = .slice A n c->∀ a,A=some a->a.block≠p.block):IR (w.setCell p u) v l:=by
 obtain⟨A,c,e,hs⟩:=h;exact⟨A,c,e,hs.setCell u (hp _ _ _ e)⟩
theorem IR.of{c:Nat}(h:Src w A n (i64s l))(hn:l.length=n):IR w (.slice A n c) l:=by
 subst hn;exact⟨A,c,rfl,h⟩
def SigV(w:Ay)(v:AJ)(s:SigD):Prop:=∃ a b,v = .agg #[a,b]/\Ints w a s.inn/\Ints w b s.out
def EnvV(w:Ay)(v:AJ)(e:EnvD):Prop:=∃ a b d,v = .agg #[a,.int .i64 e.imports,b,d,.bool e.mem]/\Structs 2 SigC w a e.sigs/\Ints w b e.globals/\Bools w d e.muts
def CodeV(w:Ay)(v:AJ)(c:CodeD):Prop:=∃ a b d,v = .agg #[.int .i64 c.op,.int .u64 (c.n:Int),a,b,d]/\c.ok/\Ints w a c.args/\Ints w b c.outs/\Ints w d c.to
def RowV(w:Ay)(v:AJ)(x:RowD):Prop:=∃ a b p d,v = .agg #[a,b,.int .i64 x.places,p,d]/\Ints w a x.sig.inn/\Ints w b x.sig.out/\Ints w p x.params/\Structs 5 CodeC w d x.code
theorem SigV.below{w w':Ay}{B:Nat}{r:AJ}{s:SigD}(h:SigV w r s)(c:AQ B w w')(d:w.heap.size<=B):SigV w' r s:=by
 obtain⟨a,b,e,h1,h2⟩:=h;exact⟨a,b,e,h1.below c d,h2.below c d⟩
theorem CodeV.below{w w':Ay}{B:Nat}{r:AJ}{c:CodeD}(h:CodeV w r c)(f:AQ B w w')(g:w.heap.size<=B):CodeV w' r c:=by
 obtain⟨a,b,d,e,i,h1,h2,j⟩:=h;exact⟨a,b,d,e,i,h1.below f g,h2.below f g,j.below f g⟩
theorem EnvV.below{w w':Ay}{B:Nat}{r:AJ}{e:EnvD}(h:EnvV w r e)(c:AQ B w w')(f:w.heap.size<=B):EnvV w' r e:=by
 obtain⟨a,b,d,e',h1,h2,g⟩:=h;exact⟨a,b,d,e',h1.below c f (fun r x q=>q.below c f),h2.below c f,g.below c f⟩
theorem RowV.below{w w':Ay}{B:Nat}{r:AJ}{x:RowD}(h:RowV w r x)(c:AQ B w w')(e:w.heap.size<=B):RowV w' r x:=by
 obtain⟨a,b,p,d,e',h1,h2,f,g⟩:=h;exact⟨a,b,p,d,e',h1.below c e,h2.below c e,f.below c e,g.below c e (fun r x q=>q.below c e)⟩
def isK(t:Int):Bool:=t == 127 || t == 126
def kK(m:Nat)(l:List Int):Bool:=decide (l.length<=m) && l.all isK
def sigOk(s:SigD):Bool:=kK 8 s.inn && kK 8 s.out
def envOk(e:EnvD):Bool:=decide (e.sigs.length<=64/\0<=e.imports/\e.imports<=e.sigs.length/\e.muts.length=e.globals.length) && (kK 32 e.globals && e.sigs.all sigOk)
def nZ(m:Bool)(op:Int)(n:Nat):Option (List Int×List Int):=
 if m=false then none
 else if op=257 then if n<=8589934592 then some ([127],[])else none
 else match acc op with
  | some (k,_,st,_)=>if n<=4294967295 then some (if st then([127,k],[])else([127],[k]))else none
  | none=>if op=63 then if n=0 then some ([],[127])else none else if op=64 then if n=0 then some ([127],[127])else none else none
def iX(e:EnvD)(s:SigD)(op:Int)(n:Nat):Option (List Int×List Int):=
 if op=256 then some ([],[0])
 else if op=272 then if n=0 then some ([0],[0])else none
 else if op=273\/op=277\/op=258 then if n=0 then some ([],[])else none
 else if op=274\/op=275 then if n=0 then some ([127],[])else none
 else if op=276 then if n=0 then some (s.out,[])else none
 else if op=27 then if n=0 then some ([0,0,127],[0])else none
 else if op=16 then(e.sigs[n]?).map fun g=>(g.inn,g.out)
 else if op=35 then(e.globals[n]?).map fun g=>([],[g])
 else if op=36 then match e.globals[n]?,e.muts[n]? with
  | some g,some true=>some ([g],[])
  | _,_=>none
 else if(fY op).isSome then if n=0 then some (gJ op,[kW op])else none
 else nZ e.mem op n
def sX(op:Int):Int:=if op=273\/op=274\/op=275 then 1 else 0
def nJ(op:Int):Int:=if op=273\/op=274 then 1 else if op=275 then 65 else 0
def within(n:Int)(l:List Int):Bool:=l.all fun x=>decide (0<=x/\x<n)
def codeOk(e:EnvD)(r:RowD)(c:CodeD):Bool:=match iX e r.sig c.op c.n with
 | none=>false
 | some (i,o)=>decide (c.args.length=i.length/\c.outs.length=o.length/\sX c.op<=c.to.length/\(c.to.length:Int)<=nJ c.op) && (within r.places c.args && (within r.places c.outs && (decide c.outs.Nodup && within r.code.length c.to)))
def nextOf(c:CodeD)(i:Nat):List Int:=
 if c.op=276\/c.op=277 then[]else if c.op=273\/c.op=275 then c.to else if c.op=274 then[(i:Int)+1,c.to.headD 0]else[(i:Int)+1]
def Ranked(r:RowD):Prop:=∃ rk:Nat->Nat,∀ i c (k:Nat),r.code[i]? = some c->c.op≠258->(k:Int)∈nextOf c i->rk k<rk i
structure CheckP (e:EnvD) (r:RowD):Prop where
 env:envOk e=true
 sig:sigOk r.sig=true
 n1:1<=r.code.length
 n2:r.code.length<=4096
 p1:0<=r.places
 p2:r.places<=4096
 par:r.params.length=r.sig.inn.length
 pin:within r.places r.params=true
 pun:r.params.Nodup
 code:∀ c∈r.code,codeOk e r c=true
 first:∀ c,r.code[0]? = some c->c.op=258
 last:∀ c,r.code[r.code.length - 1]? = some c->c.op=273\/c.op=275\/c.op=276\/c.op=277
 rank:Ranked r
inductive Live (r:RowD):Nat->Int->Prop
 | arg {i:Nat} {c:CodeD} {p:Int}:r.code[i]? = some c->p∈c.args->Live r i p
 | step {i k:Nat} {c:CodeD} {p:Int}:r.code[i]? = some c->(k:Int)∈nextOf c i->Live r k p->p ∉ c.outs->Live r i p
def LiveB(r:RowD)(i:Nat)(p:Int):Prop:=∃ c,r.code[i]? = some c/\∃ k:Nat,(k:Int)∈nextOf c i/\Live r k p
def IsSet(l:List Int)(P:Int->Prop):Prop:=l.Pairwise (· < ·)/\∀ x,x∈l↔P x
theorem IsSet.one{m:List Int}{P:Int->Prop}(h:IsSet l P)(k:IsSet m P):l=m:=by
 have hp:l.Perm m:=by
  rw[List.perm_iff_count];have n1:l.Nodup:=h.1.imp (fun h=>by omega);have n2:m.Nodup:=k.1.imp (fun h=>by omega);intro a;rw[n1.count,n2.count];by_cases ha:a∈l
  ·rw[if_pos ha,if_pos ((k.2 a).2 ((h.2 a).1 ha))]
  ·rw[if_neg ha,if_neg (fun c=>ha ((h.2 a).2 ((k.2 a).1 c)))]
 exact hp.eq_of_pairwise (le:=fun a b=>a<=b) (fun a b _ _ h1 h2=>by omega) (h.1.imp (fun h=>by omega)) (k.1.imp (fun h=>by omega))
theorem aVo{α:Type}{l:List α}{p:α}{q:α->Bool}(h:l[k]? = some p)(h1:(l.take k).any q=false)(h2:q p=false):(l.take (k+1)).any q=false:=by
 obtain⟨a,e⟩:=List.getElem?_eq_some_iff.1 h;rw[Aw a,e,List.any_append,h1];simp[h2]
theorem aYo{α:Type}{l:List α}{p:α}{q:α->Bool}(h:l[k]? = some p)(h2:q p=true):l.any q=true:=List.any_eq_true.2 ⟨p,Av h,h2⟩
theorem IR.cell{w:Ay}{A:Option Addr}{n c:Nat}{l:List Int}(h:IR w (.slice A n c) l){k:Nat}{x:Int}(d:l[k]? = some x):∃ b o,A=some ⟨b,o,none⟩/\b<w.heap.size/\w.cell? ⟨b,o+k,none⟩=some (.int .i64 x):=by
 obtain⟨A',c',e,hs⟩:=h;injection e with f e2 e3;subst f;obtain⟨a,e⟩:=List.getElem?_eq_some_iff.1 d;obtain⟨b,o,rfl,g⟩:=hs.addr (by omega);have:=hs.at_ (k:=k) a;rw[aKp a,e]at this;exact⟨b,o,rfl,g,this⟩
theorem IR.len{c:Nat}(h:IR w (.slice A n c) l):n=l.length:=by
 obtain⟨A',c',e,hs⟩:=h;injection e
theorem Structs.sig{c:Nat}{l:List SigD}(h:Structs 2 SigC w (.slice A n c) l){x:SigD}(a:l[k]? = some x):
  ∃ b o p q,A=some ⟨b,o,none⟩/\b<w.heap.size/\w.cell? ⟨b,o+k*2,none⟩=some p/\w.cell? ⟨b,o+k*2+1,none⟩=some q/\Ints w p x.inn/\Ints w q x.out:=by
 obtain⟨b,o,c',r,e,d,hr,⟨p,q,rfl,h1,h2⟩,hc⟩:=h.at (by omega) a;injection e with f e2 e3;exact⟨b,o,p,q,f,d,hc 0 p rfl,hc 1 q rfl,h1,h2⟩
theorem Structs.code{c:Nat}{l:List CodeD}(h:Structs 5 CodeC w (.slice A n c) l){x:CodeD}(a:l[k]? = some x):
  ∃ b o p q r,A=some ⟨b,o,none⟩/\b<w.heap.size/\w.cell? ⟨b,o+k*5,none⟩=some (.int .i64 x.op)/\w.cell? ⟨b,o+k*5+1,none⟩=some (.int .u64 (x.n:Int))/\w.cell? ⟨b,o+k*5+2,none⟩=some p/\w.cell? ⟨b,o+k*5+3,none⟩=some q/\w.cell? ⟨b,o+k*5+4,none⟩=some r /\
   x.ok/\Ints w p x.args/\Ints w q x.outs/\Ints w r x.to:=by
 obtain⟨b,o,c',rr,e,d,hr,⟨p,q,r,rfl,f,h1,h2,g⟩,hc⟩:=h.at (by omega) a;injection e with i e2 e3;exact⟨b,o,p,q,r,i,d,hc 0 _ rfl,hc 1 _ rfl,hc 2 _ rfl,hc 3 _ rfl,hc 4 _ rfl,f,h1,h2,g⟩
theorem Structs.fQb{α:Type}{R:Ay->List AJ->α->Prop}{c:Nat}{l:List α}(h:Structs k R w (.slice A n c) l):n=l.length/\n<=c/\n<=140737488351232/\c<=9223372036854775807:=by
 obtain⟨A',c',e,h1,h2⟩:=h.len;injection e with e1 e2 a;subst e2;subst a;exact⟨rfl,h1,h2⟩
theorem Ints.fQb{c:Nat}(h:Ints w (.slice A n c) l):n=l.length/\n<=c/\n<=17592186043904/\c<=9223372036854775807:=by
 obtain⟨A',c',e,hs,h1,h2,h3⟩:=h;injection e with e1 e2 a;subst a;exact⟨e2,by omega,by omega,by omega⟩
theorem Ints.shape(h:Ints w v l):∃ A c,v = .slice A l.length c:=by
 obtain⟨A,c,e,_⟩:=h;exact⟨A,c,e⟩
theorem IR.shape(h:IR w v l):∃ A c,v = .slice A l.length c:=by
 obtain⟨A,c,e,_⟩:=h;exact⟨A,c,e⟩
theorem bJg{α:Type}(l:List α)(p:α->Bool):(!(l.any fun x=>!p x))=l.all p:=by
 induction l with
 | nil=>rfl
 | cons a l b=>simp only[List.any_cons,List.all_cons,Bool.not_or,Bool.not_not,b]
theorem bVo(A:Option Addr)(n c:Nat)(l:List Int)(Q:Int->Bool)(w:Ay)(hs:IR w (.slice A n c) l)(hm:n<=9223372036854775807)
  (hq:∀ x∈l,∀ v w',AQ w.heap.size w w'->v = .int .i64 x->AX fZ 105 #[v] w' fun e t=>e = .returned (.bool (Q x))/\AQ w'.heap.size w' t) :
  AX fZ 123 #[.slice A n c,.func (.func 105) #[] #[]] w fun e w'=>∃ r:Int,e = .returned (.int .i64 r)/\decide (0<=r)=l.any Q/\AQ w.heap.size w w':=by
 have j:=hs.len;have u:=fQ hs;have m:=fQ j;have y:=fQ hq;clear hs hq j;go_in;go_wp2;go_loopw [8] (fun i wr=>∃ k:Nat,k<=n/\i = .int .i64 k/\Hid ((l.take k).any Q=false)/\Hid (AQ w.heap.size w wr)) (fun i _=>n - (intOf i).toNat)
 case atStart=>exact⟨0,by omega,rfl,fQ rfl,fQ (Az _ _)⟩
 case round=>
  obtain⟨k,hk,rfl,o,a⟩:=hrel;by_cases z:k<n
  ·have B:decide ((k:Int)<n)=true:=(by simp;omega);have ah:(k:Int)<n:=(by omega);obtain⟨x,f⟩:∃ x,l[k]? = some x:=⟨_,Ax (by rw[<-m.out];exact z)⟩;obtain⟨ab,ao,rfl,hab,hcl⟩:=(u.out.below a.out (Aj _)).cell f;have p:=fQ f;have q:=a.out.size;have s:=fQ (y.out x (Av f));clear f
   cases g:Q x with
   | true=>
    have b:=fQ g;clear g;go_wp2_with fail;refine(s.out _ _ a.out rfl).mono ?_;rintro e w1 ⟨rfl,d⟩;rw[b.out];have h:=fQ (a.out.trans (d.mono q));clear d;go_wp2;go_ret;exact⟨k,rfl,by rw[aYo p.out b.out];simp,h.out⟩
   | false=>
    have b:=fQ g;clear g;go_wp2_with fail;refine(s.out _ _ a.out rfl).mono ?_;rintro e w1 ⟨rfl,d⟩;rw[b.out];have h:=fQ (a.out.trans (d.mono q));clear d;go_wp2;exact⟨⟨k+1,by omega,by simp,fQ (aVo p.out o.out b.out),h⟩,by simp[intOf];omega⟩
  ·have B:decide ((k:Int)<n)=false:=(by simp;omega);go_wp2;go_ret;refine⟨-1,rfl,?_,a.out⟩;have:=o.out;rw[Ak (by rw[<-m.out];omega)]at this;rw[this];rfl
theorem bVp(A:Option Addr)(n c:Nat)(l:List Int)(Q:Int->Bool)(w:Ay)(hs:IR w (.slice A n c) l)(b:n<=9223372036854775807)
  (hq:∀ x∈l,∀ v w',AQ w.heap.size w w'->v = .int .i64 x->AX fZ 105 #[v] w' fun e d=>e = .returned (.bool (Q x))/\AQ w'.heap.size w' d) :
  AX fZ 97 #[.slice A n c,.func (.func 105) #[] #[]] w fun e w'=>e = .returned (.bool (l.any Q))/\AQ w.heap.size w w':=by
 have f:=fQ hs;have g:=fQ hq;clear hs hq;go_in;go_wp2_with fail;refine(bVo A n c l Q _ f.out b g.out).mono ?_;rintro e w1 ⟨r,rfl,hr,a⟩;have h:=fQ hr;have i:=fQ a;clear hr a;go_wp2;go_ret;exact⟨by rw[<-h.out];rfl,i.out⟩
theorem bJh(A:Option Addr)(n c:Nat)(l:List Int)(Q:Int->Bool)(j:Nat)(w:Ay)(hs:IR w (.slice A n c) l)(hm:n<=9223372036854775807)
  (hq:∀ x∈l,∀ v w',AQ w.heap.size w w'->v = .int .i64 x->AX fZ 98 #[v,.pointer (some ⟨j,0,none⟩)] w' fun e u=>e = .returned (.bool (Q x))/\AQ w'.heap.size w' u) :
  AX fZ 123 #[.slice A n c,.func (.func 98) #[] #[.pointer (some ⟨j,0,none⟩)]] w fun e w'=>∃ r:Int,e = .returned (.int .i64 r)/\decide (0<=r)=l.any Q/\AQ w.heap.size w w':=by
 have m:=hs.len;have y:=fQ hs;have o:=fQ m;have z:=fQ hq;clear hs hq m;go_in;go_wp2;go_loopw [8] (fun i wr=>∃ k:Nat,k<=n/\i = .int .i64 k/\Hid ((l.take k).any Q=false)/\Hid (AQ w.heap.size w wr)) (fun i _=>n - (intOf i).toNat)
 case atStart=>exact⟨0,by omega,rfl,fQ rfl,fQ (Az _ _)⟩
 case round=>
  obtain⟨k,hk,rfl,p,a⟩:=hrel;by_cases B:k<n
  ·have C:decide ((k:Int)<n)=true:=(by simp;omega);have ah:(k:Int)<n:=(by omega);obtain⟨x,f⟩:∃ x,l[k]? = some x:=⟨_,Ax (by rw[<-o.out];exact B)⟩;obtain⟨ab,ao,rfl,hab,hcl⟩:=(y.out.below a.out (Aj _)).cell f;have q:=fQ f;have s:=a.out.size;have t:=fQ (z.out x (Av f));clear f
   cases g:Q x with
   | true=>
    have b:=fQ g;clear g;go_wp2_with fail;refine(t.out _ _ a.out rfl).mono ?_;rintro e w1 ⟨rfl,d⟩;rw[b.out];have h:=fQ (a.out.trans (d.mono s));clear d;go_wp2;go_ret;exact⟨k,rfl,by rw[aYo q.out b.out];simp,h.out⟩
   | false=>
    have b:=fQ g;clear g;go_wp2_with fail;refine(t.out _ _ a.out rfl).mono ?_;rintro e w1 ⟨rfl,d⟩;rw[b.out];have h:=fQ (a.out.trans (d.mono s));clear d;go_wp2;exact⟨⟨k+1,by omega,by simp,fQ (aVo q.out p.out b.out),h⟩,by simp[intOf];omega⟩
  ·have C:decide ((k:Int)<n)=false:=(by simp;omega);go_wp2;go_ret;refine⟨-1,rfl,?_,a.out⟩;have:=p.out;rw[Ak (by rw[<-o.out];omega)]at this;rw[this];rfl
theorem bJi(A:Option Addr)(n c:Nat)(l:List Int)(Q:Int->Bool)(a:Nat)(w:Ay)(hs:IR w (.slice A n c) l)(d:n<=9223372036854775807)
  (hq:∀ x∈l,∀ v w',AQ w.heap.size w w'->v = .int .i64 x->AX fZ 98 #[v,.pointer (some ⟨a,0,none⟩)] w' fun e f=>e = .returned (.bool (Q x))/\AQ w'.heap.size w' f) :
  AX fZ 97 #[.slice A n c,.func (.func 98) #[] #[.pointer (some ⟨a,0,none⟩)]] w fun e w'=>e = .returned (.bool (l.any Q))/\AQ w.heap.size w w':=by
 have g:=fQ hs;have h:=fQ hq;clear hs hq;go_in;go_wp2_with fail;refine(bJh A n c l Q a _ g.out d h.out).mono ?_;rintro e w1 ⟨r,rfl,hr,b⟩;have i:=fQ hr;have j:=fQ b;clear hr b;go_wp2;go_ret;exact⟨by rw[<-i.out];rfl,j.out⟩
theorem bXe(A:Option Addr)(n c:Nat)(l:List SigD)(Q:SigD->Bool)(w:Ay)(hs:Structs 2 SigC w (.slice A n c) l)(hm:n<=9223372036854775807)
  (hq:∀ x∈l,∀ v w',AQ w.heap.size w w'->SigV w' v x->AX fZ 80 #[v] w' fun e B=>e = .returned (.bool (Q x))/\AQ w'.heap.size w' B) :
  AX fZ 107 #[.slice A n c,.func (.func 80) #[] #[]] w fun e w'=>∃ r:Int,e = .returned (.int .i64 r)/\decide (0<=r)=l.any Q/\AQ w.heap.size w w':=by
 obtain⟨m,ai,af⟩:=hs.fQb;have C:=fQ hs;have o:=fQ m;have D:=fQ hq;clear hs hq m;go_in;go_wp2;go_loopw [8] (fun i wr=>∃ k:Nat,k<=n/\i = .int .i64 k/\Hid ((l.take k).any Q=false)/\Hid (AQ w.heap.size w wr)) (fun i _=>n - (intOf i).toNat)
 case atStart=>exact⟨0,by omega,rfl,fQ rfl,fQ (Az _ _)⟩
 case round=>
  obtain⟨k,hk,rfl,s,a⟩:=hrel;by_cases E:k<n
  ·have F:decide ((k:Int)<n)=true:=(by simp;omega);have ak:(k:Int)<n:=(by omega);obtain⟨x,f⟩:∃ x,l[k]? = some x:=⟨_,Ax (by rw[<-o.out];exact E)⟩;obtain⟨ab,ao,p,q,rfl,hab,c0,c1,s0,s1⟩:=(C.out.below a.out (Aj _) (fun _ _ h=>h.below a.out (Aj _))).sig f;obtain⟨pA,pc,rfl⟩:=s0.shape;obtain⟨qA,qc,rfl⟩:=s1.shape;have t:=fQ (show SigV wr (.agg #[_,_]) x from⟨_,_,rfl,s0,s1⟩);clear s0 s1;have u:=fQ f;have y:=a.out.size;have z:=fQ (D.out x (Av f));clear f
   cases g:Q x with
   | true=>
    have b:=fQ g;clear g;go_wp2_with fail;refine(z.out _ _ a.out t.out).mono ?_;rintro e w1 ⟨rfl,d⟩;rw[b.out];have j:=fQ (a.out.trans (d.mono y));clear d;go_wp2;go_ret;exact⟨k,rfl,by rw[aYo u.out b.out];simp,j.out⟩
   | false=>
    have b:=fQ g;clear g;go_wp2_with fail;refine(z.out _ _ a.out t.out).mono ?_;rintro e w1 ⟨rfl,d⟩;rw[b.out];have j:=fQ (a.out.trans (d.mono y));clear d;go_wp2;exact⟨⟨k+1,by omega,by simp,fQ (aVo u.out s.out b.out),j⟩,by simp[intOf];omega⟩
  ·have F:decide ((k:Int)<n)=false:=(by simp;omega);go_wp2;go_ret;refine⟨-1,rfl,?_,a.out⟩;have:=s.out;rw[Ak (by rw[<-o.out];omega)]at this;rw[this];rfl
theorem bXf(A:Option Addr)(n c:Nat)(l:List SigD)(Q:SigD->Bool)(w:Ay)(hs:Structs 2 SigC w (.slice A n c) l)(b:n<=9223372036854775807)
  (hq:∀ x∈l,∀ v w',AQ w.heap.size w w'->SigV w' v x->AX fZ 80 #[v] w' fun e d=>e = .returned (.bool (Q x))/\AQ w'.heap.size w' d) :
  AX fZ 79 #[.slice A n c,.func (.func 80) #[] #[]] w fun e w'=>e = .returned (.bool (l.any Q))/\AQ w.heap.size w w':=by
 have f:=fQ hs;have g:=fQ hq;clear hs hq;go_in;go_wp2_with fail;refine(bXe A n c l Q _ f.out b g.out).mono ?_;rintro e w1 ⟨r,rfl,hr,a⟩;have h:=fQ hr;have i:=fQ a;clear hr a;go_wp2;go_ret;exact⟨by rw[<-h.out];rfl,i.out⟩
theorem bVq(A:Option Addr)(n c:Nat)(l:List CodeD)(Q:CodeD->Bool)(m o:Nat)(w:Ay)(hs:Structs 5 CodeC w (.slice A n c) l)(hm:n<=9223372036854775807)
  (hq:∀ x∈l,∀ v w',AQ w.heap.size w w'->CodeV w' v x->AX fZ 73 #[v,.pointer (some ⟨m,0,none⟩),.pointer (some ⟨o,0,none⟩)] w' fun e D=>e = .returned (.bool (Q x))/\AQ w'.heap.size w' D) :
  AX fZ 99 #[.slice A n c,.func (.func 73) #[] #[.pointer (some ⟨m,0,none⟩),.pointer (some ⟨o,0,none⟩)]] w fun e w'=>∃ r:Int,e = .returned (.int .i64 r)/\decide (0<=r)=l.any Q/\AQ w.heap.size w w':=by
 obtain⟨s,ai,af⟩:=hs.fQb;have E:=fQ hs;have t:=fQ s;have F:=fQ hq;clear hs hq s;go_in;go_wp2;go_loopw [8] (fun i wr=>∃ k:Nat,k<=n/\i = .int .i64 k/\Hid ((l.take k).any Q=false)/\Hid (AQ w.heap.size w wr)) (fun i _=>n - (intOf i).toNat)
 case atStart=>exact⟨0,by omega,rfl,fQ rfl,fQ (Az _ _)⟩
 case round=>
  obtain⟨k,hk,rfl,u,a⟩:=hrel;by_cases G:k<n
  ·have H:decide ((k:Int)<n)=true:=(by simp;omega);have ak:(k:Int)<n:=(by omega);obtain⟨x,f⟩:∃ x,l[k]? = some x:=⟨_,Ax (by rw[<-t.out];exact G)⟩;obtain⟨ab,ao,p,q,r,rfl,hab,c0,c1,c2,c3,c4,s0,s1,s2,s3⟩:=(E.out.below a.out (Aj _) (fun _ _ h=>h.below a.out (Aj _))).code f;obtain⟨pA,pc,rfl⟩:=s1.shape;obtain⟨qA,qc,rfl⟩:=s2.shape;obtain⟨rA,rc,rfl⟩:=s3.shape;have y:=fQ (show CodeV wr (.agg #[.int .i64 x.op,.int .u64 (x.n:Int),_,_,_]) x from⟨_,_,_,rfl,s0,s1,s2,s3⟩);clear s0 s1 s2 s3;have z:=fQ f;have B:=a.out.size;have C:=fQ (F.out x (Av f));clear f
   cases g:Q x with
   | true=>
    have b:=fQ g;clear g;go_wp2_with fail;refine(C.out _ _ a.out y.out).mono ?_;rintro e w1 ⟨rfl,d⟩;rw[b.out];have j:=fQ (a.out.trans (d.mono B));clear d;go_wp2;go_ret;exact⟨k,rfl,by rw[aYo z.out b.out];simp,j.out⟩
   | false=>
    have b:=fQ g;clear g;go_wp2_with fail;refine(C.out _ _ a.out y.out).mono ?_;rintro e w1 ⟨rfl,d⟩;rw[b.out];have j:=fQ (a.out.trans (d.mono B));clear d;go_wp2;exact⟨⟨k+1,by omega,by simp,fQ (aVo z.out u.out b.out),j⟩,by simp[intOf];omega⟩
  ·have H:decide ((k:Int)<n)=false:=(by simp;omega);go_wp2;go_ret;refine⟨-1,rfl,?_,a.out⟩;have:=u.out;rw[Ak (by rw[<-t.out];omega)]at this;rw[this];rfl
theorem bVr(A:Option Addr)(n c:Nat)(l:List CodeD)(Q:CodeD->Bool)(a b:Nat)(w:Ay)(hs:Structs 5 CodeC w (.slice A n c) l)(f:n<=9223372036854775807)
  (hq:∀ x∈l,∀ v w',AQ w.heap.size w w'->CodeV w' v x->AX fZ 73 #[v,.pointer (some ⟨a,0,none⟩),.pointer (some ⟨b,0,none⟩)] w' fun e g=>e = .returned (.bool (Q x))/\AQ w'.heap.size w' g) :
  AX fZ 72 #[.slice A n c,.func (.func 73) #[] #[.pointer (some ⟨a,0,none⟩),.pointer (some ⟨b,0,none⟩)]] w fun e w'=>e = .returned (.bool (l.any Q))/\AQ w.heap.size w w':=by
 have h:=fQ hs;have i:=fQ hq;clear hs hq;go_in;go_wp2_with fail;refine(bVq A n c l Q a b _ h.out f i.out).mono ?_;rintro e w1 ⟨r,rfl,hr,d⟩;have j:=fQ hr;have k:=fQ d;clear hr d;go_wp2;go_ret;exact⟨by rw[<-j.out];rfl,k.out⟩
theorem cKg(t:Int)(w:Ay):AX fZ 106 #[.int .i64 t] w fun e w'=>e = .returned (.bool (isK t))/\w=w':=by
 cases h1:(t == 127)with
 | true=>
  have a:=fQ (show isK t=true by simp[isK,h1]);go_in;go_wp2;go_ret;exact⟨by rw[a.out];rfl,rfl⟩
 | false=>
  have a:=fQ (show isK t=(t == 126) by simp only[isK,h1,Bool.false_or]);go_in;go_wp2;go_ret;exact⟨by rw[a.out];rfl,rfl⟩
theorem cKh(t:Int)(w:Ay):AX fZ 105 #[.int .i64 t] w fun e w'=>e = .returned (.bool (!isK t))/\AQ w.heap.size w w':=by
 go_in;go_wp2_with fail;refine(cKg _ _).mono ?_;rintro e w1 ⟨rfl,rfl⟩;go_wp2;go_ret;exact⟨rfl,Az _ _⟩
theorem aXx(m:Nat)(a:Int)(d:a=m)(v:AJ)(l:List Int)(w:Ay)(hs:IR w v l)(g:l.length<=9223372036854775807):
  AX fZ 78 #[.int .i64 a,v] w fun e w'=>e = .returned (.bool (kK m l))/\AQ w.heap.size w w':=by
 obtain⟨A,c,rfl⟩:=hs.shape;have i:=fQ hs;clear hs;by_cases h:l.length<=m
 ·have j:decide ((l.length:Int)<=a)=true:=(by simp;omega);have b:=fQ (show kK m l = !(l.any fun x=>!isK x) by rw[bJg];simp[kK,h]);clear h d;go_in;go_wp2_with fail;refine(bVp A l.length c l (fun x=>!isK x) _ i.out g (fun x hx v w' hb e=>by subst e;exact cKh x w')).mono ?_;rintro e w1 ⟨rfl,f⟩;have k:=fQ f;clear f;go_wp2;go_ret;exact⟨by rw[b.out];rfl,k.out⟩
 ·have j:decide ((l.length:Int)<=a)=false:=(by simp;omega);have b:=fQ (show kK m l=false by simp[kK,h]);clear h d;go_in;go_wp2;go_ret;exact⟨by rw[b.out];rfl,Az _ _⟩
theorem bYc(v:AJ)(s:SigD)(w:Ay)(hs:SigV w v s):
  AX fZ 81 #[v] w fun e w'=>e = .returned (.bool (sigOk s))/\AQ w.heap.size w w':=by
 obtain⟨a,b,rfl,hi,d⟩:=hs;obtain⟨l,ci,rfl⟩:=hi.shape;obtain⟨m,n,rfl⟩:=d.shape;have ai:=hi.fQb;have aj:=d.fQb;have B0:=fQ (show AQ w.heap.size w (w.alloc (.cells #[.slice l s.inn.length ci,.slice m s.out.length n] 40))from(Az _ _).alloc (Aj _) _);have o:=fQ (hi.ir.below B0.out (Aj _));have r:=fQ (d.ir.below B0.out (Aj _));have f:=Blk.new w 40 #[.slice l s.inn.length ci,.slice m s.out.length n];have p:=fQ f;have t:=f.cell 0;have c1:=f.cell 1;simp at t c1;clear hi d f
 cases h:kK 8 s.inn with
 | true=>
  have i:=fQ h;have j:=fQ (show sigOk s=kK 8 s.out by simp only[sigOk,h,Bool.true_and]);clear h;go_in;go_wp2_with fail;refine(aXx 8 8 rfl _ s.inn _ o.out (by omega)).mono ?_;rintro e w1 ⟨rfl,c⟩;rw[i.out];have g:=fQ (B0.out.trans (c.mono B0.out.size));have u:=fQ (r.out.below c (Aj _));have k:=p.out.below c p.out.lt;have x:=k.cell 0;have y:=k.cell 1;simp at x y;clear c k;go_wp2_with fail;refine(aXx 8 8 rfl _ s.out _ u.out (by omega)).mono ?_;rintro e w2 ⟨rfl,q⟩;have z:=fQ (g.out.trans (q.mono g.out.size));clear q;go_wp2;go_ret;exact⟨by rw[j.out];rfl,z.out⟩
 | false=>
  have i:=fQ h;have j:=fQ (show sigOk s=false by simp only[sigOk,h,Bool.false_and]);clear h;go_in;go_wp2_with fail;refine(aXx 8 8 rfl _ s.inn _ o.out (by omega)).mono ?_;rintro e w1 ⟨rfl,c⟩;rw[i.out];have g:=fQ (B0.out.trans (c.mono B0.out.size));clear c;go_wp2;go_ret;exact⟨by rw[j.out];rfl,g.out⟩
theorem bVs(v:AJ)(s:SigD)(w:Ay)(hs:SigV w v s):
  AX fZ 80 #[v] w fun e w'=>e = .returned (.bool (!sigOk s))/\AQ w.heap.size w w':=by
 have d:=fQ hs;obtain⟨a,b,rfl,_⟩:=hs;have B0:=fQ (show AQ w.heap.size w (w.alloc (.cells #[a,b] 40))from(Az _ _).alloc (Aj _) _);have f:=fQ (d.out.below B0.out (Aj _));go_in;go_wp2_with fail;refine(bYc _ s _ f.out).mono ?_;rintro e w1 ⟨rfl,c⟩;have g:=fQ (B0.out.trans (c.mono B0.out.size));clear c;go_wp2;go_ret;exact⟨rfl,g.out⟩
theorem bKk(e:EnvD):(decide (e.imports<0)=true/\envOk e=false)\/(decide (e.imports<0)=false/\decide ((e.sigs.length:Int)<e.imports)=true/\envOk e=false) \/
  (decide (e.imports<0)=false/\decide ((e.sigs.length:Int)<e.imports)=false/\decide (64<(e.sigs.length:Int))=true/\envOk e=false) \/
  (decide (e.imports<0)=false/\decide ((e.sigs.length:Int)<e.imports)=false/\decide (64<(e.sigs.length:Int))=false/\((e.muts.length:Int) != (e.globals.length:Int))=true/\(e.muts.length != e.globals.length)=true/\envOk e=false) \/
  (decide (e.imports<0)=false/\decide ((e.sigs.length:Int)<e.imports)=false/\decide (64<(e.sigs.length:Int))=false/\((e.muts.length:Int) != (e.globals.length:Int))=false/\(e.muts.length != e.globals.length)=false/\envOk e=(kK 32 e.globals && e.sigs.all sigOk)):=by
 by_cases h1:e.imports<0
 ·refine .inl ⟨by simpa using h1,?_⟩;simp only[envOk];rw[decide_eq_false (by omega)];rfl
 by_cases h2:(e.sigs.length:Int)<e.imports
 ·refine .inr (.inl ⟨by simp;omega,by simpa using h2,?_⟩);simp only[envOk];rw[decide_eq_false (by omega)];rfl
 by_cases a:64<(e.sigs.length:Int)
 ·refine .inr (.inr (.inl ⟨by simp;omega,by simp;omega,by simpa using a,?_⟩));simp only[envOk];rw[decide_eq_false (by omega)];rfl
 by_cases h4:e.muts.length=e.globals.length
 ·refine .inr (.inr (.inr (.inr ⟨by simp;omega,by simp;omega,by simp;omega,by simp;omega,by simp;omega,?_⟩)));simp only[envOk];rw[decide_eq_true (by omega)];rfl
 ·refine .inr (.inr (.inr (.inl ⟨by simp;omega,by simp;omega,by simp;omega,by simp;omega,by simp;omega,?_⟩)));simp only[envOk];rw[decide_eq_false (by omega)];rfl
theorem aJf(v:AJ)(e:EnvD)(w:Ay)(hs:EnvV w v e):
  AX fZ 48 #[v] w fun i w'=>i = .returned (.bool (envOk e))/\AQ w.heap.size w w':=by
 obtain⟨a,b,d,rfl,hs,hg,u⟩:=hs;obtain⟨k,cs,rfl,_⟩:=hs.len;obtain⟨m,cg,rfl⟩:=hg.shape;obtain⟨n,o,rfl,_⟩:=u;have ai:=hg.fQb;have aj:=hs.fQb;have B0:=fQ (show AQ w.heap.size w (w.alloc (.cells #[.slice k e.sigs.length cs,.int .i64 e.imports,.slice m e.globals.length cg,.slice n e.muts.length o,.bool e.mem] 26))from(Az _ _).alloc (Aj _) _);have y:=fQ (hs.below B0.out (Aj _) (fun _ _ h=>h.below B0.out (Aj _)));have p:=fQ (hg.ir.below B0.out (Aj _));have q:=fQ (Blk.new w 26 #[.slice k e.sigs.length cs,.int .i64 e.imports,.slice m e.globals.length cg,.slice n e.muts.length o,.bool e.mem]);clear hs hg;rcases bKk e with⟨h1,he⟩ | ⟨h1,h2,he⟩ | ⟨h1,h2,r,he⟩ | ⟨h1,h2,r,z,A,he⟩ | ⟨h1,h2,r,z,A,he⟩
 ·have c:=fQ he;clear he;go_in;go_wp2;go_ret;exact⟨by rw[c.out];rfl,B0.out⟩
 ·have c:=fQ he;clear he;go_in;go_wp2;go_ret;exact⟨by rw[c.out];rfl,B0.out⟩
 ·have c:=fQ he;clear he;go_in;go_wp2;go_ret;exact⟨by rw[c.out];rfl,B0.out⟩
 ·have c:=fQ he;clear he;go_in;go_wp2;go_ret;exact⟨by rw[c.out];rfl,B0.out⟩
 ·cases g:kK 32 e.globals with
  | false=>
   rw[g]at he;have c:=fQ he;have l:=fQ g;clear he g;go_in;go_wp2_with fail;refine(aXx 32 32 rfl _ e.globals _ p.out (by omega)).mono ?_;rintro i w1 ⟨rfl,f⟩;rw[l.out];have j:=fQ (B0.out.trans (f.mono B0.out.size));clear f;go_wp2;go_ret;exact⟨by rw[c.out];rfl,j.out⟩
  | true=>
   rw[g]at he;have c:=fQ (show envOk e = !(e.sigs.any fun x=>!sigOk x) by rw[he,bJg];rfl);have l:=fQ g;clear he g;go_in;go_wp2_with fail;refine(aXx 32 32 rfl _ e.globals _ p.out (by omega)).mono ?_;rintro i w1 ⟨rfl,f⟩;rw[l.out];have j:=fQ (B0.out.trans (f.mono B0.out.size));have B:=fQ (y.out.below f (Aj _) (fun _ _ h=>h.below f (Aj _)));have s:=q.out.below f q.out.lt;have C:=s.cell 0;simp at C;clear f s;go_wp2_with fail;refine(bXf k e.sigs.length cs e.sigs (fun x=>!sigOk x) _ B.out (by omega) (fun x hx v w' hb D=>bVs v x w' D)).mono ?_;rintro i w2 ⟨rfl,t⟩;have E:=fQ (j.out.trans (t.mono j.out.size));clear t;go_wp2;go_ret;exact⟨by rw[c.out];rfl,E.out⟩
theorem bKn{α:Type}{l:List α}{p:α}{q:α->Bool}(h:l[k]? = some p)(h1:(l.take k).all q=true)(h2:q p=true):(l.take (k+1)).all q=true:=by
 obtain⟨a,e⟩:=List.getElem?_eq_some_iff.1 h;rw[Aw a,e,List.all_append,h1];simp[h2]
theorem bYj{α:Type}{l:List α}{p:α}{q:α->Bool}(h:l[k]? = some p)(h2:q p=false):l.all q=false:=by
 rw[List.all_eq_false];exact⟨p,Av h,by simp[h2]⟩
theorem bKo(t:Int)(w:Ay):AX fZ 67 #[.int .i64 t] w fun e w'=>e = .returned (.bool (isK t))/\w=w':=by
 cases h1:(t == 127)with
 | true=>
  have a:=fQ (show isK t=true by simp[isK,h1]);go_in;go_wp2;go_ret;exact⟨by rw[a.out];rfl,rfl⟩
 | false=>
  have a:=fQ (show isK t=(t == 126) by simp only[isK,h1,Bool.false_or]);go_in;go_wp2;go_ret;exact⟨by rw[a.out];rfl,rfl⟩
theorem aZn(m:Nat)(b:Int)(q:b=m)(v:AJ)(l:List Int)(w:Ay)(hs:IR w v l)(t:l.length<=9223372036854775807):
  AX fZ 37 #[v,.int .i64 b] w fun e w'=>e = .returned (.bool (kK m l))/\AQ w.heap.size w w':=by
 obtain⟨A,c,rfl⟩:=hs.shape;have u:=fQ hs;clear hs;obtain⟨n,hn⟩:=fX l.length;rw[hn]at t ⊢;have j:=fQ hn;by_cases h:n<=m
 ·have y:decide (b<(n:Int))=false:=(by simp;omega);have d:=fQ (show kK m l=l.all isK by simp[kK,hn,h]);clear h q hn;go_in;go_wp2;go_loopw [5] (fun i wr=>∃ k:Nat,k<=n/\i = .int .i64 k/\Hid ((l.take k).all isK=true)/\Hid (AQ w.heap.size w wr)) (fun i _=>n - (intOf i).toNat)
  case atStart=>exact⟨0,by omega,rfl,fQ rfl,fQ (Az _ _)⟩
  case round=>
   obtain⟨k,hk,rfl,r,f⟩:=hrel;by_cases z:k<n
   ·have B:decide ((k:Int)<n)=true:=(by simp;omega);have ag:(k:Int)<n:=(by omega);obtain⟨x,o⟩:∃ x,l[k]? = some x:=⟨_,Ax (by rw[j.out];exact z)⟩;have p:=u.out.below f.out (Aj _);rw[j.out]at p;obtain⟨ab,ao,rfl,hab,hcl⟩:=p.cell o;have s:=fQ o;clear o p
    cases g:isK x with
    | true=>
     have a:=fQ g;clear g;go_wp2_with (go_at_call 67;refine(bKo _ _).mono ?_;rintro e C ⟨rfl,rfl⟩;rw[a.out]);exact⟨⟨k+1,by omega,by simp,fQ (bKn s.out r.out a.out),f⟩,by simp[intOf];omega⟩
    | false=>
     have a:=fQ g;clear g;go_wp2_with (go_at_call 67;refine(bKo _ _).mono ?_;rintro e C ⟨rfl,rfl⟩;rw[a.out]);go_ret;exact⟨by rw[d.out,bYj s.out a.out];rfl,f.out⟩
   ·have B:decide ((k:Int)<n)=false:=(by simp;omega);have D:=fQ (show l.all isK=true by have:=r.out;rwa[Ak (by rw[j.out];omega)]at this);go_wp2;go_ret;exact⟨by rw[d.out,D.out];rfl,f.out⟩
 ·have y:decide (b<(n:Int))=true:=(by simp;omega);have d:=fQ (show kK m l=false by simp[kK,hn,h]);clear h q hn;go_in;go_wp2;go_ret;exact⟨by rw[d.out];rfl,Az _ _⟩
theorem bYk(v:AJ)(s:SigD)(w:Ay)(hs:SigV w v s):
  AX fZ 38 #[v] w fun e w'=>e = .returned (.bool (sigOk s))/\AQ w.heap.size w w':=by
 obtain⟨a,b,rfl,hi,d⟩:=hs;obtain⟨l,ci,rfl⟩:=hi.shape;obtain⟨m,n,rfl⟩:=d.shape;have ai:=hi.fQb;have aj:=d.fQb;have B0:=fQ (show AQ w.heap.size w (w.alloc (.cells #[.slice l s.inn.length ci,.slice m s.out.length n] 40))from(Az _ _).alloc (Aj _) _);have o:=fQ (hi.ir.below B0.out (Aj _));have r:=fQ (d.ir.below B0.out (Aj _));have f:=Blk.new w 40 #[.slice l s.inn.length ci,.slice m s.out.length n];have p:=fQ f;have t:=f.cell 0;have c1:=f.cell 1;simp at t c1;clear hi d f
 cases h:kK 8 s.inn with
 | true=>
  have i:=fQ h;have j:=fQ (show sigOk s=kK 8 s.out by simp only[sigOk,h,Bool.true_and]);clear h;go_in;go_wp2_with fail;refine(aZn 8 8 rfl _ s.inn _ o.out (by omega)).mono ?_;rintro e w1 ⟨rfl,c⟩;rw[i.out];have g:=fQ (B0.out.trans (c.mono B0.out.size));have u:=fQ (r.out.below c (Aj _));have k:=p.out.below c p.out.lt;have x:=k.cell 0;have y:=k.cell 1;simp at x y;clear c k;go_wp2_with fail;refine(aZn 8 8 rfl _ s.out _ u.out (by omega)).mono ?_;rintro e w2 ⟨rfl,q⟩;have z:=fQ (g.out.trans (q.mono g.out.size));clear q;go_wp2;go_ret;exact⟨by rw[j.out];rfl,z.out⟩
 | false=>
  have i:=fQ h;have j:=fQ (show sigOk s=false by simp only[sigOk,h,Bool.false_and]);clear h;go_in;go_wp2_with fail;refine(aZn 8 8 rfl _ s.inn _ o.out (by omega)).mono ?_;rintro e w1 ⟨rfl,c⟩;rw[i.out];have g:=fQ (B0.out.trans (c.mono B0.out.size));clear c;go_wp2;go_ret;exact⟨by rw[j.out];rfl,g.out⟩
theorem cKl(e:EnvD):(decide (64<(e.sigs.length:Int))=true/\envOk e=false)\/(decide (64<(e.sigs.length:Int))=false/\decide (e.imports<0)=true/\envOk e=false) \/
  (decide (64<(e.sigs.length:Int))=false/\decide (e.imports<0)=false/\decide ((e.sigs.length:Int)<e.imports)=true/\envOk e=false) \/
  (decide (64<(e.sigs.length:Int))=false/\decide (e.imports<0)=false/\decide ((e.sigs.length:Int)<e.imports)=false/\kK 32 e.globals=false/\envOk e=false) \/
  (decide (64<(e.sigs.length:Int))=false/\decide (e.imports<0)=false/\decide ((e.sigs.length:Int)<e.imports)=false/\kK 32 e.globals=true/\((e.muts.length:Int) != (e.globals.length:Int))=true/\(e.muts.length != e.globals.length)=true/\envOk e=false) \/
  (decide (64<(e.sigs.length:Int))=false/\decide (e.imports<0)=false/\decide ((e.sigs.length:Int)<e.imports)=false/\kK 32 e.globals=true/\((e.muts.length:Int) != (e.globals.length:Int))=false/\(e.muts.length != e.globals.length)=false/\envOk e=e.sigs.all sigOk):=by
 rcases bKk e with⟨h1,he⟩ | ⟨h1,h2,he⟩ | ⟨h1,h2,a,he⟩ | ⟨h1,h2,a,b,c,he⟩ | ⟨h1,h2,a,b,c,he⟩
 ·cases a:decide (64<(e.sigs.length:Int))with
  | true=>exact .inl ⟨rfl,he⟩
  | false=>exact .inr (.inl ⟨rfl,h1,he⟩)
 ·cases a:decide (64<(e.sigs.length:Int))with
  | true=>exact .inl ⟨rfl,he⟩
  | false=>exact .inr (.inr (.inl ⟨rfl,h1,h2,he⟩))
 ·exact .inl ⟨a,he⟩
 ·cases hk:kK 32 e.globals with
  | false=>exact .inr (.inr (.inr (.inl ⟨a,h1,h2,rfl,he⟩)))
  | true=>exact .inr (.inr (.inr (.inr (.inl ⟨a,h1,h2,rfl,b,c,he⟩))))
 ·cases hk:kK 32 e.globals with
  | false=>exact .inr (.inr (.inr (.inl ⟨a,h1,h2,rfl,by rw[he,hk];rfl⟩)))
  | true=>exact .inr (.inr (.inr (.inr (.inr ⟨a,h1,h2,rfl,b,c,by rw[he,hk];rfl⟩))))
theorem aQn(v:AJ)(e:EnvD)(w:Ay)(hs:EnvV w v e):
  AX fZ 17 #[v] w fun o w'=>o = .returned (.bool (envOk e))/\AQ w.heap.size w w':=by
 obtain⟨a,b,d,rfl,hs,hg,K⟩:=hs;obtain⟨A,cs,rfl,_⟩:=hs.len;obtain⟨B,cg,rfl⟩:=hg.shape;obtain⟨C,D,rfl,_⟩:=K;have ar:=hg.fQb;have au:=hs.fQb;have B0:=fQ (show AQ w.heap.size w (w.alloc (.cells #[.slice A e.sigs.length cs,.int .i64 e.imports,.slice B e.globals.length cg,.slice C e.muts.length D,.bool e.mem] 26))from(Az _ _).alloc (Aj _) _);have L:=fQ (hs.below B0.out (Aj _) (fun _ _ h=>h.below B0.out (Aj _)));have M:=fQ (hg.ir.below B0.out (Aj _));have E:=fQ (Blk.new w 26 #[.slice A e.sigs.length cs,.int .i64 e.imports,.slice B e.globals.length cg,.slice C e.muts.length D,.bool e.mem]);clear hs hg;rcases cKl e with⟨h1,he⟩ | ⟨h1,h2,he⟩ | ⟨h1,h2,u,he⟩ | ⟨h1,h2,u,r,he⟩ | ⟨h1,h2,u,r,N,O,he⟩ | ⟨h1,h2,u,r,N,O,he⟩
 ·have c:=fQ he;clear he;go_in;go_wp2;go_ret;exact⟨by rw[c.out];rfl,B0.out⟩
 ·have c:=fQ he;clear he;go_in;go_wp2;go_ret;exact⟨by rw[c.out];rfl,B0.out⟩
 ·have c:=fQ he;clear he;go_in;go_wp2;go_ret;exact⟨by rw[c.out];rfl,B0.out⟩
 all_goals
  have c:=fQ he;have P:=fQ r;clear he r;go_in;go_wp2_with fail;refine(aZn 32 32 rfl _ e.globals _ M.out (by omega)).mono ?_;rintro o w1 ⟨rfl,j⟩;rw[P.out];have g:=fQ (B0.out.trans (j.mono B0.out.size));have Q:=fQ (L.out.below j (Aj _) (fun _ _ h=>h.below j (Aj _)));have l:=fQ (E.out.below j E.out.lt);have s:=l.out.cell 0;have F:=l.out.cell 2;have G:=l.out.cell 3;simp at s F G;clear j
 ·go_wp2;go_ret;exact⟨by rw[c.out];rfl,g.out⟩
 ·go_wp2;go_ret;exact⟨by rw[c.out];rfl,g.out⟩
 ·go_wp2;clear s F G;go_loopw [3] (fun i wr=>∃ k:Nat,k<=e.sigs.length/\i = .int .i64 k/\Hid ((e.sigs.take k).all sigOk=true)/\Hid (AQ w1.heap.size w1 wr)) (fun i _=>e.sigs.length - (intOf i).toNat)
  case atStart=>exact⟨0,by omega,rfl,fQ rfl,fQ (Az _ _)⟩
  case round=>
   obtain⟨k,hk,rfl,H,f⟩:=hrel;have R:=fQ (l.out.below f.out l.out.lt);have s:=R.out.cell 0;simp at s;by_cases S:k<e.sigs.length
   ·have T:decide ((k:Int)<(e.sigs.length:Int))=true:=(by simp;omega);have aq:(k:Int)<(e.sigs.length:Int):=(by omega);obtain⟨x,y⟩:∃ x,e.sigs[k]? = some x:=⟨_,Ax S⟩;obtain⟨ab,ao,p,q,rfl,hab,c0,c1,s0,s1⟩:=(Q.out.below f.out (Aj _) (fun _ _ h=>h.below f.out (Aj _))).sig y;obtain⟨pA,pc,rfl⟩:=s0.shape;obtain⟨qA,qc,rfl⟩:=s1.shape;have I:=fQ (show SigV wr (.agg #[_,_]) x from⟨_,_,rfl,s0,s1⟩);have J:=fQ y;clear y s0 s1
    cases t:sigOk x with
    | true=>
     have m:=fQ t;clear t;go_wp2_with fail;refine(bYk _ x _ I.out).mono ?_;rintro o U ⟨rfl,n⟩;rw[m.out];have z:=fQ (f.out.trans (n.mono f.out.size));clear n;go_wp2;exact⟨⟨k+1,by omega,by simp,fQ (bKn J.out H.out m.out),z⟩,by simp[intOf];omega⟩
    | false=>
     have m:=fQ t;clear t;go_wp2_with fail;refine(bYk _ x _ I.out).mono ?_;rintro o U ⟨rfl,n⟩;rw[m.out];have z:=fQ (f.out.trans (n.mono f.out.size));clear n;go_wp2;go_ret;exact⟨by rw[c.out,bYj J.out m.out];rfl,g.out.trans (z.out.mono g.out.size)⟩
   ·have T:decide ((k:Int)<(e.sigs.length:Int))=false:=(by simp;omega);have V:=fQ (show e.sigs.all sigOk=true by have:=H.out;rwa[Ak (by omega)]at this);go_wp2;go_ret;exact⟨by rw[c.out,V.out];rfl,g.out.trans (f.out.mono g.out.size)⟩
def NewV(base:Nat)(v:AJ):Prop:=∀ A n c,v = .slice A n c->∀ a,A=some a->base<=a.block
theorem NewV.nil(base:Nat):NewV base (.slice none 0 0):=by
 intro A n c e a ha;injection e with e;rw[<-e]at ha;cases ha
theorem NewV.at{base g n c:Nat}(h:base<=g):NewV base (.slice (some ⟨g,0,none⟩) n c):=by
 intro A n c e a ha;injection e with e;rw[<-e]at ha;injection ha with ha;subst ha;exact h
def ShP(fr:Bool)(F:Option (List Int×List Int))(n:Nat)(lo hi:Int)(w:Ay)(d:Ending)(w':Ay):Prop:=
 ∃ (c vo:AJ) (most:Nat) (a b:Int) (ok:Bool) (i o:List Int),d = .returned (.tuple #[.agg #[c,vo,.int .u64 (most:Int),.int .i64 a,.int .i64 b],.bool ok])/\IR w' c i/\IR w' vo o/\most<18446744073709551616 /\
  (F=none->ok=false\/most<n)/\(∀ x,F=some x->ok=true/\n<=most/\x=(i,o)/\a=lo/\b=hi)/\(fr=true->NewV w.heap.size c/\NewV w.heap.size vo)/\AQ w.heap.size w w'
theorem ShP.no{fr:Bool}{F:Option (List Int×List Int)}{n:Nat}{lo hi:Int}{w':Ay}(hF:F=none)(a:AQ w.heap.size w w'):
  ShP fr F n lo hi w (.returned (.tuple #[.agg #[.slice none 0 0,.slice none 0 0,.int .u64 0,.int .i64 0,.int .i64 0],.bool false])) w':=
 ⟨_,_,0,0,0,false,[],[],rfl,IR.nil _,IR.nil _,by omega,fun _=>.inl rfl,(fun x h=>by rw[hF]at h;cases h),fun _=>⟨NewV.nil _,NewV.nil _⟩,a⟩
theorem gQ{e:TypeId}{a b c d f:AJ}(h:Blk w g e #[a,b,c,d,f]):
  w.cell? ⟨g,0,none⟩=some a/\w.cell? ⟨g,1,none⟩=some b/\w.cell? ⟨g,2,none⟩=some c/\w.cell? ⟨g,3,none⟩=some d/\w.cell? ⟨g,4,none⟩=some f:=by
 have i:=h.cell 0;have c1:=h.cell 1;have j:=h.cell 2;have k:=h.cell 3;have l:=h.cell 4;simp at i c1 j k l;exact⟨i,c1,j,k,l⟩
theorem frz{e:TypeId}{cs:Array AJ}(h:Blk w g e cs)(i:Nat):w.frozen? ⟨g,i,none⟩=false:=frozen_of_row w g i _ _ h
theorem sQ{B:Nat}{w':Ay}(h:AQ B w w')(hg:B<=g)(a b c d e:AJ):
  AQ B w (((((w'.setCell ⟨g,0,none⟩ a).setCell ⟨g,1,none⟩ b).setCell ⟨g,2,none⟩ c).setCell ⟨g,3,none⟩ d).setCell ⟨g,4,none⟩ e):=
 ((((h.setCell (p:=⟨g,0,none⟩) hg a).setCell (p:=⟨g,1,none⟩) hg b).setCell (p:=⟨g,2,none⟩) hg c).setCell (p:=⟨g,3,none⟩) hg d).setCell (p:=⟨g,4,none⟩) hg e
theorem bXx{cs:Array AJ}(h:Blk w k t cs)(hg:k≠g)(a b c d e:AJ):
  Blk (((((w.setCell ⟨g,0,none⟩ a).setCell ⟨g,1,none⟩ b).setCell ⟨g,2,none⟩ c).setCell ⟨g,3,none⟩ d).setCell ⟨g,4,none⟩ e) k t cs:=
 ((((h.setCell (p:=⟨g,0,none⟩) a hg).setCell (p:=⟨g,1,none⟩) b hg).setCell (p:=⟨g,2,none⟩) c hg).setCell (p:=⟨g,3,none⟩) d hg).setCell (p:=⟨g,4,none⟩) e hg
theorem cJs(m:Bool)(n:Nat)(hn:n<18446744073709551616)(w:Ay):AX fZ 125 #[.int .i64 257,.bool m] w (ShP true (nZ m 257 n) n 0 0 w):=by
 have ha:acc 257=none:=(by kernel_rfl);have i:=fQ (show fJ 257 = .tuple #[.int .i64 0,.int .i64 0,.bool false,.bool false] by simp[fJ,ha]);have c:=fQ (show nZ m 257 n=if m=false then none else if n<=8589934592 then some ([127],[])else none by simp[nZ]);clear ha;have j:=fQ hn;clear hn;go_in;go_wp2_with fail;have B0:=fQ (show AQ w.heap.size w ((w.alloc (.cells #[.slice none 0 0,.slice none 0 0,.int .u64 0,.int .i64 0,.int .i64 0] 151)).alloc (.cells #[.int .i64 127] 3))from((Az _ _).alloc (Aj _) _).alloc (by simp) _);have d:=fQ ((Blk.new w 151 #[.slice none 0 0,.slice none 0 0,.int .u64 0,.int .i64 0,.int .i64 0]).alloc (.cells #[.int .i64 127] 3));have f:=fQ (Blk.newAt (w.alloc (.cells #[.slice none 0 0,.slice none 0 0,.int .u64 0,.int .i64 0,.int .i64 0] 151)) (N:=w.heap.size+1) 3 #[.int .i64 127] (by simp));refine(zY 257 _).mono ?_;rintro e w1 ⟨rfl,b⟩;rw[i.out];have g:=fQ (B0.out.trans (b.mono B0.out.size));have a:=fQ (d.out.below b d.out.lt);have h:=fQ (f.out.below b f.out.lt);clear b;have k:=a.out.lt;have ad:=h.out.lt;obtain⟨l,o,p,q,r⟩:=gQ a.out;have z0:=frz a.out 0;have z1:=frz a.out 1;have z2:=frz a.out 2;have z3:=frz a.out 3;have z4:=frz a.out 4;go_wp2;refine bodyPost_ret (v:=.tuple #[.agg #[.slice (some ⟨w.heap.size+1,0,none⟩) 1 1,.slice none 0 0,.int .u64 8589934592,.int .i64 0,.int .i64 0],.bool m]) (by simp[results,results125,go_sem,k,l,o,p,q,r]) rfl ?_;have:=j.out;refine⟨_,_,8589934592,0,0,m,[127],[],rfl,?_,?_,by omega,?_,?_,?_,?_⟩
 ·exact IR.one (t:=3) (x:=127) (bXx h.out (by omega) _ _ _ _ _)
 ·exact IR.nil _
 ·intro hf;rw[c.out]at hf
  cases m with
  | false=>exact .inl rfl
  | true=>exact .inr (by simp at hf;omega)
 ·intro x hf;rw[c.out]at hf
  cases m with
  | false=>simp at hf
  | true=>
   simp at hf;exact⟨rfl,by omega,hf.2.symm,rfl,rfl⟩
 ·exact fun _=>⟨NewV.at (by have:=g.out.size;omega),NewV.nil _⟩
 ·exact(sQ g.out (Aj _) _ _ _ _ _)
theorem dQi(m:Bool)(n:Nat)(hn:n<18446744073709551616)(w:Ay):AX fZ 125 #[.int .i64 63,.bool m] w (ShP true (nZ m 63 n) n 0 0 w):=by
 have ha:acc 63=none:=(by kernel_rfl);have i:=fQ (show fJ 63 = .tuple #[.int .i64 0,.int .i64 0,.bool false,.bool false] by simp[fJ,ha]);have c:=fQ (show nZ m 63 n=if m=false then none else if n=0 then some ([],[127])else none by simp[nZ,ha]);clear ha;have j:=fQ hn;clear hn;go_in;go_wp2_with fail;have B0:=fQ (show AQ w.heap.size w ((w.alloc (.cells #[.slice none 0 0,.slice none 0 0,.int .u64 0,.int .i64 0,.int .i64 0] 151)).alloc (.cells #[.int .i64 127] 3))from((Az _ _).alloc (Aj _) _).alloc (by simp) _);have d:=fQ ((Blk.new w 151 #[.slice none 0 0,.slice none 0 0,.int .u64 0,.int .i64 0,.int .i64 0]).alloc (.cells #[.int .i64 127] 3));have f:=fQ (Blk.newAt (w.alloc (.cells #[.slice none 0 0,.slice none 0 0,.int .u64 0,.int .i64 0,.int .i64 0] 151)) (N:=w.heap.size+1) 3 #[.int .i64 127] (by simp));refine(zY 63 _).mono ?_;rintro e w1 ⟨rfl,b⟩;rw[i.out];have g:=fQ (B0.out.trans (b.mono B0.out.size));have a:=fQ (d.out.below b d.out.lt);have h:=fQ (f.out.below b f.out.lt);clear b;have k:=a.out.lt;have ad:=h.out.lt;obtain⟨l,o,p,q,r⟩:=gQ a.out;have z0:=frz a.out 0;have z1:=frz a.out 1;have z2:=frz a.out 2;have z3:=frz a.out 3;have z4:=frz a.out 4;go_wp2;refine bodyPost_ret (v:=.tuple #[.agg #[.slice none 0 0,.slice (some ⟨w.heap.size+1,0,none⟩) 1 1,.int .u64 0,.int .i64 0,.int .i64 0],.bool m]) (by simp[results,results125,go_sem,k,l,o,p,q,r]) rfl ?_;have:=j.out;refine⟨_,_,0,0,0,m,[],[127],rfl,?_,?_,by omega,?_,?_,?_,?_⟩
 ·exact IR.nil _
 ·exact IR.one (t:=3) (x:=127) (bXx h.out (by omega) _ _ _ _ _)
 ·intro hf;rw[c.out]at hf
  cases m with
  | false=>exact .inl rfl
  | true=>exact .inr (by simp at hf;omega)
 ·intro x hf;rw[c.out]at hf
  cases m with
  | false=>simp at hf
  | true=>
   simp at hf;exact⟨rfl,by omega,hf.2.symm,rfl,rfl⟩
 ·exact fun _=>⟨NewV.nil _,NewV.at (by have:=g.out.size;omega)⟩
 ·exact(sQ g.out (Aj _) _ _ _ _ _)
theorem dQj(m:Bool)(n:Nat)(hn:n<18446744073709551616)(w:Ay):AX fZ 125 #[.int .i64 64,.bool m] w (ShP true (nZ m 64 n) n 0 0 w):=by
 have ha:acc 64=none:=(by kernel_rfl);have i:=fQ (show fJ 64 = .tuple #[.int .i64 0,.int .i64 0,.bool false,.bool false] by simp[fJ,ha]);have f:=fQ (show nZ m 64 n=if m=false then none else if n=0 then some ([127],[127])else none by simp[nZ,ha]);clear ha;have j:=fQ hn;clear hn;go_in;go_wp2_with fail;have B0:=fQ (show AQ w.heap.size w ((w.alloc (.cells #[.slice none 0 0,.slice none 0 0,.int .u64 0,.int .i64 0,.int .i64 0] 151)).alloc (.cells #[.int .i64 127] 3))from((Az _ _).alloc (Aj _) _).alloc (by simp) _);have g:=fQ ((Blk.new w 151 #[.slice none 0 0,.slice none 0 0,.int .u64 0,.int .i64 0,.int .i64 0]).alloc (.cells #[.int .i64 127] 3));have h:=fQ (Blk.newAt (w.alloc (.cells #[.slice none 0 0,.slice none 0 0,.int .u64 0,.int .i64 0,.int .i64 0] 151)) (N:=w.heap.size+1) 3 #[.int .i64 127] (by simp));refine(zY 64 _).mono ?_;rintro e w1 ⟨rfl,b⟩;rw[i.out];have c:=fQ (B0.out.trans (b.mono B0.out.size));have a:=fQ (g.out.below b g.out.lt);have d:=fQ (h.out.below b h.out.lt);clear b;have k:=a.out.lt;have ad:=d.out.lt;obtain⟨l,o,p,q,r⟩:=gQ a.out;have z0:=frz a.out 0;have z1:=frz a.out 1;have z2:=frz a.out 2;have z3:=frz a.out 3;have z4:=frz a.out 4;go_wp2;refine bodyPost_ret (v:=.tuple #[.agg #[.slice (some ⟨w.heap.size+1,0,none⟩) 1 1,.slice (some ⟨w.heap.size+1,0,none⟩) 1 1,.int .u64 0,.int .i64 0,.int .i64 0],.bool m]) (by simp[results,results125,go_sem,k,l,o,p,q,r]) rfl ?_;have:=j.out;refine⟨_,_,0,0,0,m,[127],[127],rfl,?_,?_,by omega,?_,?_,?_,?_⟩
 ·exact IR.one (t:=3) (x:=127) (bXx d.out (by omega) _ _ _ _ _)
 ·exact IR.one (t:=3) (x:=127) (bXx d.out (by omega) _ _ _ _ _)
 ·intro hf;rw[f.out]at hf
  cases m with
  | false=>exact .inl rfl
  | true=>exact .inr (by simp at hf;omega)
 ·intro x hf;rw[f.out]at hf
  cases m with
  | false=>simp at hf
  | true=>
   simp at hf;exact⟨rfl,by omega,hf.2.symm,rfl,rfl⟩
 ·exact fun _=>⟨NewV.at (by have:=c.out.size;omega),NewV.at (by have:=c.out.size;omega)⟩
 ·exact(sQ c.out (Aj _) _ _ _ _ _)
theorem bWv(op k wd:Int)(h:Bool)(ha:acc op=some (k,wd,true,h))(m:Bool)(n:Nat)(hn:n<18446744073709551616)(w:Ay):AX fZ 125 #[.int .i64 op,.bool m] w (ShP true (nZ m op n) n 0 0 w):=by
 have i:=fQ (show fJ op = .tuple #[.int .i64 k,.int .i64 wd,.bool true,.bool true] by simp[fJ,ha]);have j:=(nW ha).2.2;have d:=fQ (show nZ m op n=if m=false then none else if n<=4294967295 then some ([127,k],[])else none by simp only[nZ,ha];rw[if_neg (show ¬op=257 by omega)];rfl);have g0:(op == 257)=false:=(by simp;omega);have g1:(op == 63)=false:=(by simp;omega);have g2:(op == 64)=false:=(by simp;omega);clear ha j;have l:=fQ hn;clear hn;go_in;go_wp2_with fail;have B0:=fQ (show AQ w.heap.size w ((w.alloc (.cells #[.slice none 0 0,.slice none 0 0,.int .u64 0,.int .i64 0,.int .i64 0] 151)).alloc (.cells #[.int .i64 127] 3))from((Az _ _).alloc (Aj _) _).alloc (by simp) _);have f:=fQ ((Blk.new w 151 #[.slice none 0 0,.slice none 0 0,.int .u64 0,.int .i64 0,.int .i64 0]).alloc (.cells #[.int .i64 127] 3));have g:=fQ (Blk.newAt (w.alloc (.cells #[.slice none 0 0,.slice none 0 0,.int .u64 0,.int .i64 0,.int .i64 0] 151)) (N:=w.heap.size+1) 3 #[.int .i64 127] (by simp));refine(zY op _).mono ?_;rintro e w1 ⟨rfl,b⟩;rw[i.out];have c:=fQ (B0.out.trans (b.mono B0.out.size));have a:=fQ (f.out.below b f.out.lt);have o:=fQ (g.out.below b g.out.lt);clear b;have p:=a.out.lt;have ad:=o.out.lt;obtain⟨q,r,s,u,z⟩:=gQ a.out;have z0:=frz a.out 0;have z1:=frz a.out 1;have z2:=frz a.out 2;have z3:=frz a.out 3;have z4:=frz a.out 4;go_wp2;refine bodyPost_ret (v:=.tuple #[.agg #[.slice (some ⟨w1.heap.size,0,none⟩) 2 2,.slice none 0 0,.int .u64 4294967295,.int .i64 0,.int .i64 0],.bool m]) (by simp[results,results125,go_sem,p,q,r,s,u,z]) rfl ?_;have:=l.out;refine⟨_,_,4294967295,0,0,m,[127,k],[],rfl,?_,?_,by omega,?_,?_,?_,?_⟩
 ·exact IR.two (t:=3) (x:=127) (y:=k) (Blk.newAt _ _ _ (by simp))
 ·exact IR.nil _
 ·intro hf;rw[d.out]at hf
  cases m with
  | false=>exact .inl rfl
  | true=>exact .inr (by simp at hf;omega)
 ·intro x hf;rw[d.out]at hf
  cases m with
  | false=>simp at hf
  | true=>
   simp at hf;exact⟨rfl,by omega,hf.2.symm,rfl,rfl⟩
 ·exact fun _=>⟨NewV.at (by have:=c.out.size;omega),NewV.nil _⟩
 ·exact(sQ c.out (Aj _) _ _ _ _ _).alloc (by simp;have:=c.out.size;omega) _
theorem cXe(op k wd:Int)(i:Bool)(ha:acc op=some (k,wd,false,i))(m:Bool)(n:Nat)(hn:n<18446744073709551616)(w:Ay):AX fZ 125 #[.int .i64 op,.bool m] w (ShP true (nZ m op n) n 0 0 w):=by
 have j:=fQ (show fJ op = .tuple #[.int .i64 k,.int .i64 wd,.bool false,.bool true] by simp[fJ,ha]);have l:=(nW ha).2.2;have d:=fQ (show nZ m op n=if m=false then none else if n<=4294967295 then some ([127],[k])else none by simp only[nZ,ha];rw[if_neg (show ¬op=257 by omega)];rfl);have g0:(op == 257)=false:=(by simp;omega);have g1:(op == 63)=false:=(by simp;omega);have g2:(op == 64)=false:=(by simp;omega);clear ha l;have o:=fQ hn;clear hn;go_in;go_wp2_with fail;have B0:=fQ (show AQ w.heap.size w ((w.alloc (.cells #[.slice none 0 0,.slice none 0 0,.int .u64 0,.int .i64 0,.int .i64 0] 151)).alloc (.cells #[.int .i64 127] 3))from((Az _ _).alloc (Aj _) _).alloc (by simp) _);have f:=fQ ((Blk.new w 151 #[.slice none 0 0,.slice none 0 0,.int .u64 0,.int .i64 0,.int .i64 0]).alloc (.cells #[.int .i64 127] 3));have g:=fQ (Blk.newAt (w.alloc (.cells #[.slice none 0 0,.slice none 0 0,.int .u64 0,.int .i64 0,.int .i64 0] 151)) (N:=w.heap.size+1) 3 #[.int .i64 127] (by simp));refine(zY op _).mono ?_;rintro e w1 ⟨rfl,b⟩;rw[j.out];have c:=fQ (B0.out.trans (b.mono B0.out.size));have a:=fQ (f.out.below b f.out.lt);have h:=fQ (g.out.below b g.out.lt);clear b;have p:=a.out.lt;have ad:=h.out.lt;obtain⟨q,r,s,u,y⟩:=gQ a.out;have z0:=frz a.out 0;have z1:=frz a.out 1;have z2:=frz a.out 2;have z3:=frz a.out 3;have z4:=frz a.out 4;go_wp2;refine bodyPost_ret (v:=.tuple #[.agg #[.slice (some ⟨w.heap.size+1,0,none⟩) 1 1,.slice (some ⟨w1.heap.size,0,none⟩) 1 1,.int .u64 4294967295,.int .i64 0,.int .i64 0],.bool m]) (by simp[results,results125,go_sem,p,q,r,s,u,y]) rfl ?_;have:=o.out;refine⟨_,_,4294967295,0,0,m,[127],[k],rfl,?_,?_,by omega,?_,?_,?_,?_⟩
 ·exact IR.one (t:=3) (x:=127) ((bXx h.out (by omega) _ _ _ _ _).alloc _)
 ·exact IR.one (t:=3) (x:=k) (Blk.newAt _ _ _ (by simp))
 ·intro hf;rw[d.out]at hf
  cases m with
  | false=>exact .inl rfl
  | true=>exact .inr (by simp at hf;omega)
 ·intro x hf;rw[d.out]at hf
  cases m with
  | false=>simp at hf
  | true=>
   simp at hf;exact⟨rfl,by omega,hf.2.symm,rfl,rfl⟩
 ·exact fun _=>⟨NewV.at (by have:=c.out.size;omega),NewV.at (by have:=c.out.size;omega)⟩
 ·exact(sQ c.out (Aj _) _ _ _ _ _).alloc (by simp;have:=c.out.size;omega) _
theorem cXf(op:Int)(ha:acc op=none)(c:(op == 257)=false)(d:(op == 63)=false)(f:(op == 64)=false)(m:Bool)(n:Nat)(hn:n<18446744073709551616)(w:Ay):AX fZ 125 #[.int .i64 op,.bool m] w (ShP true (nZ m op n) n 0 0 w):=by
 have i:=fQ (show fJ op = .tuple #[.int .i64 0,.int .i64 0,.bool false,.bool false] by simp[fJ,ha])
 have j:=fQ (show nZ m op n=none by
  simp at c d f;simp only[nZ,ha,c,d,f,if_false]
  cases m <;> rfl)
 clear ha;have HN:=fQ hn;clear hn;go_in;go_wp2_with fail;have B0:=fQ (show AQ w.heap.size w ((w.alloc (.cells #[.slice none 0 0,.slice none 0 0,.int .u64 0,.int .i64 0,.int .i64 0] 151)).alloc (.cells #[.int .i64 127] 3))from((Az _ _).alloc (Aj _) _).alloc (by simp) _);have g:=fQ ((Blk.new w 151 #[.slice none 0 0,.slice none 0 0,.int .u64 0,.int .i64 0,.int .i64 0]).alloc (.cells #[.int .i64 127] 3));have h:=fQ (Blk.newAt (w.alloc (.cells #[.slice none 0 0,.slice none 0 0,.int .u64 0,.int .i64 0,.int .i64 0] 151)) (N:=w.heap.size+1) 3 #[.int .i64 127] (by simp));refine(zY op _).mono ?_;rintro e w1 ⟨rfl,b⟩;rw[i.out];have k:=fQ (B0.out.trans (b.mono B0.out.size));have a:=fQ (g.out.below b g.out.lt);have l:=fQ (h.out.below b h.out.lt);clear b;have o:=a.out.lt;have ad:=l.out.lt;obtain⟨p,q,r,s,t⟩:=gQ a.out;have z0:=frz a.out 0;have z1:=frz a.out 1;have z2:=frz a.out 2;have z3:=frz a.out 3;have z4:=frz a.out 4;go_wp2;refine bodyPost_ret (v:=.tuple #[.agg #[.slice none 0 0,.slice none 0 0,.int .u64 0,.int .i64 0,.int .i64 0],.bool false]) (by simp[results,results125,go_sem,o,p,q,r,s,t]) rfl ?_;exact ShP.no j.out (sQ k.out (Aj _) _ _ _ _ _)
theorem cJt(op:Int)(m:Bool)(n:Nat)(hn:n<18446744073709551616)(w:Ay):AX fZ 125 #[.int .i64 op,.bool m] w (ShP true (nZ m op n) n 0 0 w):=by
 cases ha:acc op with
 | some r=>
  obtain⟨k,wd,st,a⟩:=r
  cases st with
  | true=>exact bWv op k wd a ha m n hn w
  | false=>exact cXe op k wd a ha m n hn w
 | none=>
  by_cases b:op=257
  ·subst b;exact cJs m n hn w
  by_cases h1:op=63
  ·subst h1;exact dQi m n hn w
  by_cases h2:op=64
  ·subst h2;exact dQj m n hn w
  exact cXf op ha (by simpa using b) (by simpa using h1) (by simpa using h2) m n hn w
theorem al4(w:Ay)(a b c d:Obj):AQ w.heap.size w ((((w.alloc a).alloc b).alloc c).alloc d):=((((Az _ _).alloc (Aj _) _).alloc (by simp) _).alloc (by simp;omega) _).alloc (by simp;omega) _
theorem al5(w:Ay)(a b c d e:Obj):AQ w.heap.size w (((((w.alloc a).alloc b).alloc c).alloc d).alloc e):=(al4 w a b c d).alloc (by simp;omega) _
theorem al6(w:Ay)(a b c d e f:Obj):AQ w.heap.size w ((((((w.alloc a).alloc b).alloc c).alloc d).alloc e).alloc f):=(al5 w a b c d e).alloc (by simp;omega) _
theorem at3(w:Ay)(a b:Obj)(t:TypeId)(cs:Array AJ):Blk (((w.alloc a).alloc b).alloc (.cells cs t)) (w.heap.size+1+1) t cs:=Blk.newAt _ _ _ (by simp)
theorem at4(w:Ay)(a b c:Obj)(t:TypeId)(cs:Array AJ):Blk ((((w.alloc a).alloc b).alloc c).alloc (.cells cs t)) (w.heap.size+1+1+1) t cs:=Blk.newAt _ _ _ (by simp)
theorem at5(w:Ay)(a b c d:Obj)(t:TypeId)(cs:Array AJ):Blk (((((w.alloc a).alloc b).alloc c).alloc d).alloc (.cells cs t)) (w.heap.size+1+1+1+1) t cs:=Blk.newAt _ _ _ (by simp)
theorem at6(w:Ay)(a b c d e:Obj)(t:TypeId)(cs:Array AJ):Blk ((((((w.alloc a).alloc b).alloc c).alloc d).alloc e).alloc (.cells cs t)) (w.heap.size+1+1+1+1+1) t cs:=Blk.newAt _ _ _ (by simp)
theorem cXg(e:EnvD)(s:SigD)(f vs:AJ)(n:Nat)(hn:n<18446744073709551616)(w:Ay)(he:EnvV w f e)(hs:SigV w vs s):AX fZ 100 #[f,vs,.int .i64 256,.int .u64 (n:Int)] w (ShP false (iX e s 256 n) n (sX 256) (nJ 256) w):=by
 obtain⟨a,b,d,rfl,h1,h2,g⟩:=he;obtain⟨As,cs,rfl,_⟩:=h1.len;obtain⟨Ag,cg,rfl⟩:=h2.shape;have k:=g;obtain⟨Am,cm,rfl,_⟩:=g;obtain⟨p,q,rfl,i,c⟩:=hs;obtain⟨Ap,cp,rfl⟩:=i.shape;obtain⟨Aq,cq,rfl⟩:=c.shape;have HO:=fQ c.ir;have j:=fQ (show iX e s 256 n=some ([],[0]) by simp[iX]);have l:=fQ hn;clear h1 h2 i c hn k;go_in;go_wp2;refine bodyPost_ret (v:=.tuple #[.agg #[.slice none 0 0,.slice (some ⟨w.heap.size+1+1+1+1,0,none⟩) 1 1,.int .u64 18446744073709551615,.int .i64 0,.int .i64 0],.bool true]) (by simp[results,results100,go_sem]) rfl ?_;have:=l.out;refine⟨_,_,18446744073709551615,0,0,true,[],[0],rfl,?_,?_,by omega,?_,?_,(fun h=>by cases h),?_⟩
 ·exact IR.nil _
 ·exact IR.one (x:=0) (at5 _ _ _ _ _ _ _)
 ·intro hf;rw[j.out]at hf;cases hf
 ·intro x hf;rw[j.out]at hf;simp at hf;exact⟨rfl,by omega,hf.symm,by decide,by decide⟩
 ·exact al5 _ _ _ _ _ _
theorem cXh(e:EnvD)(s:SigD)(f vs:AJ)(n:Nat)(hn:n<18446744073709551616)(w:Ay)(he:EnvV w f e)(hs:SigV w vs s):AX fZ 100 #[f,vs,.int .i64 272,.int .u64 (n:Int)] w (ShP false (iX e s 272 n) n (sX 272) (nJ 272) w):=by
 obtain⟨a,b,d,rfl,h1,h2,g⟩:=he;obtain⟨As,cs,rfl,_⟩:=h1.len;obtain⟨Ag,cg,rfl⟩:=h2.shape;have k:=g;obtain⟨Am,cm,rfl,_⟩:=g;obtain⟨p,q,rfl,i,c⟩:=hs;obtain⟨Ap,cp,rfl⟩:=i.shape;obtain⟨Aq,cq,rfl⟩:=c.shape;have HO:=fQ c.ir;have j:=fQ (show iX e s 272 n=if n=0 then some ([0],[0])else none by simp[iX]);have l:=fQ hn;clear h1 h2 i c hn k;go_in;go_wp2;refine bodyPost_ret (v:=.tuple #[.agg #[.slice (some ⟨w.heap.size+1+1+1+1,0,none⟩) 1 1,.slice (some ⟨w.heap.size+1+1+1+1+1,0,none⟩) 1 1,.int .u64 0,.int .i64 0,.int .i64 0],.bool true]) (by simp[results,results100,go_sem]) rfl ?_;have:=l.out;refine⟨_,_,0,0,0,true,[0],[0],rfl,?_,?_,by omega,?_,?_,(fun h=>by cases h),?_⟩
 ·exact IR.one (x:=0) ((at5 _ _ _ _ _ _ _).alloc _)
 ·exact IR.one (x:=0) (at6 _ _ _ _ _ _ _ _)
 ·intro hf;rw[j.out]at hf;exact .inr (by simp at hf;omega)
 ·intro x hf;rw[j.out]at hf;simp at hf;exact⟨rfl,by omega,hf.2.symm,by decide,by decide⟩
 ·exact al6 _ _ _ _ _ _ _
theorem cXi(e:EnvD)(s:SigD)(f vs:AJ)(n:Nat)(hn:n<18446744073709551616)(w:Ay)(he:EnvV w f e)(hs:SigV w vs s):AX fZ 100 #[f,vs,.int .i64 273,.int .u64 (n:Int)] w (ShP false (iX e s 273 n) n (sX 273) (nJ 273) w):=by
 obtain⟨a,b,d,rfl,h1,h2,g⟩:=he;obtain⟨As,cs,rfl,_⟩:=h1.len;obtain⟨Ag,cg,rfl⟩:=h2.shape;have k:=g;obtain⟨Am,cm,rfl,_⟩:=g;obtain⟨p,q,rfl,i,c⟩:=hs;obtain⟨Ap,cp,rfl⟩:=i.shape;obtain⟨Aq,cq,rfl⟩:=c.shape;have HO:=fQ c.ir;have j:=fQ (show iX e s 273 n=if n=0 then some ([],[])else none by simp[iX]);have l:=fQ hn;clear h1 h2 i c hn k;go_in;go_wp2;refine bodyPost_ret (v:=.tuple #[.agg #[.slice none 0 0,.slice none 0 0,.int .u64 0,.int .i64 1,.int .i64 1],.bool true]) (by simp[results,results100,go_sem]) rfl ?_;have:=l.out;refine⟨_,_,0,1,1,true,[],[],rfl,?_,?_,by omega,?_,?_,(fun h=>by cases h),?_⟩
 ·exact IR.nil _
 ·exact IR.nil _
 ·intro hf;rw[j.out]at hf;exact .inr (by simp at hf;omega)
 ·intro x hf;rw[j.out]at hf;simp at hf;exact⟨rfl,by omega,hf.2.symm,by decide,by decide⟩
 ·exact al4 _ _ _ _ _
theorem cXj(e:EnvD)(s:SigD)(f vs:AJ)(n:Nat)(hn:n<18446744073709551616)(w:Ay)(he:EnvV w f e)(hs:SigV w vs s):AX fZ 100 #[f,vs,.int .i64 274,.int .u64 (n:Int)] w (ShP false (iX e s 274 n) n (sX 274) (nJ 274) w):=by
 obtain⟨a,b,d,rfl,h1,h2,g⟩:=he;obtain⟨As,cs,rfl,_⟩:=h1.len;obtain⟨Ag,cg,rfl⟩:=h2.shape;have k:=g;obtain⟨Am,cm,rfl,_⟩:=g;obtain⟨p,q,rfl,i,c⟩:=hs;obtain⟨Ap,cp,rfl⟩:=i.shape;obtain⟨Aq,cq,rfl⟩:=c.shape;have HO:=fQ c.ir;have j:=fQ (show iX e s 274 n=if n=0 then some ([127],[])else none by simp[iX]);have l:=fQ hn;clear h1 h2 i c hn k;go_in;go_wp2;refine bodyPost_ret (v:=.tuple #[.agg #[.slice (some ⟨w.heap.size+1+1+1,0,none⟩) 1 1,.slice none 0 0,.int .u64 0,.int .i64 1,.int .i64 1],.bool true]) (by simp[results,results100,go_sem]) rfl ?_;have:=l.out;refine⟨_,_,0,1,1,true,[127],[],rfl,?_,?_,by omega,?_,?_,(fun h=>by cases h),?_⟩
 ·exact IR.one (x:=127) (at4 _ _ _ _ _ _)
 ·exact IR.nil _
 ·intro hf;rw[j.out]at hf;exact .inr (by simp at hf;omega)
 ·intro x hf;rw[j.out]at hf;simp at hf;exact⟨rfl,by omega,hf.2.symm,by decide,by decide⟩
 ·exact al4 _ _ _ _ _
theorem cXk(e:EnvD)(s:SigD)(f vs:AJ)(n:Nat)(hn:n<18446744073709551616)(w:Ay)(he:EnvV w f e)(hs:SigV w vs s):AX fZ 100 #[f,vs,.int .i64 275,.int .u64 (n:Int)] w (ShP false (iX e s 275 n) n (sX 275) (nJ 275) w):=by
 obtain⟨a,b,d,rfl,h1,h2,g⟩:=he;obtain⟨As,cs,rfl,_⟩:=h1.len;obtain⟨Ag,cg,rfl⟩:=h2.shape;have k:=g;obtain⟨Am,cm,rfl,_⟩:=g;obtain⟨p,q,rfl,i,c⟩:=hs;obtain⟨Ap,cp,rfl⟩:=i.shape;obtain⟨Aq,cq,rfl⟩:=c.shape;have HO:=fQ c.ir;have j:=fQ (show iX e s 275 n=if n=0 then some ([127],[])else none by simp[iX]);have l:=fQ hn;clear h1 h2 i c hn k;go_in;go_wp2;refine bodyPost_ret (v:=.tuple #[.agg #[.slice (some ⟨w.heap.size+1+1+1,0,none⟩) 1 1,.slice none 0 0,.int .u64 0,.int .i64 1,.int .i64 65],.bool true]) (by simp[results,results100,go_sem]) rfl ?_;have:=l.out;refine⟨_,_,0,1,65,true,[127],[],rfl,?_,?_,by omega,?_,?_,(fun h=>by cases h),?_⟩
 ·exact IR.one (x:=127) (at4 _ _ _ _ _ _)
 ·exact IR.nil _
 ·intro hf;rw[j.out]at hf;exact .inr (by simp at hf;omega)
 ·intro x hf;rw[j.out]at hf;simp at hf;exact⟨rfl,by omega,hf.2.symm,by decide,by decide⟩
 ·exact al4 _ _ _ _ _
theorem cXl(e:EnvD)(s:SigD)(f vs:AJ)(n:Nat)(hn:n<18446744073709551616)(w:Ay)(he:EnvV w f e)(hs:SigV w vs s):AX fZ 100 #[f,vs,.int .i64 276,.int .u64 (n:Int)] w (ShP false (iX e s 276 n) n (sX 276) (nJ 276) w):=by
 obtain⟨a,b,d,rfl,h1,h2,g⟩:=he;obtain⟨As,cs,rfl,_⟩:=h1.len;obtain⟨Ag,cg,rfl⟩:=h2.shape;have k:=g;obtain⟨Am,cm,rfl,_⟩:=g;obtain⟨p,q,rfl,i,c⟩:=hs;obtain⟨Ap,cp,rfl⟩:=i.shape;obtain⟨l,m,rfl⟩:=c.shape;have o:=fQ c.ir;have j:=fQ (show iX e s 276 n=if n=0 then some (s.out,[])else none by simp[iX]);have r:=fQ hn;clear h1 h2 i c hn k;go_in;go_wp2;refine bodyPost_ret (v:=.tuple #[.agg #[.slice l s.out.length m,.slice none 0 0,.int .u64 0,.int .i64 0,.int .i64 0],.bool true]) (by simp[results,results100,go_sem]) rfl ?_;have:=r.out;refine⟨_,_,0,0,0,true,s.out,[],rfl,?_,?_,by omega,?_,?_,(fun h=>by cases h),?_⟩
 ·exact o.out.below (al4 _ _ _ _ _) (Aj _)
 ·exact IR.nil _
 ·intro hf;rw[j.out]at hf;exact .inr (by simp at hf;omega)
 ·intro x hf;rw[j.out]at hf;simp at hf;exact⟨rfl,by omega,hf.2.symm,by decide,by decide⟩
 ·exact al4 _ _ _ _ _
theorem cXm(e:EnvD)(s:SigD)(f vs:AJ)(n:Nat)(hn:n<18446744073709551616)(w:Ay)(he:EnvV w f e)(hs:SigV w vs s):AX fZ 100 #[f,vs,.int .i64 277,.int .u64 (n:Int)] w (ShP false (iX e s 277 n) n (sX 277) (nJ 277) w):=by
 obtain⟨a,b,d,rfl,h1,h2,g⟩:=he;obtain⟨As,cs,rfl,_⟩:=h1.len;obtain⟨Ag,cg,rfl⟩:=h2.shape;have k:=g;obtain⟨Am,cm,rfl,_⟩:=g;obtain⟨p,q,rfl,i,c⟩:=hs;obtain⟨Ap,cp,rfl⟩:=i.shape;obtain⟨Aq,cq,rfl⟩:=c.shape;have HO:=fQ c.ir;have j:=fQ (show iX e s 277 n=if n=0 then some ([],[])else none by simp[iX]);have l:=fQ hn;clear h1 h2 i c hn k;go_in;go_wp2;refine bodyPost_ret (v:=.tuple #[.agg #[.slice none 0 0,.slice none 0 0,.int .u64 0,.int .i64 0,.int .i64 0],.bool true]) (by simp[results,results100,go_sem]) rfl ?_;have:=l.out;refine⟨_,_,0,0,0,true,[],[],rfl,?_,?_,by omega,?_,?_,(fun h=>by cases h),?_⟩
 ·exact IR.nil _
 ·exact IR.nil _
 ·intro hf;rw[j.out]at hf;exact .inr (by simp at hf;omega)
 ·intro x hf;rw[j.out]at hf;simp at hf;exact⟨rfl,by omega,hf.2.symm,by decide,by decide⟩
 ·exact al4 _ _ _ _ _
theorem cXn(e:EnvD)(s:SigD)(f vs:AJ)(n:Nat)(hn:n<18446744073709551616)(w:Ay)(he:EnvV w f e)(hs:SigV w vs s):AX fZ 100 #[f,vs,.int .i64 258,.int .u64 (n:Int)] w (ShP false (iX e s 258 n) n (sX 258) (nJ 258) w):=by
 obtain⟨a,b,d,rfl,h1,h2,g⟩:=he;obtain⟨As,cs,rfl,_⟩:=h1.len;obtain⟨Ag,cg,rfl⟩:=h2.shape;have k:=g;obtain⟨Am,cm,rfl,_⟩:=g;obtain⟨p,q,rfl,i,c⟩:=hs;obtain⟨Ap,cp,rfl⟩:=i.shape;obtain⟨Aq,cq,rfl⟩:=c.shape;have HO:=fQ c.ir;have j:=fQ (show iX e s 258 n=if n=0 then some ([],[])else none by simp[iX]);have l:=fQ hn;clear h1 h2 i c hn k;go_in;go_wp2;refine bodyPost_ret (v:=.tuple #[.agg #[.slice none 0 0,.slice none 0 0,.int .u64 0,.int .i64 0,.int .i64 0],.bool true]) (by simp[results,results100,go_sem]) rfl ?_;have:=l.out;refine⟨_,_,0,0,0,true,[],[],rfl,?_,?_,by omega,?_,?_,(fun h=>by cases h),?_⟩
 ·exact IR.nil _
 ·exact IR.nil _
 ·intro hf;rw[j.out]at hf;exact .inr (by simp at hf;omega)
 ·intro x hf;rw[j.out]at hf;simp at hf;exact⟨rfl,by omega,hf.2.symm,by decide,by decide⟩
 ·exact al4 _ _ _ _ _
theorem cJu(e:EnvD)(s:SigD)(f vs:AJ)(n:Nat)(hn:n<18446744073709551616)(w:Ay)(he:EnvV w f e)(hs:SigV w vs s):AX fZ 100 #[f,vs,.int .i64 27,.int .u64 (n:Int)] w (ShP false (iX e s 27 n) n (sX 27) (nJ 27) w):=by
 obtain⟨a,b,d,rfl,h1,h2,g⟩:=he;obtain⟨As,cs,rfl,_⟩:=h1.len;obtain⟨Ag,cg,rfl⟩:=h2.shape;have k:=g;obtain⟨Am,cm,rfl,_⟩:=g;obtain⟨p,q,rfl,i,c⟩:=hs;obtain⟨Ap,cp,rfl⟩:=i.shape;obtain⟨Aq,cq,rfl⟩:=c.shape;have HO:=fQ c.ir;have j:=fQ (show iX e s 27 n=if n=0 then some ([0,0,127],[0])else none by simp[iX]);have l:=fQ hn;clear h1 h2 i c hn k;go_in;go_wp2;refine bodyPost_ret (v:=.tuple #[.agg #[.slice (some ⟨w.heap.size+1+1+1+1,0,none⟩) 3 3,.slice (some ⟨w.heap.size+1+1+1+1+1,0,none⟩) 1 1,.int .u64 0,.int .i64 0,.int .i64 0],.bool true]) (by simp[results,results100,go_sem]) rfl ?_;have:=l.out;refine⟨_,_,0,0,0,true,[0,0,127],[0],rfl,?_,?_,by omega,?_,?_,(fun h=>by cases h),?_⟩
 ·exact IR.three (x:=0) (y:=0) (z:=127) ((at5 _ _ _ _ _ _ _).alloc _)
 ·exact IR.one (x:=0) (at6 _ _ _ _ _ _ _ _)
 ·intro hf;rw[j.out]at hf;exact .inr (by simp at hf;omega)
 ·intro x hf;rw[j.out]at hf;simp at hf;exact⟨rfl,by omega,hf.2.symm,by decide,by decide⟩
 ·exact al6 _ _ _ _ _ _ _
theorem cJv(e:EnvD)(s:SigD)(B vs:AJ)(n:Nat)(hn:n<18446744073709551616)(w:Ay)(he:EnvV w B e)(hs:SigV w vs s):AX fZ 100 #[B,vs,.int .i64 16,.int .u64 (n:Int)] w (ShP false (iX e s 16 n) n (sX 16) (nJ 16) w):=by
 obtain⟨a,b,d,rfl,h1,h2,C⟩:=he;obtain⟨As,cs,rfl,_⟩:=h1.len;obtain⟨i,cg,rfl⟩:=h2.shape;have D:=C;obtain⟨j,k,rfl,_⟩:=C;obtain⟨p,q,rfl,y,l⟩:=hs;obtain⟨m,cp,rfl⟩:=y.shape;obtain⟨o,r,rfl⟩:=l.shape;have HO:=fQ l.ir;have hl:=h1.fQb;by_cases K:n<e.sigs.length
 ·obtain⟨x,z⟩:∃ x,e.sigs[n]? = some x:=⟨_,Ax K⟩;have L:decide ((n:Int)<(e.sigs.length:Int))=true:=(by simp;omega);have ae:(n:Int)<(e.sigs.length:Int):=(by omega);obtain⟨f,go,p,q,rfl,E,M,c1,s0,s1⟩:=h1.sig z;obtain⟨F,G,rfl⟩:=s0.shape;obtain⟨H,I,rfl⟩:=s1.shape;have t:=fQ (show iX e s 16 n=some (x.inn,x.out) by simp[iX,z]);have N:=fQ hn;have O:=fQ s0.ir;have P:=fQ s1.ir;clear h1 h2 y l hn D z s0 s1;go_in;have u:=fQ (al4 w (.cells #[.slice (some ⟨f,go,none⟩) e.sigs.length cs,.int .i64 e.imports,.slice i e.globals.length cg,.slice j e.muts.length k,.bool e.mem] 26) (.cells #[.slice m s.inn.length cp,.slice o s.out.length r] 40) (.cells #[.slice none 0 0,.slice none 0 0,.int .u64 0,.int .i64 0,.int .i64 0] 151) (.cells #[.int .i64 127] 3));have J:=fQ ((((Blk.new w 26 #[.slice (some ⟨f,go,none⟩) e.sigs.length cs,.int .i64 e.imports,.slice i e.globals.length cg,.slice j e.muts.length k,.bool e.mem]).alloc (.cells #[.slice m s.inn.length cp,.slice o s.out.length r] 40)).alloc (.cells #[.slice none 0 0,.slice none 0 0,.int .u64 0,.int .i64 0,.int .i64 0] 151)).alloc (.cells #[.int .i64 127] 3));have c:=fQ ((at3 w (.cells #[.slice (some ⟨f,go,none⟩) e.sigs.length cs,.int .i64 e.imports,.slice i e.globals.length cg,.slice j e.muts.length k,.bool e.mem] 26) (.cells #[.slice m s.inn.length cp,.slice o s.out.length r] 40) 151 #[.slice none 0 0,.slice none 0 0,.int .u64 0,.int .i64 0,.int .i64 0]).alloc (.cells #[.int .i64 127] 3));go_wp2_with fail;generalize ((((w.alloc (.cells #[.slice (some ⟨f,go,none⟩) e.sigs.length cs,.int .i64 e.imports,.slice i e.globals.length cg,.slice j e.muts.length k,.bool e.mem] 26)).alloc (.cells #[.slice m s.inn.length cp,.slice o s.out.length r] 40)).alloc (.cells #[.slice none 0 0,.slice none 0 0,.int .u64 0,.int .i64 0,.int .i64 0] 151)).alloc (.cells #[.int .i64 127] 3))=W4 at u J c ⊢;have d0:=(u.out.cell (p:=⟨f,go+n*2,none⟩) E).trans M;have d1:=(u.out.cell (p:=⟨f,go+n*2+1,none⟩) E).trans c1;have e0:=J.out.cell 0;simp at e0;obtain⟨Q,R,S,T,U⟩:=gQ c.out;have z0:=frz c.out 0;have z1:=frz c.out 1;have z2:=frz c.out 2;have z3:=frz c.out 3;have z4:=frz c.out 4;have V:=c.out.lt;go_region;go_wp2;refine bodyPost_ret (v:=.tuple #[.agg #[.slice F x.inn.length G,.slice H x.out.length I,.int .u64 (n:Int),.int .i64 0,.int .i64 0],.bool true]) (by simp[results,results100,go_sem,V,Q,R,S,T,U]) rfl ?_;have:=N.out;have A:=(sQ u.out (g:=w.heap.size+1+1) (by omega) (.slice F x.inn.length G) (.slice H x.out.length I) (.int .u64 (n:Int)) (.int .i64 0) (.int .i64 0)).drew;refine⟨_,_,n,0,0,true,_,_,rfl,O.out.below A (Aj _),P.out.below A (Aj _),this,?_,?_,(fun h=>by cases h),A⟩
  ·intro hf;rw[t.out]at hf;cases hf
  ·intro x hf;rw[t.out]at hf;simp at hf;exact⟨rfl,Aj _,hf.symm,by decide,by decide⟩
 ·have L:decide ((n:Int)<(e.sigs.length:Int))=false:=(by simp;omega);have t:=fQ (show iX e s 16 n=none by simp[iX];omega);clear h1 h2 y l hn D;go_in;go_wp2;refine bodyPost_ret (v:=.tuple #[.agg #[.slice none 0 0,.slice none 0 0,.int .u64 0,.int .i64 0,.int .i64 0],.bool false]) (by simp[results,results100,go_sem]) rfl ?_;exact ShP.no t.out (al4 _ _ _ _ _)
theorem cJw(e:EnvD)(s:SigD)(k vs:AJ)(n:Nat)(hn:n<18446744073709551616)(w:Ay)(he:EnvV w k e)(hs:SigV w vs s):AX fZ 100 #[k,vs,.int .i64 35,.int .u64 (n:Int)] w (ShP false (iX e s 35 n) n (sX 35) (nJ 35) w):=by
 obtain⟨a,b,d,rfl,h1,h2,l⟩:=he;obtain⟨As,cs,rfl,_⟩:=h1.len;obtain⟨Ag,cg,rfl⟩:=h2.shape;have m:=l;obtain⟨Am,cm,rfl,_⟩:=l;obtain⟨p,q,rfl,i,c⟩:=hs;obtain⟨Ap,cp,rfl⟩:=i.shape;obtain⟨Aq,cq,rfl⟩:=c.shape;have HO:=fQ c.ir;have hl:=h2.fQb;by_cases r:n<e.globals.length
 ·obtain⟨x,j⟩:∃ x,e.globals[n]? = some x:=⟨_,Ax r⟩;have t:decide ((e.globals.length:Int)<=(n:Int))=false:=(by simp;omega);have o:¬e.globals.length<=n:=(by omega);have ae:(n:Int)<(e.globals.length:Int):=(by omega);obtain⟨f,go,rfl,aj,c0⟩:=h2.ir.cell j;have af:f<w.heap.size+1:=(by omega);have ag:f<w.heap.size+1+1:=(by omega);have ah:f<w.heap.size+1+1+1:=(by omega);have ai:f<w.heap.size+1+1+1+1:=(by omega);have g:=fQ (show iX e s 35 n=some ([],[x]) by simp[iX,j]);have u:=fQ hn;clear h1 h2 i c hn m j;go_in;go_wp2;refine bodyPost_ret (v:=.tuple #[.agg #[.slice none 0 0,.slice (some ⟨w.heap.size+1+1+1+1,0,none⟩) 1 1,.int .u64 (n:Int),.int .i64 0,.int .i64 0],.bool true]) (by simp[results,results100,go_sem]) rfl ?_;have:=u.out;refine⟨_,_,n,0,0,true,[],[x],rfl,IR.nil _,IR.one (at5 _ _ _ _ _ _ _),this,?_,?_,(fun h=>by cases h),al5 _ _ _ _ _ _⟩
  ·intro hf;rw[g.out]at hf;cases hf
  ·intro x hf;rw[g.out]at hf;simp at hf;exact⟨rfl,Aj _,hf.symm,by decide,by decide⟩
 ·have t:decide ((e.globals.length:Int)<=(n:Int))=true:=(by simp;omega);have o:e.globals.length<=n:=(by omega);have g:=fQ (show iX e s 35 n=none by simp[iX,o]);clear h1 h2 i c hn m;go_in;go_wp2;refine bodyPost_ret (v:=.tuple #[.agg #[.slice none 0 0,.slice none 0 0,.int .u64 0,.int .i64 0,.int .i64 0],.bool false]) (by simp[results,results100,go_sem]) rfl ?_;exact ShP.no g.out (al4 _ _ _ _ _)
theorem cJx(e:EnvD)(s:SigD)(m vs:AJ)(n:Nat)(hn:n<18446744073709551616)(w:Ay)(he:EnvV w m e)(hs:SigV w vs s)(o:e.muts.length=e.globals.length):AX fZ 100 #[m,vs,.int .i64 36,.int .u64 (n:Int)] w (ShP false (iX e s 36 n) n (sX 36) (nJ 36) w):=by
 obtain⟨a,b,d,rfl,h1,h2,r⟩:=he;obtain⟨As,cs,rfl,_⟩:=h1.len;obtain⟨Ag,cg,rfl⟩:=h2.shape;have t:=r;obtain⟨Am,cm,rfl,_⟩:=r;obtain⟨p,q,rfl,i,c⟩:=hs;obtain⟨Ap,cp,rfl⟩:=i.shape;obtain⟨Aq,cq,rfl⟩:=c.shape;have HO:=fQ c.ir;have hl:=h2.fQb;by_cases A:n<e.globals.length
 ·obtain⟨x,j⟩:∃ x,e.globals[n]? = some x:=⟨_,Ax A⟩;have B:decide ((e.globals.length:Int)<=(n:Int))=false:=(by simp;omega);have u:¬e.globals.length<=n:=(by omega);have ah:(n:Int)<(e.globals.length:Int):=(by omega);obtain⟨f,go,rfl,av,c0⟩:=h2.ir.cell j;have ai:f<w.heap.size+1:=(by omega);have aj:f<w.heap.size+1+1:=(by omega);have ak:f<w.heap.size+1+1+1:=(by omega);have al:f<w.heap.size+1+1+1+1:=(by omega);obtain⟨y,k⟩:∃ y,e.muts[n]? = some y:=⟨_,Ax (by omega)⟩;obtain⟨aw,ax,e',l,_⟩:=t;injection e' with C e2 D;subst C;subst D;have z:n<e.muts.length:=(by omega);have an:(n:Int)<(e.muts.length:Int):=(by omega);obtain⟨mb,mo,rfl,ay⟩:=l.addr (by omega);have ao:mb<w.heap.size+1:=(by omega);have aq:mb<w.heap.size+1+1:=(by omega);have ar:mb<w.heap.size+1+1+1:=(by omega);have au:mb<w.heap.size+1+1+1+1:=(by omega);have c1:=l.at_ z;rw[bKa z,(List.getElem?_eq_some_iff.1 k).2]at c1;have g:=fQ (show iX e s 36 n=if y=true then some ([x],[])else none by cases y <;> simp[iX,j,k]);have E:=fQ hn;clear h1 h2 i c hn l j k o;go_in;go_wp2_with fail;go_region;go_wp2;refine bodyPost_ret (v:=.tuple #[.agg #[.slice (some ⟨w.heap.size+1+1+1+1,0,none⟩) 1 1,.slice none 0 0,.int .u64 (n:Int),.int .i64 0,.int .i64 0],.bool y]) (by simp[results,results100,go_sem]) rfl ?_;have:=E.out;refine⟨_,_,n,0,0,y,[x],[],rfl,IR.one (at5 _ _ _ _ _ _ _).drew,IR.nil _,this,fun hf=>?_,fun x hf=>?_,(fun h=>by cases h),(al5 _ _ _ _ _ _).drew⟩
  ·rw[g.out]at hf
   cases y with
   | false=>exact .inl rfl
   | true=>cases hf
  ·rw[g.out]at hf
   cases y with
   | false=>cases hf
   | true=>
    simp at hf;exact⟨rfl,Aj _,hf.symm,by decide,by decide⟩
 ·have B:decide ((e.globals.length:Int)<=(n:Int))=true:=(by simp;omega);have u:e.globals.length<=n:=(by omega);have g:=fQ (show iX e s 36 n=none by simp[iX,u]);clear h1 h2 i c hn t o;go_in;go_wp2;refine bodyPost_ret (v:=.tuple #[.agg #[.slice none 0 0,.slice none 0 0,.int .u64 0,.int .i64 0,.int .i64 0],.bool false]) (by simp[results,results100,go_sem]) rfl ?_;exact ShP.no g.out (al4 _ _ _ _ _)
structure Off (op:Int):Prop where
 o0:(op == 256)=false
 o1:(op == 272)=false
 o2:(op == 273)=false
 o3:(op == 274)=false
 o4:(op == 275)=false
 o5:(op == 276)=false
 o6:(op == 277)=false
 o7:(op == 258)=false
 o8:(op == 27)=false
 o9:(op == 16)=false
 o10:(op == 35)=false
 o11:(op == 36)=false
theorem Off.form{op:Int}(h:Off op)(e:EnvD)(s:SigD)(n:Nat):iX e s op n=(if(fY op).isSome then if n=0 then some (gJ op,[kW op])else none else nZ e.mem op n)/\sX op=0/\nJ op=0:=by
 obtain⟨c,h1,h2,a,b,d,f,g,i,j,k,l⟩:=h;simp at c h1 h2 a b d f g i j k l;refine⟨?_,?_,?_⟩
 ·simp only[iX,c,h1,h2,a,b,d,f,g,i,j,k,l,if_false,or_self]
 ·simp[sX,h2,a,b]
 ·simp[nJ,h2,a,b]
theorem dQk{Q:Int->Prop}(k:Q 256)(h1:Q 272)(h2:Q 273)(l:Q 274)(m:Q 275)(n:Q 276)(o:Q 277)(p:Q 258)(q:Q 27)(r:Q 16)(s:Q 35)(t:Q 36)(hn:∀ op,Off op->Q op)(op:Int):Q op:=by
 by_cases a:op=256
 ·subst a;exact k
 by_cases b:op=272
 ·subst b;exact h1
 by_cases c:op=273
 ·subst c;exact h2
 by_cases d:op=274
 ·subst d;exact l
 by_cases e:op=275
 ·subst e;exact m
 by_cases f:op=276
 ·subst f;exact n
 by_cases g:op=277
 ·subst g;exact o
 by_cases h:op=258
 ·subst h;exact p
 by_cases i:op=27
 ·subst i;exact q
 by_cases j:op=16
 ·subst j;exact r
 by_cases g10:op=35
 ·subst g10;exact s
 by_cases g11:op=36
 ·subst g11;exact t
 exact hn op ⟨beq_false_of_ne a,beq_false_of_ne b,beq_false_of_ne c,beq_false_of_ne d,beq_false_of_ne e,beq_false_of_ne f,beq_false_of_ne g,beq_false_of_ne h,beq_false_of_ne i,beq_false_of_ne j,beq_false_of_ne g10,beq_false_of_ne g11⟩
theorem IR.own{c:Nat}(h:w.ownsRow base t 1 (.slice A l.length c) l.length (i64s l)):IR w (.slice A l.length c) l:=⟨A,c,rfl,Src.fQj h⟩
theorem IR.five{c:Nat}(h:w.ownsRow base t 1 (.slice A l.length c) l.length (i64s l))(hg:g<base)(a b d e f:AJ):
  IR (((((w.setCell ⟨g,0,none⟩ a).setCell ⟨g,1,none⟩ b).setCell ⟨g,2,none⟩ d).setCell ⟨g,3,none⟩ e).setCell ⟨g,4,none⟩ f) (.slice A l.length c) l:=by
 have key:∀ a,A=some a->a.block≠g:=by
  intro a ha;subst ha;have:=h.lt a.block (by rfl);omega
 refine⟨A,c,rfl,?_⟩;exact(((((Src.fQj h).setCell (p:=⟨g,0,none⟩) a key).setCell (p:=⟨g,1,none⟩) b key).setCell (p:=⟨g,2,none⟩) d key).setCell (p:=⟨g,3,none⟩) e key).setCell (p:=⟨g,4,none⟩) f key
theorem IR.fXk(h:IR w v l)(i:NewV base v)(hg:g<base)(a b d e f:AJ):
  IR (((((w.setCell ⟨g,0,none⟩ a).setCell ⟨g,1,none⟩ b).setCell ⟨g,2,none⟩ d).setCell ⟨g,3,none⟩ e).setCell ⟨g,4,none⟩ f) v l:=by
 have key:∀ A n c,v = .slice A n c->∀ a,A=some a->a.block≠g:=by
  intro A n c e a ha;have:=i A n c e a ha;omega
 exact((((h.setCell (p:=⟨g,0,none⟩) a key).setCell (p:=⟨g,1,none⟩) b key).setCell (p:=⟨g,2,none⟩) d key).setCell (p:=⟨g,3,none⟩) e key).setCell (p:=⟨g,4,none⟩) f key
theorem cXo(op:Int)(O : -9223372036854775808<=op)(P:op<=9223372036854775807)(Q:Off op)(e:EnvD)(s:SigD)(R vs:AJ)(n:Nat)(hn:n<18446744073709551616)(w:Ay)(he:EnvV w R e)(hs:SigV w vs s):
  AX fZ 100 #[R,vs,.int .i64 op,.int .u64 (n:Int)] w (ShP false (iX e s op n) n (sX op) (nJ op) w):=by
 obtain⟨hf,aq,ar⟩:=Q.form e s n;rw[aq,ar];obtain⟨a,b,d,rfl,h1,h2,h3⟩:=he;obtain⟨m,cs,rfl,_⟩:=h1.len;obtain⟨r,cg,rfl⟩:=h2.shape;obtain⟨t,u,rfl,_⟩:=h3;obtain⟨p,q,rfl,S,T⟩:=hs;obtain⟨y,cp,rfl⟩:=S.shape;obtain⟨z,A,rfl⟩:=T.shape;have HN:=fQ hn;obtain⟨g0,g1,g2,g3,g4,g5,g6,g7,g8,g9,g10,g11⟩:=Q;have B:=fQ (al4 w (.cells #[.slice m e.sigs.length cs,.int .i64 e.imports,.slice r e.globals.length cg,.slice t e.muts.length u,.bool e.mem] 26) (.cells #[.slice y s.inn.length cp,.slice z s.out.length A] 40) (.cells #[.slice none 0 0,.slice none 0 0,.int .u64 0,.int .i64 0,.int .i64 0] 151) (.cells #[.int .i64 127] 3));have U:=fQ ((((Blk.new w 26 #[.slice m e.sigs.length cs,.int .i64 e.imports,.slice r e.globals.length cg,.slice t e.muts.length u,.bool e.mem]).alloc (.cells #[.slice y s.inn.length cp,.slice z s.out.length A] 40)).alloc (.cells #[.slice none 0 0,.slice none 0 0,.int .u64 0,.int .i64 0,.int .i64 0] 151)).alloc (.cells #[.int .i64 127] 3));have C:=fQ ((at3 w (.cells #[.slice m e.sigs.length cs,.int .i64 e.imports,.slice r e.globals.length cg,.slice t e.muts.length u,.bool e.mem] 26) (.cells #[.slice y s.inn.length cp,.slice z s.out.length A] 40) 151 #[.slice none 0 0,.slice none 0 0,.int .u64 0,.int .i64 0,.int .i64 0]).alloc (.cells #[.int .i64 127] 3));have V:w.heap.size+1+1+1+1=((((w.alloc (.cells #[.slice m e.sigs.length cs,.int .i64 e.imports,.slice r e.globals.length cg,.slice t e.muts.length u,.bool e.mem] 26)).alloc (.cells #[.slice y s.inn.length cp,.slice z s.out.length A] 40)).alloc (.cells #[.slice none 0 0,.slice none 0 0,.int .u64 0,.int .i64 0,.int .i64 0] 151)).alloc (.cells #[.int .i64 127] 3)).heap.size:=(by simp);have W:=fQ V;clear h1 h2 S T hn V
 cases hg:fY op with
 | some gg=>
  have E:=fQ (show(fY op).isSome=true by simp[hg]);rw[hg]at hf;have k:=fQ (show iX e s op n=if n=0 then some (gJ op,[kW op])else none from hf);clear hf hg;go_in;go_wp2_with fail;refine(cZf op _ O P).mono ?_;rintro X w1 ⟨Y,c1,rfl,D,c⟩;rw[E.out];have l:=fQ (B.out.trans (c.mono B.out.size));have f:=fQ (C.out.below c C.out.lt);have HR:=fQ D;have HS:=fQ (c.size);clear c D;obtain⟨F,G,H,I,J⟩:=gQ f.out;have z0:=frz f.out 0;have z1:=frz f.out 1;have z2:=frz f.out 2;have z3:=frz f.out 3;have z4:=frz f.out 4;have K:=f.out.lt;go_wp2;refine bodyPost_ret (v:=.tuple #[.agg #[.slice Y (gJ op).length c1,.slice (some ⟨w1.heap.size,0,none⟩) 1 1,.int .u64 0,.int .i64 0,.int .i64 0],.bool true]) (by simp[results,results100,go_sem,K,F,G,H,I,J]) rfl ?_;have Z:=HR.out;rw[<-W.out]at Z;refine⟨_,_,0,0,0,true,gJ op,[kW op],rfl,?_,?_,by omega,?_,?_,(fun h=>by cases h),?_⟩
  ·exact(IR.five (g:=w.heap.size+1+1) Z (by omega) _ _ _ _ _).alloc _
  ·exact IR.one (x:=kW op) (Blk.newAt _ _ _ (by simp))
  ·intro hf;rw[k.out]at hf;exact .inr (by simp at hf;omega)
  ·intro x hf;rw[k.out]at hf;simp at hf;exact⟨rfl,by omega,hf.2.symm,rfl,rfl⟩
  ·exact(sQ l.out (by omega) _ _ _ _ _).alloc (by simp;exact l.out.size) _
 | none=>
  have E:=fQ (show(fY op).isSome=false by simp[hg]);rw[hg]at hf;have k:=fQ (show iX e s op n=nZ e.mem op n from hf);clear hf hg;go_in;go_wp2_with fail;refine(cZf op _ O P).mono ?_;rintro X w1 ⟨Y,c1,rfl,D,c⟩;rw[E.out];have l:=fQ (B.out.trans (c.mono B.out.size));have f:=fQ (C.out.below c C.out.lt);have F0:=fQ (U.out.below c U.out.lt);have HZ:=fQ c.size;clear c D;have e4:=F0.out.cell 4;simp at e4;go_wp2_with fail;refine(cJt op e.mem n HN.out _).mono ?_;rintro X w2 ⟨vi,vo,most,a,b,ok,i,o,rfl,L,M,ab,hP,hQ,an,N⟩;obtain⟨Ai,ci,rfl⟩:=L.shape;obtain⟨Ao,co,rfl⟩:=M.shape;have B2:=fQ (l.out.trans (N.mono l.out.size));have j:=fQ (f.out.below N f.out.lt);have au:=fQ L;have av:=fQ M;have HP:=fQ hP;have HQ:=fQ hQ;have HM:=fQ ab;have ao:=fQ (an rfl);clear an N L M hP hQ ab e4;obtain⟨F,G,H,I,J⟩:=gQ j.out;have z0:=frz j.out 0;have z1:=frz j.out 1;have z2:=frz j.out 2;have z3:=frz j.out 3;have z4:=frz j.out 4;have K:=j.out.lt;go_wp2;refine bodyPost_ret (v:=.tuple #[.agg #[.slice Ai i.length ci,.slice Ao o.length co,.int .u64 (most:Int),.int .i64 a,.int .i64 b],.bool ok]) (by simp[results,results100,go_sem,K,F,G,H,I,J]) rfl ?_;have hz:w.heap.size+1+1+1+1<=w1.heap.size:=(by rw[W.out];exact HZ.out);refine⟨_,_,most,a,b,ok,i,o,rfl,?_,?_,HM.out,?_,?_,(fun h=>by cases h),?_⟩
  ·exact IR.fXk au.out ao.out.1 (by omega) _ _ _ _ _
  ·exact IR.fXk av.out ao.out.2 (by omega) _ _ _ _ _
  ·rw[k.out];exact HP.out
  ·rw[k.out];exact HQ.out
  ·exact sQ B2.out (by omega) _ _ _ _ _
theorem cXp(op:Int)(b : -9223372036854775808<=op)(c:op<=9223372036854775807)(e:EnvD)(s:SigD)(a vs:AJ)(n:Nat)(hn:n<18446744073709551616)(w:Ay)(he:EnvV w a e)(hs:SigV w vs s)(d:e.muts.length=e.globals.length):
  AX fZ 100 #[a,vs,.int .i64 op,.int .u64 (n:Int)] w (ShP false (iX e s op n) n (sX op) (nJ op) w):=by
 revert b c
 revert op
 refine dQk (fun _ _=>cXg e s a vs n hn w he hs) (fun _ _=>cXh e s a vs n hn w he hs) (fun _ _=>cXi e s a vs n hn w he hs) (fun _ _=>cXj e s a vs n hn w he hs) (fun _ _=>cXk e s a vs n hn w he hs) (fun _ _=>cXl e s a vs n hn w he hs) (fun _ _=>cXm e s a vs n hn w he hs) (fun _ _=>cXn e s a vs n hn w he hs) (fun _ _=>cJu e s a vs n hn w he hs) (fun _ _=>cJv e s a vs n hn w he hs) (fun _ _=>cJw e s a vs n hn w he hs) (fun _ _=>cJx e s a vs n hn w he hs d) (fun op f h1 h2=>cXo op h1 h2 f e s a vs n hn w he hs)
end Go.Proofs.YtabibkpfgmolkaaGreat

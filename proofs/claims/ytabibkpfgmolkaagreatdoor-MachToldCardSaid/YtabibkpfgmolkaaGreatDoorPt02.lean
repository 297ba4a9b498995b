/- Lemmas for the claim, part 2. Conditions: none. -/
import Derived.Test.YtabibkpfgmolkaaGreatDoorPt01
import Derived.Shelf.Small.Bits
set_option maxRecDepth 100000
set_option maxHeartbeats 16000000
set_option linter.unusedVariables false
set_option linter.unusedSimpArgs false
open Go.Lib renaming hid→fQ
open Go.Proofs.Tryz renaming prog→fZ
open Go.Proofs.Tryz
open Go.RowKit
open Nat renaming le_refl→Aj
open List renaming getElem?_eq_getElem→Ax,take_of_length_le→Ak,mem_of_getElem?→Av,take_succ_eq_append_getElem→Aw,length_take→Ay,nodup_append→AJ
open Go.RowKit.Below renaming refl→Az
open Go renaming World→AQ,Value→AX,Calls→AK
open Go.RowKit renaming Below→AZ
open Go.Value renaming int->fF,slice->fG,bool->fH,tuple->fI,agg->fM,pointer->fN
open Go.IntKind renaming i64->fO,u64->fP
open Go.Obj renaming cells->fR
open Go.Ending renaming returned->fS
open Or renaming inl->fT,inr->fU
open Option renaming none->gh,some->gj
open Bool renaming true->gm,false->gn
namespace Go.Proofs
open Go.Shelf
def Tryz.gQo:Go.Shelf.Ren:=⟨fun|128=>165|n=>n,fun|51=>112|3=>3|4=>4|46=>99|5=>5|9=>9|n=>n,fun|n=>n⟩
def Tryz.gQm:Go.Shelf.Ren:=⟨fun|133=>150|128=>165|n=>n,fun|51=>112|3=>3|4=>4|46=>99|5=>5|9=>9|n=>n,fun|n=>n⟩
theorem Tryz.fYh:Go.Proofs.Lays.n133 fZ Tryz.gQm:={
 mixed:=by kernel_rfl
 f128:=Tryz.func165.trans (congrArg some (by kernel_rfl))
 f133:=Tryz.func150.trans (congrArg some (by kernel_rfl))
 t3:=underlying3
 a3:=isAgg3
 z3:=sizeOf3
 v3:=zeroValue3
 t4:=underlying4
 a4:=isAgg4
 z4:=sizeOf4
 v4:=zeroValue4
 t5:=underlying5
 a5:=isAgg5
 z5:=sizeOf5
 v5:=zeroValue5
 t9:=underlying9
 a9:=isAgg9
 z9:=sizeOf9
 v9:=zeroValue9
 t46:=underlying99
 a46:=isAgg99
 z46:=sizeOf99
 v46:=zeroValue99
 t51:=underlying112
 a51:=isAgg112
 z51:=sizeOf112
 v51:=zeroValue112 }
theorem Tryz.bits_LeadingZeros32(x:Int)(w:AQ)(a:0<=x)(h1:x<=4294967295):
  AK fZ 150 #[fF .u32 x] w fun e w'=>e = fS (fF fO (32 - (Lib.bitLen x.toNat:Int)))/\w'=w:=Any.bits_LeadingZeros32 Tryz.fYh x w a h1
def Tryz.gQn:Go.Shelf.Ren:=⟨fun|134=>147|129=>164|n=>n,fun|53=>52|3=>3|4=>4|46=>99|5=>5|9=>9|n=>n,fun|n=>n⟩
theorem Tryz.fYi:Go.Proofs.Lays.n134 fZ Tryz.gQn:={
 mixed:=by kernel_rfl
 f129:=Tryz.func164.trans (congrArg some (by kernel_rfl))
 f134:=Tryz.func147.trans (congrArg some (by kernel_rfl))
 t3:=underlying3
 a3:=isAgg3
 z3:=sizeOf3
 v3:=zeroValue3
 t4:=underlying4
 a4:=isAgg4
 z4:=sizeOf4
 v4:=zeroValue4
 t5:=underlying5
 a5:=isAgg5
 z5:=sizeOf5
 v5:=zeroValue5
 t9:=underlying9
 a9:=isAgg9
 z9:=sizeOf9
 v9:=zeroValue9
 t46:=underlying99
 a46:=isAgg99
 z46:=sizeOf99
 v46:=zeroValue99
 t53:=underlying52
 a53:=isAgg52
 z53:=sizeOf52
 v53:=zeroValue52 }
theorem Tryz.bits_LeadingZeros64(x:Int)(w:AQ)(a:0<=x)(h1:x<=18446744073709551615):
  AK fZ 147 #[fF fP x] w fun e w'=>e = fS (fF fO (64 - (Lib.bitLen x.toNat:Int)))/\w'=w:=Any.bits_LeadingZeros64 Tryz.fYi x w a h1
end Go.Proofs
namespace Go.Proofs.YtabibkpfgmolkaaGreatDoor
variable {w:AQ}{l:List Int}{k g n base:Nat}{A:Option Addr}{t:TypeId}{v:AX}{x p:Int}
def IR(w:AQ)(v:AX)(l:List Int):Prop:=∃ A c,v = fG A l.length c/\Src w A l.length (ix l)
theorem Ints.ir(h:Ints w v l):IR w v l:=by
 obtain⟨A,c,e,hs,_⟩:=h;exact⟨A,c,e,hs⟩
theorem IR.C{w w':AQ}{B:Nat}{v:AX}{l:List Int}(h:IR w v l)(a:AZ B w w')(b:w.heap.size<=B):IR w' v l:=by
 obtain⟨A,c,e,hs⟩:=h;exact⟨A,c,e,hs.C a b⟩
theorem IR.nil(w:AQ):IR w (fG gh 0 0) []:=⟨gh,0,rfl,Src.nil _ _⟩
theorem IR.drew{w:AQ}{v:AX}{l:List Int}(h:IR w v l):IR w.drew v l:=h
theorem IR.drewN{w:AQ}{v:AX}{l:List Int}(h:IR w v l)(n:Nat):IR (w.drewN n) v l:=h
theorem IR.alloc{w:AQ}{v:AX}{l:List Int}(h:IR w v l)(o:Obj):IR (w.alloc o) v l:=h.C ((Az w.heap.size _).alloc (Aj _) _) (Aj _)
theorem IR.one(h:gO w g t #[fF fO x]):IR w (fG (gj ⟨g,0,gh⟩) 1 1) [x]:=⟨_,_,rfl,gO.kE (cs:=#[fF fO x]) h rfl⟩
theorem gO.setCell{w:AQ}{g:Nat}{e:TypeId}{cs:Array AX}(h:gO w g e cs){p:Addr}(v:AX)(hp:g≠p.block):gO (w.setCell p v) g e cs:=(heap_setCell_other w p g v hp).trans h
theorem IR.two{y:Int}(h:gO w g t #[fF fO x,fF fO y]):IR w (fG (gj ⟨g,0,gh⟩) 2 2) [x,y]:=⟨_,_,rfl,gO.kE (cs:=#[fF fO x,fF fO y]) h rfl⟩
theorem IR.three{y z:Int}(h:gO w g t #[fF fO x,fF fO y,fF fO z]):IR w (fG (gj ⟨g,0,gh⟩) 3 3) [x,y,z]:=⟨_,_,rfl,gO.kE (cs:=#[fF fO x,fF fO y,fF fO z]) h rfl⟩
theorem IR.setCell{w:AQ}{v:AX}{l:List Int}(h:IR w v l){p:Addr}(u:AX)(hp:∀ A n c,v = fG A n c->∀ a,A=gj a->a.block≠p.block):IR (w.setCell p u) v l:=by
 obtain⟨A,c,e,hs⟩:=h;exact⟨A,c,e,hs.setCell u (hp _ _ _ e)⟩
theorem IR.of{c:Nat}(h:Src w A n (ix l))(hn:l.length=n):IR w (fG A n c) l:=by
 subst hn;exact⟨A,c,rfl,h⟩
def jq(w:AQ)(v:AX)(s:iu):Prop:=∃ a b,v = fM #[a,b]/\Ints w a s.a1/\Ints w b s.out
def iG(w:AQ)(v:AX)(e:ia):Prop:=∃ a b d,v = fM #[a,fF fO e.G,b,d,fH e.L]/\Structs 2 kA w a e.R/\Ints w b e.E/\Bools w d e.a3
def jz(w:AQ)(v:AX)(c:gP):Prop:=∃ a b d,v = fM #[fF fO c.op,fF fP (c.n:Int),a,b,d]/\c.ok/\Ints w a c.args/\Ints w b c.O/\Ints w d c.to
def jn(w:AQ)(v:AX)(x:gR):Prop:=∃ a b p d,v = fM #[a,b,fF fO x.M,p,d]/\Ints w a x.a2.a1/\Ints w b x.a2.out/\Ints w p x.params/\Structs 5 jE w d x.K
theorem jq.C{w w':AQ}{B:Nat}{r:AX}{s:iu}(h:jq w r s)(c:AZ B w w')(d:w.heap.size<=B):jq w' r s:=by
 obtain⟨a,b,e,h1,h2⟩:=h;exact⟨a,b,e,h1.C c d,h2.C c d⟩
theorem jz.C{w w':AQ}{B:Nat}{r:AX}{c:gP}(h:jz w r c)(f:AZ B w w')(g:w.heap.size<=B):jz w' r c:=by
 obtain⟨a,b,d,e,i,h1,h2,j⟩:=h;exact⟨a,b,d,e,i,h1.C f g,h2.C f g,j.C f g⟩
theorem iG.C{w w':AQ}{B:Nat}{r:AX}{e:ia}(h:iG w r e)(c:AZ B w w')(f:w.heap.size<=B):iG w' r e:=by
 obtain⟨a,b,d,e',h1,h2,g⟩:=h;exact⟨a,b,d,e',h1.C c f (fun r x q=>q.C c f),h2.C c f,g.C c f⟩
theorem jn.C{w w':AQ}{B:Nat}{r:AX}{x:gR}(h:jn w r x)(c:AZ B w w')(e:w.heap.size<=B):jn w' r x:=by
 obtain⟨a,b,p,d,e',h1,h2,f,g⟩:=h;exact⟨a,b,p,d,e',h1.C c e,h2.C c e,f.C c e,g.C c e (fun r x q=>q.C c e)⟩
def isK(t:Int):Bool:=t == 127 || t == 126
def lY(m:Nat)(l:List Int):Bool:=decide (l.length<=m) && l.all isK
def je(s:iu):Bool:=lY 8 s.a1 && lY 8 s.out
def iH(e:ia):Bool:=decide (e.R.length<=64/\0<=e.G/\e.G<=e.R.length/\e.a3.length=e.E.length) && (lY 32 e.E && e.R.all je)
def mW(m:Bool)(op:Int)(n:Nat):Option (List Int×List Int):=
 if m=gn then gh
 else if op=257 then if n<=8589934592 then gj ([127],[])else gh
 else match acc op with
  | some (k,_,st,_)=>if n<=4294967295 then gj (if st then([127,k],[])else([127],[k]))else gh
  | none=>if op=63 then if n=0 then gj ([],[127])else gh else if op=64 then if n=0 then gj ([127],[127])else gh else gh
def iV(e:ia)(s:iu)(op:Int)(n:Nat):Option (List Int×List Int):=
 if op=256 then gj ([],[0])
 else if op=272 then if n=0 then gj ([0],[0])else gh
 else if op=273\/op=277\/op=258 then if n=0 then gj ([],[])else gh
 else if op=274\/op=275 then if n=0 then gj ([127],[])else gh
 else if op=276 then if n=0 then gj (s.out,[])else gh
 else if op=27 then if n=0 then gj ([0,0,127],[0])else gh
 else if op=16 then(e.R[n]?).map fun g=>(g.a1,g.out)
 else if op=35 then(e.E[n]?).map fun g=>([],[g])
 else if op=36 then match e.E[n]?,e.a3[n]? with
  | some g,gj gm=>gj ([g],[])
  | _,_=>gh
 else if(gQ op).isSome then if n=0 then gj (gJ op,[mX op])else gh
 else mW e.L op n
def vQ(op:Int):Int:=if op=273\/op=274\/op=275 then 1 else 0
def sW(op:Int):Int:=if op=273\/op=274 then 1 else if op=275 then 65 else 0
def within(n:Int)(l:List Int):Bool:=l.all fun x=>decide (0<=x/\x<n)
def codeOk(e:ia)(r:gR)(c:gP):Bool:=match iV e r.a2 c.op c.n with
 | none=>gn
 | some (i,o)=>decide (c.args.length=i.length/\c.O.length=o.length/\vQ c.op<=c.to.length/\(c.to.length:Int)<=sW c.op) && (within r.M c.args && (within r.M c.O && (decide c.O.Nodup && within r.K.length c.to)))
def ib(c:gP)(i:Nat):List Int:=
 if c.op=276\/c.op=277 then[]else if c.op=273\/c.op=275 then c.to else if c.op=274 then[(i:Int)+1,c.to.headD 0]else[(i:Int)+1]
def j9(r:gR):Prop:=∃ rk:Nat->Nat,∀ i c (k:Nat),r.K[i]? = gj c->c.op≠258->(k:Int)∈ib c i->rk k<rk i
structure iq (e:ia) (r:gR):Prop where
 J:iH e=gm
 a2:je r.a2=gm
 n1:1<=r.K.length
 n2:r.K.length<=4096
 p1:0<=r.M
 p2:r.M<=4096
 par:r.params.length=r.a2.a1.length
 pin:within r.M r.params=gm
 pw:r.params.Nodup
 K:∀ c∈r.K,codeOk e r c=gm
 first:∀ c,r.K[0]? = gj c->c.op=258
 last:∀ c,r.K[r.K.length - 1]? = gj c->c.op=273\/c.op=275\/c.op=276\/c.op=277
 rank:j9 r
inductive Live (r:gR):Nat->Int->Prop
 | arg {i:Nat} {c:gP} {p:Int}:r.K[i]? = gj c->p∈c.args->Live r i p
 | step {i k:Nat} {c:gP} {p:Int}:r.K[i]? = gj c->(k:Int)∈ib c i->Live r k p->p ∉ c.O->Live r i p
def jI(r:gR)(i:Nat)(p:Int):Prop:=∃ c,r.K[i]? = gj c/\∃ k:Nat,(k:Int)∈ib c i/\Live r k p
def jj(l:List Int)(P:Int->Prop):Prop:=l.Pairwise (· < ·)/\∀ x,x∈l↔P x
theorem jj.one{m:List Int}{P:Int->Prop}(h:jj l P)(k:jj m P):l=m:=by
 have hp:l.Perm m:=by
  rw[List.perm_iff_count];have n1:l.Nodup:=h.1.imp (fun h=>fu);have n2:m.Nodup:=k.1.imp (fun h=>fu);intro a;rw[n1.count,n2.count];by_cases ha:a∈l
  ·rw[gz ha,gz ((k.2 a).2 ((h.2 a).1 ha))]
  ·rw[gy ha,gy (fun c=>ha ((h.2 a).2 ((k.2 a).1 c)))]
 exact hp.eq_of_pairwise (le:=fun a b=>a<=b) (fun a b _ _ h1 h2=>fu) (h.1.imp (fun h=>fu)) (k.1.imp (fun h=>fu))
theorem aWi{α:Type}{l:List α}{p:α}{q:α->Bool}(h:l[k]? = gj p)(h1:(l.take k).any q=gn)(h2:q p=gn):(l.take (k+1)).any q=gn:=by
 obtain⟨a,e⟩:=gw h;rw[Aw a,e,List.any_append,h1];simp[h2]
theorem bQq{α:Type}{l:List α}{p:α}{q:α->Bool}(h:l[k]? = gj p)(h2:q p=gm):l.any q=gm:=List.any_eq_true.2 ⟨p,Av h,h2⟩
theorem IR.cell{w:AQ}{A:Option Addr}{n c:Nat}{l:List Int}(h:IR w (fG A n c) l){k:Nat}{x:Int}(d:l[k]? = gj x):∃ b o,A=gj ⟨b,o,gh⟩/\b<w.heap.size/\w.cell? ⟨b,o+k,gh⟩=gj (fF fO x):=by
 obtain⟨A',c',e,hs⟩:=h;injection e with f e2 e3;subst f;obtain⟨a,e⟩:=gw d;obtain⟨b,o,rfl,g⟩:=hs.addr fu;have:=hs.at_ (k:=k) a;rw[eKx a,e]at this;exact⟨b,o,rfl,g,this⟩
theorem IR.len{c:Nat}(h:IR w (fG A n c) l):n=l.length:=by
 obtain⟨A',c',e,hs⟩:=h;injection e
theorem Structs.a2{c:Nat}{l:List iu}(h:Structs 2 kA w (fG A n c) l){x:iu}(a:l[k]? = gj x):
  ∃ b o p q,A=gj ⟨b,o,gh⟩/\b<w.heap.size/\w.cell? ⟨b,o+k*2,gh⟩=gj p/\w.cell? ⟨b,o+k*2+1,gh⟩=gj q/\Ints w p x.a1/\Ints w q x.out:=by
 obtain⟨b,o,c',r,e,d,hr,⟨p,q,rfl,h1,h2⟩,hc⟩:=h.at fu a;injection e with f e2 e3;exact⟨b,o,p,q,f,d,hc 0 p rfl,hc 1 q rfl,h1,h2⟩
theorem Structs.K{c:Nat}{l:List gP}(h:Structs 5 jE w (fG A n c) l){x:gP}(a:l[k]? = gj x):
  ∃ b o p q r,A=gj ⟨b,o,gh⟩/\b<w.heap.size/\w.cell? ⟨b,o+k*5,gh⟩=gj (fF fO x.op)/\w.cell? ⟨b,o+k*5+1,gh⟩=gj (fF fP (x.n:Int))/\w.cell? ⟨b,o+k*5+2,gh⟩=gj p/\w.cell? ⟨b,o+k*5+3,gh⟩=gj q/\w.cell? ⟨b,o+k*5+4,gh⟩=gj r /\
   x.ok/\Ints w p x.args/\Ints w q x.O/\Ints w r x.to:=by
 obtain⟨b,o,c',rr,e,d,hr,⟨p,q,r,rfl,f,h1,h2,g⟩,hc⟩:=h.at fu a;injection e with i e2 e3;exact⟨b,o,p,q,r,i,d,hc 0 _ rfl,hc 1 _ rfl,hc 2 _ rfl,hc 3 _ rfl,hc 4 _ rfl,f,h1,h2,g⟩
theorem Structs.kj{α:Type}{R:AQ->List AX->α->Prop}{c:Nat}{l:List α}(h:Structs k R w (fG A n c) l):n=l.length/\n<=c/\n<=140737488351232/\c<=9223372036854775807:=by
 obtain⟨A',c',e,h1,h2⟩:=h.len;injection e with e1 e2 a;subst e2;subst a;exact⟨rfl,h1,h2⟩
theorem Ints.kj{c:Nat}(h:Ints w (fG A n c) l):n=l.length/\n<=c/\n<=17592186043904/\c<=9223372036854775807:=by
 obtain⟨A',c',e,hs,h1,h2,h3⟩:=h;injection e with e1 e2 a;subst a;exact⟨e2,fu,fu,fu⟩
theorem Ints.I(h:Ints w v l):∃ A c,v = fG A l.length c:=by
 obtain⟨A,c,e,_⟩:=h;exact⟨A,c,e⟩
theorem IR.I(h:IR w v l):∃ A c,v = fG A l.length c:=by
 obtain⟨A,c,e,_⟩:=h;exact⟨A,c,e⟩
theorem bKm{α:Type}(l:List α)(p:α->Bool):(!(l.any fun x=>!p x))=l.all p:=by
 induction l with
 | nil=>rfl
 | cons a l b=>simp only[List.any_cons,List.all_cons,Bool.not_or,Bool.not_not,b]
theorem bWv(A:Option Addr)(n c:Nat)(l:List Int)(Q:Int->Bool)(w:AQ)(hs:IR w (fG A n c) l)(hm:n<=9223372036854775807)
  (hq:∀ x∈l,∀ v w',AZ w.heap.size w w'->v = fF fO x->AK fZ 101 #[v] w' fun e w2=>e = fS (fH (Q x))/\AZ w'.heap.size w' w2) :
  AK fZ 133 #[fG A n c,.func (.func 101) #[] #[]] w fun e w'=>∃ r:Int,e = fS (fF fO r)/\decide (0<=r)=l.any Q/\AZ w.heap.size w w':=by
 have j:=hs.len;have t:=fQ hs;have m:=fQ j;have u:=fQ hq;clear hs hq j;go_in;go_wp2;go_loopw [8] (fun i wr=>∃ k:Nat,k<=n/\i = fF fO k/\Hid ((l.take k).any Q=gn)/\Hid (AZ w.heap.size w wr)) (fun i _=>n - (intOf i).toNat)
 case atStart=>exact⟨0,fu,rfl,fQ rfl,fQ (Az _ _)⟩
 case round=>
  obtain⟨k,hk,rfl,o,a⟩:=hrel;by_cases y:k<n
  ·have ah:(k:Int)<n:=fu;obtain⟨x,f⟩:∃ x,l[k]? = gj x:=⟨_,Ax (by rw[<-m.out];exact y)⟩;obtain⟨ab,ao,rfl,ai,aj⟩:=(t.C a.out (Aj _)).cell f;have p:=fQ f;have q:=a.out.size;have s:=fQ (u.out x (Av f));clear f
   cases g:Q x with
   | true=>
    have b:=fQ g;clear g;go_wp2_with fail;refine(s.out _ _ a.out rfl).mono ?_;rintro e w1 ⟨rfl,d⟩;rw[b.out];have h:=fQ (a.out.trans (d.mono q));clear d;go_wp2;go_ret;exact⟨k,rfl,by rw[bQq p.out b.out];simp,h.out⟩
   | false=>
    have b:=fQ g;clear g;go_wp2_with fail;refine(s.out _ _ a.out rfl).mono ?_;rintro e w1 ⟨rfl,d⟩;rw[b.out];have h:=fQ (a.out.trans (d.mono q));clear d;go_wp2;exact⟨⟨k+1,fu,fz,fQ (aWi p.out o.out b.out),h⟩,fB⟩
  ·go_wp2;go_ret;refine⟨-1,rfl,?_,a.out⟩;have:=o.out;rw[Ak (by rw[<-m.out];omega)]at this;rw[this];rfl
theorem bWw(A:Option Addr)(n c:Nat)(l:List Int)(Q:Int->Bool)(w:AQ)(hs:IR w (fG A n c) l)(d:n<=9223372036854775807)
  (hq:∀ x∈l,∀ v w',AZ w.heap.size w w'->v = fF fO x->AK fZ 101 #[v] w' fun e w2=>e = fS (fH (Q x))/\AZ w'.heap.size w' w2) :
  AK fZ 100 #[fG A n c,.func (.func 101) #[] #[]] w fun e w'=>e = fS (fH (l.any Q))/\AZ w.heap.size w w':=by
 have f:=fQ hs;have g:=fQ hq;clear hs hq;go_in;go_wp2_with fail;refine(bWv A n c l Q _ f.out d g.out).mono ?_;rintro e w1 ⟨r,rfl,a,b⟩;have h:=fQ a;have i:=fQ b;clear a b;go_wp2;go_ret;exact⟨by rw[<-h.out];rfl,i.out⟩
theorem bKn(A:Option Addr)(n c:Nat)(l:List Int)(Q:Int->Bool)(j:Nat)(w:AQ)(hs:IR w (fG A n c) l)(hm:n<=9223372036854775807)
  (hq:∀ x∈l,∀ v w',AZ w.heap.size w w'->v = fF fO x->AK fZ 104 #[v,fN (gj ⟨j,0,gh⟩)] w' fun e w2=>e = fS (fH (Q x))/\AZ w'.heap.size w' w2) :
  AK fZ 133 #[fG A n c,.func (.func 104) #[] #[fN (gj ⟨j,0,gh⟩)]] w fun e w'=>∃ r:Int,e = fS (fF fO r)/\decide (0<=r)=l.any Q/\AZ w.heap.size w w':=by
 have m:=hs.len;have u:=fQ hs;have o:=fQ m;have y:=fQ hq;clear hs hq m;go_in;go_wp2;go_loopw [8] (fun i wr=>∃ k:Nat,k<=n/\i = fF fO k/\Hid ((l.take k).any Q=gn)/\Hid (AZ w.heap.size w wr)) (fun i _=>n - (intOf i).toNat)
 case atStart=>exact⟨0,fu,rfl,fQ rfl,fQ (Az _ _)⟩
 case round=>
  obtain⟨k,hk,rfl,p,a⟩:=hrel;by_cases z:k<n
  ·have ah:(k:Int)<n:=fu;obtain⟨x,f⟩:∃ x,l[k]? = gj x:=⟨_,Ax (by rw[<-o.out];exact z)⟩;obtain⟨ab,ao,rfl,ai,aj⟩:=(u.C a.out (Aj _)).cell f;have q:=fQ f;have s:=a.out.size;have t:=fQ (y.out x (Av f));clear f
   cases g:Q x with
   | true=>
    have b:=fQ g;clear g;go_wp2_with fail;refine(t.out _ _ a.out rfl).mono ?_;rintro e w1 ⟨rfl,d⟩;rw[b.out];have h:=fQ (a.out.trans (d.mono s));clear d;go_wp2;go_ret;exact⟨k,rfl,by rw[bQq q.out b.out];simp,h.out⟩
   | false=>
    have b:=fQ g;clear g;go_wp2_with fail;refine(t.out _ _ a.out rfl).mono ?_;rintro e w1 ⟨rfl,d⟩;rw[b.out];have h:=fQ (a.out.trans (d.mono s));clear d;go_wp2;exact⟨⟨k+1,fu,fz,fQ (aWi q.out p.out b.out),h⟩,fB⟩
  ·go_wp2;go_ret;refine⟨-1,rfl,?_,a.out⟩;have:=p.out;rw[Ak (by rw[<-o.out];omega)]at this;rw[this];rfl
theorem bKo(A:Option Addr)(n c:Nat)(l:List Int)(Q:Int->Bool)(a:Nat)(w:AQ)(hs:IR w (fG A n c) l)(f:n<=9223372036854775807)
  (hq:∀ x∈l,∀ v w',AZ w.heap.size w w'->v = fF fO x->AK fZ 104 #[v,fN (gj ⟨a,0,gh⟩)] w' fun e w2=>e = fS (fH (Q x))/\AZ w'.heap.size w' w2) :
  AK fZ 100 #[fG A n c,.func (.func 104) #[] #[fN (gj ⟨a,0,gh⟩)]] w fun e w'=>e = fS (fH (l.any Q))/\AZ w.heap.size w w':=by
 have g:=fQ hs;have h:=fQ hq;clear hs hq;go_in;go_wp2_with fail;refine(bKn A n c l Q a _ g.out f h.out).mono ?_;rintro e w1 ⟨r,rfl,b,d⟩;have i:=fQ b;have j:=fQ d;clear b d;go_wp2;go_ret;exact⟨by rw[<-i.out];rfl,j.out⟩
theorem bZf(A:Option Addr)(n c:Nat)(l:List iu)(Q:iu->Bool)(w:AQ)(hs:Structs 2 kA w (fG A n c) l)(hm:n<=9223372036854775807)
  (hq:∀ x∈l,∀ v w',AZ w.heap.size w w'->jq w' v x->AK fZ 69 #[v] w' fun e w2=>e = fS (fH (Q x))/\AZ w'.heap.size w' w2) :
  AK fZ 103 #[fG A n c,.func (.func 69) #[] #[]] w fun e w'=>∃ r:Int,e = fS (fF fO r)/\decide (0<=r)=l.any Q/\AZ w.heap.size w w':=by
 obtain⟨m,ai,af⟩:=hs.kj;have B:=fQ hs;have o:=fQ m;have C:=fQ hq;clear hs hq m;go_in;go_wp2;go_loopw [8] (fun i wr=>∃ k:Nat,k<=n/\i = fF fO k/\Hid ((l.take k).any Q=gn)/\Hid (AZ w.heap.size w wr)) (fun i _=>n - (intOf i).toNat)
 case atStart=>exact⟨0,fu,rfl,fQ rfl,fQ (Az _ _)⟩
 case round=>
  obtain⟨k,hk,rfl,s,a⟩:=hrel;by_cases D:k<n
  ·have ak:(k:Int)<n:=fu;obtain⟨x,f⟩:∃ x,l[k]? = gj x:=⟨_,Ax (by rw[<-o.out];exact D)⟩;obtain⟨ab,ao,p,q,rfl,al,c0,c1,s0,s1⟩:=(B.C a.out (Aj _) (fun _ _ h=>h.C a.out (Aj _))).a2 f;obtain⟨pA,pc,rfl⟩:=s0.I;obtain⟨qA,qc,rfl⟩:=s1.I;have t:=fQ (show jq wr (fM #[_,_]) x from⟨_,_,rfl,s0,s1⟩);clear s0 s1;have u:=fQ f;have y:=a.out.size;have z:=fQ (C.out x (Av f));clear f
   cases g:Q x with
   | true=>
    have b:=fQ g;clear g;go_wp2_with fail;refine(z.out _ _ a.out t.out).mono ?_;rintro e w1 ⟨rfl,d⟩;rw[b.out];have j:=fQ (a.out.trans (d.mono y));clear d;go_wp2;go_ret;exact⟨k,rfl,by rw[bQq u.out b.out];simp,j.out⟩
   | false=>
    have b:=fQ g;clear g;go_wp2_with fail;refine(z.out _ _ a.out t.out).mono ?_;rintro e w1 ⟨rfl,d⟩;rw[b.out];have j:=fQ (a.out.trans (d.mono y));clear d;go_wp2;exact⟨⟨k+1,fu,fz,fQ (aWi u.out s.out b.out),j⟩,fB⟩
  ·go_wp2;go_ret;refine⟨-1,rfl,?_,a.out⟩;have:=s.out;rw[Ak (by rw[<-o.out];omega)]at this;rw[this];rfl
theorem bZg(A:Option Addr)(n c:Nat)(l:List iu)(Q:iu->Bool)(w:AQ)(hs:Structs 2 kA w (fG A n c) l)(d:n<=9223372036854775807)
  (hq:∀ x∈l,∀ v w',AZ w.heap.size w w'->jq w' v x->AK fZ 69 #[v] w' fun e w2=>e = fS (fH (Q x))/\AZ w'.heap.size w' w2) :
  AK fZ 68 #[fG A n c,.func (.func 69) #[] #[]] w fun e w'=>e = fS (fH (l.any Q))/\AZ w.heap.size w w':=by
 have f:=fQ hs;have g:=fQ hq;clear hs hq;go_in;go_wp2_with fail;refine(bZf A n c l Q _ f.out d g.out).mono ?_;rintro e w1 ⟨r,rfl,a,b⟩;have h:=fQ a;have i:=fQ b;clear a b;go_wp2;go_ret;exact⟨by rw[<-h.out];rfl,i.out⟩
theorem bWx(A:Option Addr)(n c:Nat)(l:List gP)(Q:gP->Bool)(m o:Nat)(w:AQ)(hs:Structs 5 jE w (fG A n c) l)(hm:n<=9223372036854775807)
  (hq:∀ x∈l,∀ v w',AZ w.heap.size w w'->jz w' v x->AK fZ 74 #[v,fN (gj ⟨m,0,gh⟩),fN (gj ⟨o,0,gh⟩)] w' fun e w2=>e = fS (fH (Q x))/\AZ w'.heap.size w' w2) :
  AK fZ 105 #[fG A n c,.func (.func 74) #[] #[fN (gj ⟨m,0,gh⟩),fN (gj ⟨o,0,gh⟩)]] w fun e w'=>∃ r:Int,e = fS (fF fO r)/\decide (0<=r)=l.any Q/\AZ w.heap.size w w':=by
 obtain⟨s,ai,af⟩:=hs.kj;have D:=fQ hs;have t:=fQ s;have E:=fQ hq;clear hs hq s;go_in;go_wp2;go_loopw [8] (fun i wr=>∃ k:Nat,k<=n/\i = fF fO k/\Hid ((l.take k).any Q=gn)/\Hid (AZ w.heap.size w wr)) (fun i _=>n - (intOf i).toNat)
 case atStart=>exact⟨0,fu,rfl,fQ rfl,fQ (Az _ _)⟩
 case round=>
  obtain⟨k,hk,rfl,u,a⟩:=hrel;by_cases F:k<n
  ·have ak:(k:Int)<n:=fu;obtain⟨x,f⟩:∃ x,l[k]? = gj x:=⟨_,Ax (by rw[<-t.out];exact F)⟩;obtain⟨ab,ao,p,q,r,rfl,al,c0,c1,c2,c3,c4,s0,s1,s2,s3⟩:=(D.C a.out (Aj _) (fun _ _ h=>h.C a.out (Aj _))).K f;obtain⟨pA,pc,rfl⟩:=s1.I;obtain⟨qA,qc,rfl⟩:=s2.I;obtain⟨rA,rc,rfl⟩:=s3.I;have y:=fQ (show jz wr (fM #[fF fO x.op,fF fP (x.n:Int),_,_,_]) x from⟨_,_,_,rfl,s0,s1,s2,s3⟩);clear s0 s1 s2 s3;have z:=fQ f;have B:=a.out.size;have C:=fQ (E.out x (Av f));clear f
   cases g:Q x with
   | true=>
    have b:=fQ g;clear g;go_wp2_with fail;refine(C.out _ _ a.out y.out).mono ?_;rintro e w1 ⟨rfl,d⟩;rw[b.out];have j:=fQ (a.out.trans (d.mono B));clear d;go_wp2;go_ret;exact⟨k,rfl,by rw[bQq z.out b.out];simp,j.out⟩
   | false=>
    have b:=fQ g;clear g;go_wp2_with fail;refine(C.out _ _ a.out y.out).mono ?_;rintro e w1 ⟨rfl,d⟩;rw[b.out];have j:=fQ (a.out.trans (d.mono B));clear d;go_wp2;exact⟨⟨k+1,fu,fz,fQ (aWi z.out u.out b.out),j⟩,fB⟩
  ·go_wp2;go_ret;refine⟨-1,rfl,?_,a.out⟩;have:=u.out;rw[Ak (by rw[<-t.out];omega)]at this;rw[this];rfl
theorem bWy(A:Option Addr)(n c:Nat)(l:List gP)(Q:gP->Bool)(a b:Nat)(w:AQ)(hs:Structs 5 jE w (fG A n c) l)(g:n<=9223372036854775807)
  (hq:∀ x∈l,∀ v w',AZ w.heap.size w w'->jz w' v x->AK fZ 74 #[v,fN (gj ⟨a,0,gh⟩),fN (gj ⟨b,0,gh⟩)] w' fun e w2=>e = fS (fH (Q x))/\AZ w'.heap.size w' w2) :
  AK fZ 73 #[fG A n c,.func (.func 74) #[] #[fN (gj ⟨a,0,gh⟩),fN (gj ⟨b,0,gh⟩)]] w fun e w'=>e = fS (fH (l.any Q))/\AZ w.heap.size w w':=by
 have h:=fQ hs;have i:=fQ hq;clear hs hq;go_in;go_wp2_with fail;refine(bWx A n c l Q a b _ h.out g i.out).mono ?_;rintro e w1 ⟨r,rfl,d,f⟩;have j:=fQ d;have k:=fQ f;clear d f;go_wp2;go_ret;exact⟨by rw[<-j.out];rfl,k.out⟩
theorem cVw(t:Int)(w:AQ):AK fZ 102 #[fF fO t] w fun e w'=>e = fS (fH (isK t))/\w=w':=by
 cases h1:(t == 127)with
 | true=>
  have a:=fQ (show isK t=gm by simp[isK,h1]);go_in;go_wp2;go_ret;exact⟨by rw[a.out];rfl,rfl⟩
 | false=>
  have a:=fQ (show isK t=(t == 126) by simp only[isK,h1,Bool.false_or]);go_in;go_wp2;go_ret;exact⟨by rw[a.out];rfl,rfl⟩
theorem cVx(t:Int)(w:AQ):AK fZ 101 #[fF fO t] w fun e w'=>e = fS (fH (!isK t))/\AZ w.heap.size w w':=by
 go_in;go_wp2_with fail;refine gu (cVw _ _) ?_;go_wp2;go_ret;exact⟨rfl,Az _ _⟩
theorem rS(m:Nat)(a:Int)(d:a=m)(v:AX)(l:List Int)(w:AQ)(hs:IR w v l)(g:l.length<=9223372036854775807):
  AK fZ 67 #[fF fO a,v] w fun e w'=>e = fS (fH (lY m l))/\AZ w.heap.size w w':=by
 obtain⟨A,c,rfl⟩:=hs.I;have i:=fQ hs;clear hs;by_cases h:l.length<=m
 ·have j:decide ((l.length:Int)<=a)=gm:=fw;have b:=fQ (show lY m l = !(l.any fun x=>!isK x) by rw[bKm];simp[lY,h]);clear h d;go_in;go_wp2_with fail;refine(bWw A l.length c l (fun x=>!isK x) _ i.out g (fun x hx v w' hb e=>by subst e;exact cVx x w')).mono ?_;rintro e w1 ⟨rfl,f⟩;have k:=fQ f;clear f;go_wp2;go_ret;exact⟨by rw[b.out];rfl,k.out⟩
 ·have j:decide ((l.length:Int)<=a)=gn:=fw;have b:=fQ (show lY m l=gn by simp[lY,h]);clear h d;go_in;go_wp2;go_ret;exact⟨by rw[b.out];rfl,Az _ _⟩
theorem cQd(v:AX)(s:iu)(w:AQ)(hs:jq w v s):
  AK fZ 70 #[v] w fun e w'=>e = fS (fH (je s))/\AZ w.heap.size w w':=by
 obtain⟨a,b,rfl,hi,f⟩:=hs;obtain⟨m,ci,rfl⟩:=hi.I;obtain⟨n,o,rfl⟩:=f.I;have aj:=hi.kj;have ak:=f.kj;have d:=fQ (show AZ w.heap.size w (w.alloc (fR #[fG m s.a1.length ci,fG n s.out.length o] 62))from(Az _ _).alloc (Aj _) _);have p:=fQ (hi.ir.C d.out (Aj _));have t:=fQ (f.ir.C d.out (Aj _));have g:=gO.a4 w 62 #[fG m s.a1.length ci,fG n s.out.length o];have q:=fQ g;have u:=g.cell 0;have c1:=g.cell 1;simp at u c1;clear hi f g
 cases h:lY 8 s.a1 with
 | true=>
  have j:=fQ h;have k:=fQ (show je s=lY 8 s.out by simp only[je,h,Bool.true_and]);clear h;go_in;go_wp2_with fail;refine(rS 8 8 rfl _ s.a1 _ p.out fu).mono ?_;rintro e w1 ⟨rfl,c⟩;rw[j.out];have i:=fQ (d.trans (c.mono d.out.size));have x:=fQ (t.C c (Aj _));have l:=q.C c q.lt;have y:=l.cell 0;have z:=l.cell 1;simp at y z;clear c l;go_wp2_with fail;refine(rS 8 8 rfl _ s.out _ x.out fu).mono ?_;rintro e w2 ⟨rfl,r⟩;have A:=fQ (i.trans (r.mono i.out.size));clear r;go_wp2;go_ret;exact⟨by rw[k.out];rfl,A.out⟩
 | false=>
  have j:=fQ h;have k:=fQ (show je s=gn by simp only[je,h,Bool.false_and]);clear h;go_in;go_wp2_with fail;refine(rS 8 8 rfl _ s.a1 _ p.out fu).mono ?_;rintro e w1 ⟨rfl,c⟩;rw[j.out];have i:=fQ (d.trans (c.mono d.out.size));clear c;go_wp2;go_ret;exact⟨by rw[k.out];rfl,i.out⟩
theorem bWz(v:AX)(s:iu)(w:AQ)(hs:jq w v s):
  AK fZ 69 #[v] w fun e w'=>e = fS (fH (!je s))/\AZ w.heap.size w w':=by
 have f:=fQ hs;obtain⟨a,b,rfl,_⟩:=hs;have c:=fQ (show AZ w.heap.size w (w.alloc (fR #[a,b] 62))from(Az _ _).alloc (Aj _) _);have g:=fQ (f.C c.out (Aj _));go_in;go_wp2_with fail;refine(cQd _ s _ g.out).mono ?_;rintro e w1 ⟨rfl,d⟩;have h:=fQ (c.trans (d.mono c.out.size));clear d;go_wp2;go_ret;exact⟨rfl,h.out⟩
theorem bVi(e:ia):(decide (e.G<0)=gm/\iH e=gn)\/(decide (e.G<0)=gn/\decide ((e.R.length:Int)<e.G)=gm/\iH e=gn) \/
  (decide (e.G<0)=gn/\decide ((e.R.length:Int)<e.G)=gn/\decide (64<(e.R.length:Int))=gm/\iH e=gn) \/
  (decide (e.G<0)=gn/\decide ((e.R.length:Int)<e.G)=gn/\decide (64<(e.R.length:Int))=gn/\((e.a3.length:Int) != (e.E.length:Int))=gm/\(e.a3.length != e.E.length)=gm/\iH e=gn) \/
  (decide (e.G<0)=gn/\decide ((e.R.length:Int)<e.G)=gn/\decide (64<(e.R.length:Int))=gn/\((e.a3.length:Int) != (e.E.length:Int))=gn/\(e.a3.length != e.E.length)=gn/\iH e=(lY 32 e.E && e.R.all je)):=by
 by_cases h1:e.G<0
 ·refine fT ⟨by simpa using h1,?_⟩;simp only[iH];rw[gE fu];rfl
 by_cases h2:(e.R.length:Int)<e.G
 ·refine fU (fT ⟨fw,by simpa using h2,?_⟩);simp only[iH];rw[gE fu];rfl
 by_cases a:64<(e.R.length:Int)
 ·refine fU (fU (fT ⟨fw,fw,by simpa using a,?_⟩));simp only[iH];rw[gE fu];rfl
 by_cases h4:e.a3.length=e.E.length
 ·refine fU (fU (fU (fU ⟨fw,fw,fw,fw,fw,?_⟩)));simp only[iH];rw[gD fu];rfl
 ·refine fU (fU (fU (fT ⟨fw,fw,fw,fw,fw,?_⟩)));simp only[iH];rw[gE fu];rfl
theorem aZc(v:AX)(e:ia)(w:AQ)(hs:iG w v e):
  AK fZ 44 #[v] w fun j w'=>j = fS (fH (iH e))/\AZ w.heap.size w w':=by
 obtain⟨a,b,d,rfl,hs,hg,y⟩:=hs;obtain⟨l,cs,rfl,_⟩:=hs.len;obtain⟨n,cg,rfl⟩:=hg.I;obtain⟨o,p,rfl,_⟩:=y;have aj:=hg.kj;have ak:=hs.kj;have c:=fQ (show AZ w.heap.size w (w.alloc (fR #[fG l e.R.length cs,fF fO e.G,fG n e.E.length cg,fG o e.a3.length p,fH e.L] 26))from(Az _ _).alloc (Aj _) _);have z:=fQ (hs.C c.out (Aj _) (fun _ _ h=>h.C c.out (Aj _)));have q:=fQ (hg.ir.C c.out (Aj _));have r:=fQ (gO.a4 w 26 #[fG l e.R.length cs,fF fO e.G,fG n e.E.length cg,fG o e.a3.length p,fH e.L]);clear hs hg;rcases bVi e with⟨h1,he⟩|⟨h1,h2,he⟩|⟨h1,h2,s,he⟩|⟨h1,h2,s,A,B,he⟩|⟨h1,h2,s,A,B,he⟩
 ·have f:=fQ he;clear he;go_in;go_wp2;go_ret;exact⟨by rw[f.out];rfl,c.out⟩
 ·have f:=fQ he;clear he;go_in;go_wp2;go_ret;exact⟨by rw[f.out];rfl,c.out⟩
 ·have f:=fQ he;clear he;go_in;go_wp2;go_ret;exact⟨by rw[f.out];rfl,c.out⟩
 ·have f:=fQ he;clear he;go_in;go_wp2;go_ret;exact⟨by rw[f.out];rfl,c.out⟩
 ·cases i:lY 32 e.E with
  | false=>
   rw[i]at he;have f:=fQ he;have m:=fQ i;clear he i;go_in;go_wp2_with fail;refine(rS 32 32 rfl _ e.E _ q.out fu).mono ?_;rintro j w1 ⟨rfl,g⟩;rw[m.out];have k:=fQ (c.trans (g.mono c.out.size));clear g;go_wp2;go_ret;exact⟨by rw[f.out];rfl,k.out⟩
  | true=>
   rw[i]at he;have f:=fQ (show iH e = !(e.R.any fun x=>!je x) by rw[he,bKm];rfl);have m:=fQ i;clear he i;go_in;go_wp2_with fail;refine(rS 32 32 rfl _ e.E _ q.out fu).mono ?_;rintro j w1 ⟨rfl,g⟩;rw[m.out];have k:=fQ (c.trans (g.mono c.out.size));have C:=fQ (z.C g (Aj _) (fun _ _ h=>h.C g (Aj _)));have t:=r.C g r.lt;have D:=t.cell 0;simp at D;clear g t;go_wp2_with fail;refine(bZg l e.R.length cs e.R (fun x=>!je x) _ C.out fu (fun x hx v w' hb hv=>bWz v x w' hv)).mono ?_;rintro j w2 ⟨rfl,u⟩;have E:=fQ (k.trans (u.mono k.out.size));clear u;go_wp2;go_ret;exact⟨by rw[f.out];rfl,E.out⟩
theorem bVl{α:Type}{l:List α}{p:α}{q:α->Bool}(h:l[k]? = gj p)(h1:(l.take k).all q=gm)(h2:q p=gm):(l.take (k+1)).all q=gm:=by
 obtain⟨a,e⟩:=gw h;rw[Aw a,e,List.all_append,h1];simp[h2]
theorem cQg{α:Type}{l:List α}{p:α}{q:α->Bool}(h:l[k]? = gj p)(h2:q p=gn):l.all q=gn:=by
 rw[List.all_eq_false];exact⟨p,Av h,by simp[h2]⟩
theorem bVm(t:Int)(w:AQ):AK fZ 110 #[fF fO t] w fun e w'=>e = fS (fH (isK t))/\w=w':=by
 cases h1:(t == 127)with
 | true=>
  have a:=fQ (show isK t=gm by simp[isK,h1]);go_in;go_wp2;go_ret;exact⟨by rw[a.out];rfl,rfl⟩
 | false=>
  have a:=fQ (show isK t=(t == 126) by simp only[isK,h1,Bool.false_or]);go_in;go_wp2;go_ret;exact⟨by rw[a.out];rfl,rfl⟩
theorem aJq(m:Nat)(b:Int)(q:b=m)(v:AX)(l:List Int)(w:AQ)(hs:IR w v l)(t:l.length<=9223372036854775807):
  AK fZ 78 #[v,fF fO b] w fun e w'=>e = fS (fH (lY m l))/\AZ w.heap.size w w':=by
 obtain⟨A,c,rfl⟩:=hs.I;have u:=fQ hs;clear hs;obtain⟨n,hn⟩:=fX l.length;rw[hn]at t ⊢;have j:=fQ hn;by_cases h:n<=m
 ·have y:decide (b<(n:Int))=gn:=fw;have d:=fQ (show lY m l=l.all isK by simp[lY,hn,h]);clear h q hn;go_in;go_wp2;go_loopw [5] (fun i wr=>∃ k:Nat,k<=n/\i = fF fO k/\Hid ((l.take k).all isK=gm)/\Hid (AZ w.heap.size w wr)) (fun i _=>n - (intOf i).toNat)
  case atStart=>exact⟨0,fu,rfl,fQ rfl,fQ (Az _ _)⟩
  case round=>
   obtain⟨k,hk,rfl,r,f⟩:=hrel;by_cases z:k<n
   ·have ag:(k:Int)<n:=fu;obtain⟨x,o⟩:∃ x,l[k]? = gj x:=⟨_,Ax (by rw[j.out];exact z)⟩;have p:=u.C f.out (Aj _);rw[j.out]at p;obtain⟨ab,ao,rfl,ah,ai⟩:=p.cell o;have s:=fQ o;clear o p
    cases g:isK x with
    | true=>
     have a:=fQ g;clear g;go_wp2_with (go_at_call 110;refine gu (bVm _ _) ?_;rw[a.out]);exact⟨⟨k+1,fu,fz,fQ (bVl s.out r.out a.out),f⟩,fB⟩
    | false=>
     have a:=fQ g;clear g;go_wp2_with (go_at_call 110;refine gu (bVm _ _) ?_;rw[a.out]);go_ret;exact⟨by rw[d.out,cQg s.out a.out];rfl,f.out⟩
   ·have D:=fQ (show l.all isK=gm by have:=r.out;rwa[Ak (by rw[j.out];omega)]at this);go_wp2;go_ret;exact⟨by rw[d.out,D.out];rfl,f.out⟩
 ·have y:decide (b<(n:Int))=gm:=fw;have d:=fQ (show lY m l=gn by simp[lY,hn,h]);clear h q hn;go_in;go_wp2;go_ret;exact⟨by rw[d.out];rfl,Az _ _⟩
theorem cQh(v:AX)(s:iu)(w:AQ)(hs:jq w v s):
  AK fZ 79 #[v] w fun e w'=>e = fS (fH (je s))/\AZ w.heap.size w w':=by
 obtain⟨a,b,rfl,hi,f⟩:=hs;obtain⟨m,ci,rfl⟩:=hi.I;obtain⟨n,o,rfl⟩:=f.I;have aj:=hi.kj;have ak:=f.kj;have d:=fQ (show AZ w.heap.size w (w.alloc (fR #[fG m s.a1.length ci,fG n s.out.length o] 62))from(Az _ _).alloc (Aj _) _);have p:=fQ (hi.ir.C d.out (Aj _));have t:=fQ (f.ir.C d.out (Aj _));have g:=gO.a4 w 62 #[fG m s.a1.length ci,fG n s.out.length o];have q:=fQ g;have u:=g.cell 0;have c1:=g.cell 1;simp at u c1;clear hi f g
 cases h:lY 8 s.a1 with
 | true=>
  have j:=fQ h;have k:=fQ (show je s=lY 8 s.out by simp only[je,h,Bool.true_and]);clear h;go_in;go_wp2_with fail;refine(aJq 8 8 rfl _ s.a1 _ p.out fu).mono ?_;rintro e w1 ⟨rfl,c⟩;rw[j.out];have i:=fQ (d.trans (c.mono d.out.size));have x:=fQ (t.C c (Aj _));have l:=q.C c q.lt;have y:=l.cell 0;have z:=l.cell 1;simp at y z;clear c l;go_wp2_with fail;refine(aJq 8 8 rfl _ s.out _ x.out fu).mono ?_;rintro e w2 ⟨rfl,r⟩;have A:=fQ (i.trans (r.mono i.out.size));clear r;go_wp2;go_ret;exact⟨by rw[k.out];rfl,A.out⟩
 | false=>
  have j:=fQ h;have k:=fQ (show je s=gn by simp only[je,h,Bool.false_and]);clear h;go_in;go_wp2_with fail;refine(aJq 8 8 rfl _ s.a1 _ p.out fu).mono ?_;rintro e w1 ⟨rfl,c⟩;rw[j.out];have i:=fQ (d.trans (c.mono d.out.size));clear c;go_wp2;go_ret;exact⟨by rw[k.out];rfl,i.out⟩
theorem cWb(e:ia):(decide (64<(e.R.length:Int))=gm/\iH e=gn)\/(decide (64<(e.R.length:Int))=gn/\decide (e.G<0)=gm/\iH e=gn) \/
  (decide (64<(e.R.length:Int))=gn/\decide (e.G<0)=gn/\decide ((e.R.length:Int)<e.G)=gm/\iH e=gn) \/
  (decide (64<(e.R.length:Int))=gn/\decide (e.G<0)=gn/\decide ((e.R.length:Int)<e.G)=gn/\lY 32 e.E=gn/\iH e=gn) \/
  (decide (64<(e.R.length:Int))=gn/\decide (e.G<0)=gn/\decide ((e.R.length:Int)<e.G)=gn/\lY 32 e.E=gm/\((e.a3.length:Int) != (e.E.length:Int))=gm/\(e.a3.length != e.E.length)=gm/\iH e=gn) \/
  (decide (64<(e.R.length:Int))=gn/\decide (e.G<0)=gn/\decide ((e.R.length:Int)<e.G)=gn/\lY 32 e.E=gm/\((e.a3.length:Int) != (e.E.length:Int))=gn/\(e.a3.length != e.E.length)=gn/\iH e=e.R.all je):=by
 rcases bVi e with⟨h1,he⟩|⟨h1,h2,he⟩|⟨h1,h2,a,he⟩|⟨h1,h2,a,b,c,he⟩|⟨h1,h2,a,b,c,he⟩
 ·cases a:decide (64<(e.R.length:Int))with
  | true=>exact fT ⟨rfl,he⟩
  | false=>exact fU (fT ⟨rfl,h1,he⟩)
 ·cases a:decide (64<(e.R.length:Int))with
  | true=>exact fT ⟨rfl,he⟩
  | false=>exact fU (fU (fT ⟨rfl,h1,h2,he⟩))
 ·exact fT ⟨a,he⟩
 ·cases hk:lY 32 e.E with
  | false=>exact fU (fU (fU (fT ⟨a,h1,h2,rfl,he⟩)))
  | true=>exact fU (fU (fU (fU (fT ⟨a,h1,h2,rfl,b,c,he⟩))))
 ·cases hk:lY 32 e.E with
  | false=>exact fU (fU (fU (fT ⟨a,h1,h2,rfl,by rw[he,hk];rfl⟩)))
  | true=>exact fU (fU (fU (fU (fU ⟨a,h1,h2,rfl,b,c,by rw[he,hk];rfl⟩))))
theorem aXf(v:AX)(e:ia)(w:AQ)(hs:iG w v e):
  AK fZ 49 #[v] w fun r w'=>r = fS (fH (iH e))/\AZ w.heap.size w w':=by
 obtain⟨a,b,d,rfl,hs,hg,L⟩:=hs;obtain⟨B,cs,rfl,_⟩:=hs.len;obtain⟨C,cg,rfl⟩:=hg.I;obtain⟨D,E,rfl,_⟩:=L;have ar:=hg.kj;have au:=hs.kj;have f:=fQ (show AZ w.heap.size w (w.alloc (fR #[fG B e.R.length cs,fF fO e.G,fG C e.E.length cg,fG D e.a3.length E,fH e.L] 26))from(Az _ _).alloc (Aj _) _);have M:=fQ (hs.C f.out (Aj _) (fun _ _ h=>h.C f.out (Aj _)));have N:=fQ (hg.ir.C f.out (Aj _));have F:=fQ (gO.a4 w 26 #[fG B e.R.length cs,fF fO e.G,fG C e.E.length cg,fG D e.a3.length E,fH e.L]);clear hs hg;rcases cWb e with⟨h1,he⟩|⟨h1,h2,he⟩|⟨h1,h2,y,he⟩|⟨h1,h2,y,s,he⟩|⟨h1,h2,y,s,O,P,he⟩|⟨h1,h2,y,s,O,P,he⟩
 ·have c:=fQ he;clear he;go_in;go_wp2;go_ret;exact⟨by rw[c.out];rfl,f.out⟩
 ·have c:=fQ he;clear he;go_in;go_wp2;go_ret;exact⟨by rw[c.out];rfl,f.out⟩
 ·have c:=fQ he;clear he;go_in;go_wp2;go_ret;exact⟨by rw[c.out];rfl,f.out⟩
 all_goals
  have c:=fQ he;have Q:=fQ s;clear he s;go_in;go_wp2_with fail;refine(aJq 32 32 rfl _ e.E _ N.out fu).mono ?_;rintro r w1 ⟨rfl,l⟩;rw[Q.out];have j:=fQ (f.trans (l.mono f.out.size));have R:=fQ (M.C l (Aj _) (fun _ _ h=>h.C l (Aj _)));have m:=fQ (F.C l F.lt);have t:=m.cell 0;have G:=m.cell 2;have H:=m.cell 3;simp at t G H;clear l
 ·go_wp2;go_ret;exact⟨by rw[c.out];rfl,j.out⟩
 ·go_wp2;go_ret;exact⟨by rw[c.out];rfl,j.out⟩
 ·go_wp2;clear t G H;go_loopw [3] (fun i wr=>∃ k:Nat,k<=e.R.length/\i = fF fO k/\Hid ((e.R.take k).all je=gm)/\Hid (AZ w1.heap.size w1 wr)) (fun i _=>e.R.length - (intOf i).toNat)
  case atStart=>exact⟨0,fu,rfl,fQ rfl,fQ (Az _ _)⟩
  case round=>
   obtain⟨k,hk,rfl,I,g⟩:=hrel;have S:=fQ (m.C g.out m.lt);have t:=S.cell 0;simp at t;by_cases T:k<e.R.length
   ·have aq:(k:Int)<(e.R.length:Int):=fu;obtain⟨x,z⟩:∃ x,e.R[k]? = gj x:=⟨_,Ax T⟩;obtain⟨ab,ao,p,q,rfl,aw,c0,c1,s0,s1⟩:=(R.C g.out (Aj _) (fun _ _ h=>h.C g.out (Aj _))).a2 z;obtain⟨pA,pc,rfl⟩:=s0.I;obtain⟨qA,qc,rfl⟩:=s1.I;have J:=fQ (show jq wr (fM #[_,_]) x from⟨_,_,rfl,s0,s1⟩);have K:=fQ z;clear z s0 s1
    cases u:je x with
    | true=>
     have n:=fQ u;clear u;go_wp2_with fail;refine(cQh _ x _ J.out).mono ?_;rintro r V ⟨rfl,o⟩;rw[n.out];have A:=fQ (g.out.trans (o.mono g.out.size));clear o;go_wp2;exact⟨⟨k+1,fu,fz,fQ (bVl K.out I.out n.out),A⟩,fB⟩
    | false=>
     have n:=fQ u;clear u;go_wp2_with fail;refine(cQh _ x _ J.out).mono ?_;rintro r V ⟨rfl,o⟩;rw[n.out];have A:=fQ (g.out.trans (o.mono g.out.size));clear o;go_wp2;go_ret;exact⟨by rw[c.out,cQg K.out n.out];rfl,j.trans (A.mono j.out.size)⟩
   ·have W:=fQ (show e.R.all je=gm by have:=I.out;rwa[Ak fu]at this);go_wp2;go_ret;exact⟨by rw[c.out,W.out];rfl,j.trans (g.out.mono j.out.size)⟩
def ka(base:Nat)(v:AX):Prop:=∀ A n c,v = fG A n c->∀ a,A=gj a->base<=a.block
theorem ka.nil(base:Nat):ka base (fG gh 0 0):=by
 intro A n c e a ha;injection e with e;rw[<-e]at ha;cases ha
theorem ka.at{base g n c:Nat}(h:base<=g):ka base (fG (gj ⟨g,0,gh⟩) n c):=by
 intro A n c e a ha;injection e with e;rw[<-e]at ha;injection ha with ha;subst ha;exact h
def kP(fr:Bool)(F:Option (List Int×List Int))(n:Nat)(lo hi:Int)(w:AQ)(d:Ending)(w':AQ):Prop:=
 ∃ (c vo:AX) (most:Nat) (a b:Int) (ok:Bool) (i o:List Int),d = fS (fI #[fM #[c,vo,fF fP (most:Int),fF fO a,fF fO b],fH ok])/\IR w' c i/\IR w' vo o/\most<18446744073709551616 /\
  (F=gh->ok=gn\/most<n)/\(∀ x,F=gj x->ok=gm/\n<=most/\x=(i,o)/\a=lo/\b=hi)/\(fr=gm->ka w.heap.size c/\ka w.heap.size vo)/\AZ w.heap.size w w'
theorem kP.no{fr:Bool}{F:Option (List Int×List Int)}{n:Nat}{lo hi:Int}{w':AQ}(hF:F=gh)(a:AZ w.heap.size w w'):
  kP fr F n lo hi w (fS (fI #[fM #[fG gh 0 0,fG gh 0 0,fF fP 0,fF fO 0,fF fO 0],fH gn])) w':=
 ⟨_,_,0,0,0,gn,[],[],rfl,IR.nil _,IR.nil _,fu,fun _=>fT rfl,(fun x h=>by rw[hF]at h;cases h),fun _=>⟨ka.nil _,ka.nil _⟩,a⟩
theorem gZ{e:TypeId}{a b c d f:AX}(h:gO w g e #[a,b,c,d,f]):
  w.cell? ⟨g,0,gh⟩=gj a/\w.cell? ⟨g,1,gh⟩=gj b/\w.cell? ⟨g,2,gh⟩=gj c/\w.cell? ⟨g,3,gh⟩=gj d/\w.cell? ⟨g,4,gh⟩=gj f:=by
 have i:=h.cell 0;have c1:=h.cell 1;have j:=h.cell 2;have k:=h.cell 3;have l:=h.cell 4;simp at i c1 j k l;exact⟨i,c1,j,k,l⟩
theorem ik{e:TypeId}{cs:Array AX}(h:gO w g e cs)(i:Nat):w.frozen? ⟨g,i,gh⟩=gn:=frozen_of_row w g i _ _ h
theorem zX{B:Nat}{w':AQ}(h:AZ B w w')(hg:B<=g)(a b c d e:AX):
  AZ B w (((((w'.setCell ⟨g,0,gh⟩ a).setCell ⟨g,1,gh⟩ b).setCell ⟨g,2,gh⟩ c).setCell ⟨g,3,gh⟩ d).setCell ⟨g,4,gh⟩ e):=
 ((((h.setCell (p:=⟨g,0,gh⟩) hg a).setCell (p:=⟨g,1,gh⟩) hg b).setCell (p:=⟨g,2,gh⟩) hg c).setCell (p:=⟨g,3,gh⟩) hg d).setCell (p:=⟨g,4,gh⟩) hg e
theorem rU{cs:Array AX}(h:gO w k t cs)(hg:k≠g)(a b c d e:AX):
  gO (((((w.setCell ⟨g,0,gh⟩ a).setCell ⟨g,1,gh⟩ b).setCell ⟨g,2,gh⟩ c).setCell ⟨g,3,gh⟩ d).setCell ⟨g,4,gh⟩ e) k t cs:=
 ((((h.setCell (p:=⟨g,0,gh⟩) a hg).setCell (p:=⟨g,1,gh⟩) b hg).setCell (p:=⟨g,2,gh⟩) c hg).setCell (p:=⟨g,3,gh⟩) d hg).setCell (p:=⟨g,4,gh⟩) e hg
theorem cVk(m:Bool)(n:Nat)(hn:n<18446744073709551616)(w:AQ):AK fZ 134 #[fF fO 257,fH m] w (kP gm (mW m 257 n) n 0 0 w):=by
 have ha:acc 257=gh:=fx;have j:=fQ (show fV 257 = fI #[fF fO 0,fF fO 0,fH gn,fH gn] by simp[fV,ha]);have c:=fQ (show mW m 257 n=if m=gn then gh else if n<=8589934592 then gj ([127],[])else gh by simp[mW]);clear ha;have k:=fQ hn;clear hn;go_in;go_wp2_with fail;have d:=fQ (show AZ w.heap.size w ((w.alloc (fR #[fG gh 0 0,fG gh 0 0,fF fP 0,fF fO 0,fF fO 0] 156)).alloc (fR #[fF fO 127] 3))from((Az _ _).alloc (Aj _) _).alloc fz _);have f:=fQ ((gO.a4 w 156 #[fG gh 0 0,fG gh 0 0,fF fP 0,fF fO 0,fF fO 0]).alloc (fR #[fF fO 127] 3));have g:=fQ (gO.X (w.alloc (fR #[fG gh 0 0,fG gh 0 0,fF fP 0,fF fO 0,fF fO 0] 156)) (N:=w.heap.size+1) 3 #[fF fO 127] fz);refine(qY 257 _).mono ?_;rintro e w1 ⟨rfl,b⟩;rw[j.out];have h:=fQ (d.trans (b.mono d.out.size));have a:=fQ (f.C b f.lt);have i:=fQ (g.C b g.lt);clear b;have l:=a.lt;obtain⟨o,p,q,r,s⟩:=gZ a.out;have z0:=ik a.out 0;have z1:=ik a.out 1;have z2:=ik a.out 2;have z3:=ik a.out 3;have z4:=ik a.out 4;go_wp2;refine bodyPost_ret (v:=fI #[fM #[fG (gj ⟨w.heap.size+1,0,gh⟩) 1 1,fG gh 0 0,fF fP 8589934592,fF fO 0,fF fO 0],fH m]) (by simp[results,results134,go_sem,o,p,q,r,s]) rfl ?_;have:=k.out;refine⟨_,_,8589934592,0,0,m,[127],[],rfl,?_,?_,fu,?_,?_,?_,?_⟩
 ·exact IR.one (t:=3) (x:=127) (rU i.out fu _ _ _ _ _)
 ·exact IR.nil _
 ·intro hf;rw[c.out]at hf
  cases m with
  | false=>exact fT rfl
  | true=>exact fU (by simp at hf;omega)
 ·intro x hf;rw[c.out]at hf
  cases m with
  | false=>simp at hf
  | true=>
   simp at hf;exact⟨rfl,fu,hf.2.symm,rfl,rfl⟩
 ·exact fun _=>⟨ka.at (by have:=h.out.size;omega),ka.nil _⟩
 ·exact(zX h.out (Aj _) _ _ _ _ _)
theorem dXu(m:Bool)(n:Nat)(hn:n<18446744073709551616)(w:AQ):AK fZ 134 #[fF fO 63,fH m] w (kP gm (mW m 63 n) n 0 0 w):=by
 have ha:acc 63=gh:=fx;have j:=fQ (show fV 63 = fI #[fF fO 0,fF fO 0,fH gn,fH gn] by simp[fV,ha]);have c:=fQ (show mW m 63 n=if m=gn then gh else if n=0 then gj ([],[127])else gh by simp[mW,ha]);clear ha;have k:=fQ hn;clear hn;go_in;go_wp2_with fail;have d:=fQ (show AZ w.heap.size w ((w.alloc (fR #[fG gh 0 0,fG gh 0 0,fF fP 0,fF fO 0,fF fO 0] 156)).alloc (fR #[fF fO 127] 3))from((Az _ _).alloc (Aj _) _).alloc fz _);have f:=fQ ((gO.a4 w 156 #[fG gh 0 0,fG gh 0 0,fF fP 0,fF fO 0,fF fO 0]).alloc (fR #[fF fO 127] 3));have g:=fQ (gO.X (w.alloc (fR #[fG gh 0 0,fG gh 0 0,fF fP 0,fF fO 0,fF fO 0] 156)) (N:=w.heap.size+1) 3 #[fF fO 127] fz);refine(qY 63 _).mono ?_;rintro e w1 ⟨rfl,b⟩;rw[j.out];have h:=fQ (d.trans (b.mono d.out.size));have a:=fQ (f.C b f.lt);have i:=fQ (g.C b g.lt);clear b;have l:=a.lt;obtain⟨o,p,q,r,s⟩:=gZ a.out;have z0:=ik a.out 0;have z1:=ik a.out 1;have z2:=ik a.out 2;have z3:=ik a.out 3;have z4:=ik a.out 4;go_wp2;refine bodyPost_ret (v:=fI #[fM #[fG gh 0 0,fG (gj ⟨w.heap.size+1,0,gh⟩) 1 1,fF fP 0,fF fO 0,fF fO 0],fH m]) (by simp[results,results134,go_sem,o,p,q,r,s]) rfl ?_;have:=k.out;refine⟨_,_,0,0,0,m,[],[127],rfl,?_,?_,fu,?_,?_,?_,?_⟩
 ·exact IR.nil _
 ·exact IR.one (t:=3) (x:=127) (rU i.out fu _ _ _ _ _)
 ·intro hf;rw[c.out]at hf
  cases m with
  | false=>exact fT rfl
  | true=>exact fU (by simp at hf;omega)
 ·intro x hf;rw[c.out]at hf
  cases m with
  | false=>simp at hf
  | true=>
   simp at hf;exact⟨rfl,fu,hf.2.symm,rfl,rfl⟩
 ·exact fun _=>⟨ka.nil _,ka.at (by have:=h.out.size;omega)⟩
 ·exact(zX h.out (Aj _) _ _ _ _ _)
theorem dXv(m:Bool)(n:Nat)(hn:n<18446744073709551616)(w:AQ):AK fZ 134 #[fF fO 64,fH m] w (kP gm (mW m 64 n) n 0 0 w):=by
 have ha:acc 64=gh:=fx;have j:=fQ (show fV 64 = fI #[fF fO 0,fF fO 0,fH gn,fH gn] by simp[fV,ha]);have f:=fQ (show mW m 64 n=if m=gn then gh else if n=0 then gj ([127],[127])else gh by simp[mW,ha]);clear ha;have k:=fQ hn;clear hn;go_in;go_wp2_with fail;have g:=fQ (show AZ w.heap.size w ((w.alloc (fR #[fG gh 0 0,fG gh 0 0,fF fP 0,fF fO 0,fF fO 0] 156)).alloc (fR #[fF fO 127] 3))from((Az _ _).alloc (Aj _) _).alloc fz _);have h:=fQ ((gO.a4 w 156 #[fG gh 0 0,fG gh 0 0,fF fP 0,fF fO 0,fF fO 0]).alloc (fR #[fF fO 127] 3));have i:=fQ (gO.X (w.alloc (fR #[fG gh 0 0,fG gh 0 0,fF fP 0,fF fO 0,fF fO 0] 156)) (N:=w.heap.size+1) 3 #[fF fO 127] fz);refine(qY 64 _).mono ?_;rintro e w1 ⟨rfl,b⟩;rw[j.out];have c:=fQ (g.trans (b.mono g.out.size));have a:=fQ (h.C b h.lt);have d:=fQ (i.C b i.lt);clear b;have l:=a.lt;obtain⟨o,p,q,r,s⟩:=gZ a.out;have z0:=ik a.out 0;have z1:=ik a.out 1;have z2:=ik a.out 2;have z3:=ik a.out 3;have z4:=ik a.out 4;go_wp2;refine bodyPost_ret (v:=fI #[fM #[fG (gj ⟨w.heap.size+1,0,gh⟩) 1 1,fG (gj ⟨w.heap.size+1,0,gh⟩) 1 1,fF fP 0,fF fO 0,fF fO 0],fH m]) (by simp[results,results134,go_sem,o,p,q,r,s]) rfl ?_;have:=k.out;refine⟨_,_,0,0,0,m,[127],[127],rfl,?_,?_,fu,?_,?_,?_,?_⟩
 ·exact IR.one (t:=3) (x:=127) (rU d.out fu _ _ _ _ _)
 ·exact IR.one (t:=3) (x:=127) (rU d.out fu _ _ _ _ _)
 ·intro hf;rw[f.out]at hf
  cases m with
  | false=>exact fT rfl
  | true=>exact fU (by simp at hf;omega)
 ·intro x hf;rw[f.out]at hf
  cases m with
  | false=>simp at hf
  | true=>
   simp at hf;exact⟨rfl,fu,hf.2.symm,rfl,rfl⟩
 ·exact fun _=>⟨ka.at (by have:=c.out.size;omega),ka.at (by have:=c.out.size;omega)⟩
 ·exact(zX c.out (Aj _) _ _ _ _ _)
theorem cQa(op k wd:Int)(i:Bool)(ha:acc op=gj (k,wd,gm,i))(m:Bool)(n:Nat)(hn:n<18446744073709551616)(w:AQ):AK fZ 134 #[fF fO op,fH m] w (kP gm (mW m op n) n 0 0 w):=by
 have j:=fQ (show fV op = fI #[fF fO k,fF fO wd,fH gm,fH gm] by simp[fV,ha]);have l:=(mK ha).2.2;have d:=fQ (show mW m op n=if m=gn then gh else if n<=4294967295 then gj ([127,k],[])else gh by simp only[mW,ha];rw[gy (show ¬op=257 by omega)];rfl);have g0:(op == 257)=gn:=fw;have g1:(op == 63)=gn:=fw;have g2:(op == 64)=gn:=fw;clear ha l;have o:=fQ hn;clear hn;go_in;go_wp2_with fail;have f:=fQ (show AZ w.heap.size w ((w.alloc (fR #[fG gh 0 0,fG gh 0 0,fF fP 0,fF fO 0,fF fO 0] 156)).alloc (fR #[fF fO 127] 3))from((Az _ _).alloc (Aj _) _).alloc fz _);have g:=fQ ((gO.a4 w 156 #[fG gh 0 0,fG gh 0 0,fF fP 0,fF fO 0,fF fO 0]).alloc (fR #[fF fO 127] 3));have h:=fQ (gO.X (w.alloc (fR #[fG gh 0 0,fG gh 0 0,fF fP 0,fF fO 0,fF fO 0] 156)) (N:=w.heap.size+1) 3 #[fF fO 127] fz);refine(qY op _).mono ?_;rintro e w1 ⟨rfl,b⟩;rw[j.out];have c:=fQ (f.trans (b.mono f.out.size));have a:=fQ (g.C b g.lt);have p:=fQ (h.C b h.lt);clear b;have q:=a.lt;obtain⟨r,s,u,z,A⟩:=gZ a.out;have z0:=ik a.out 0;have z1:=ik a.out 1;have z2:=ik a.out 2;have z3:=ik a.out 3;have z4:=ik a.out 4;go_wp2;refine bodyPost_ret (v:=fI #[fM #[fG (gj ⟨w1.heap.size,0,gh⟩) 2 2,fG gh 0 0,fF fP 4294967295,fF fO 0,fF fO 0],fH m]) (by simp[results,results134,go_sem,q,r,s,u,z,A]) rfl ?_;have:=o.out;refine⟨_,_,4294967295,0,0,m,[127,k],[],rfl,?_,?_,fu,?_,?_,?_,?_⟩
 ·exact IR.two (t:=3) (x:=127) (y:=k) (gO.X _ _ _ fz)
 ·exact IR.nil _
 ·intro hf;rw[d.out]at hf
  cases m with
  | false=>exact fT rfl
  | true=>exact fU (by simp at hf;omega)
 ·intro x hf;rw[d.out]at hf
  cases m with
  | false=>simp at hf
  | true=>
   simp at hf;exact⟨rfl,fu,hf.2.symm,rfl,rfl⟩
 ·exact fun _=>⟨ka.at (by have:=c.out.size;omega),ka.nil _⟩
 ·exact(zX c.out (Aj _) _ _ _ _ _).alloc (by simp;have:=c.out.size;omega) _
theorem cZl(op k wd:Int)(j:Bool)(ha:acc op=gj (k,wd,gn,j))(m:Bool)(n:Nat)(hn:n<18446744073709551616)(w:AQ):AK fZ 134 #[fF fO op,fH m] w (kP gm (mW m op n) n 0 0 w):=by
 have l:=fQ (show fV op = fI #[fF fO k,fF fO wd,fH gn,fH gm] by simp[fV,ha]);have o:=(mK ha).2.2;have d:=fQ (show mW m op n=if m=gn then gh else if n<=4294967295 then gj ([127],[k])else gh by simp only[mW,ha];rw[gy (show ¬op=257 by omega)];rfl);have g0:(op == 257)=gn:=fw;have g1:(op == 63)=gn:=fw;have g2:(op == 64)=gn:=fw;clear ha o;have p:=fQ hn;clear hn;go_in;go_wp2_with fail;have f:=fQ (show AZ w.heap.size w ((w.alloc (fR #[fG gh 0 0,fG gh 0 0,fF fP 0,fF fO 0,fF fO 0] 156)).alloc (fR #[fF fO 127] 3))from((Az _ _).alloc (Aj _) _).alloc fz _);have g:=fQ ((gO.a4 w 156 #[fG gh 0 0,fG gh 0 0,fF fP 0,fF fO 0,fF fO 0]).alloc (fR #[fF fO 127] 3));have h:=fQ (gO.X (w.alloc (fR #[fG gh 0 0,fG gh 0 0,fF fP 0,fF fO 0,fF fO 0] 156)) (N:=w.heap.size+1) 3 #[fF fO 127] fz);refine(qY op _).mono ?_;rintro e w1 ⟨rfl,b⟩;rw[l.out];have c:=fQ (f.trans (b.mono f.out.size));have a:=fQ (g.C b g.lt);have i:=fQ (h.C b h.lt);clear b;have q:=a.lt;obtain⟨r,s,u,y,z⟩:=gZ a.out;have z0:=ik a.out 0;have z1:=ik a.out 1;have z2:=ik a.out 2;have z3:=ik a.out 3;have z4:=ik a.out 4;go_wp2;refine bodyPost_ret (v:=fI #[fM #[fG (gj ⟨w.heap.size+1,0,gh⟩) 1 1,fG (gj ⟨w1.heap.size,0,gh⟩) 1 1,fF fP 4294967295,fF fO 0,fF fO 0],fH m]) (by simp[results,results134,go_sem,q,r,s,u,y,z]) rfl ?_;have:=p.out;refine⟨_,_,4294967295,0,0,m,[127],[k],rfl,?_,?_,fu,?_,?_,?_,?_⟩
 ·exact IR.one (t:=3) (x:=127) ((rU i.out fu _ _ _ _ _).alloc _)
 ·exact IR.one (t:=3) (x:=k) (gO.X _ _ _ fz)
 ·intro hf;rw[d.out]at hf
  cases m with
  | false=>exact fT rfl
  | true=>exact fU (by simp at hf;omega)
 ·intro x hf;rw[d.out]at hf
  cases m with
  | false=>simp at hf
  | true=>
   simp at hf;exact⟨rfl,fu,hf.2.symm,rfl,rfl⟩
 ·exact fun _=>⟨ka.at (by have:=c.out.size;omega),ka.at (by have:=c.out.size;omega)⟩
 ·exact(zX c.out (Aj _) _ _ _ _ _).alloc (by simp;have:=c.out.size;omega) _
theorem cZm(op:Int)(ha:acc op=gh)(c:(op == 257)=gn)(d:(op == 63)=gn)(f:(op == 64)=gn)(m:Bool)(n:Nat)(hn:n<18446744073709551616)(w:AQ):AK fZ 134 #[fF fO op,fH m] w (kP gm (mW m op n) n 0 0 w):=by
 have j:=fQ (show fV op = fI #[fF fO 0,fF fO 0,fH gn,fH gn] by simp[fV,ha])
 have k:=fQ (show mW m op n=gh by
  simp at c d f;simp only[mW,ha,c,d,f,if_false]
  cases m <;> rfl)
 clear ha;clear hn;go_in;go_wp2_with fail;have g:=fQ (show AZ w.heap.size w ((w.alloc (fR #[fG gh 0 0,fG gh 0 0,fF fP 0,fF fO 0,fF fO 0] 156)).alloc (fR #[fF fO 127] 3))from((Az _ _).alloc (Aj _) _).alloc fz _);have h:=fQ ((gO.a4 w 156 #[fG gh 0 0,fG gh 0 0,fF fP 0,fF fO 0,fF fO 0]).alloc (fR #[fF fO 127] 3));have i:=fQ (gO.X (w.alloc (fR #[fG gh 0 0,fG gh 0 0,fF fP 0,fF fO 0,fF fO 0] 156)) (N:=w.heap.size+1) 3 #[fF fO 127] fz);refine(qY op _).mono ?_;rintro e w1 ⟨rfl,b⟩;rw[j.out];have l:=fQ (g.trans (b.mono g.out.size));have a:=fQ (h.C b h.lt);have o:=fQ (i.C b i.lt);clear b;have p:=a.lt;obtain⟨q,r,s,t,u⟩:=gZ a.out;have z0:=ik a.out 0;have z1:=ik a.out 1;have z2:=ik a.out 2;have z3:=ik a.out 3;have z4:=ik a.out 4;go_wp2;refine bodyPost_ret (v:=fI #[fM #[fG gh 0 0,fG gh 0 0,fF fP 0,fF fO 0,fF fO 0],fH gn]) (by simp[results,results134,go_sem,q,r,s,t,u]) rfl ?_;exact kP.no k.out (zX l.out (Aj _) _ _ _ _ _)
theorem cVl(op:Int)(m:Bool)(n:Nat)(hn:n<18446744073709551616)(w:AQ):AK fZ 134 #[fF fO op,fH m] w (kP gm (mW m op n) n 0 0 w):=by
 cases ha:acc op with
 | some r=>
  obtain⟨k,wd,st,a⟩:=r
  cases st with
  | true=>exact cQa op k wd a ha m n hn w
  | false=>exact cZl op k wd a ha m n hn w
 | none=>
  by_cases b:op=257
  ·subst b;exact cVk m n hn w
  by_cases h1:op=63
  ·subst h1;exact dXu m n hn w
  by_cases h2:op=64
  ·subst h2;exact dXv m n hn w
  exact cZm op ha (by simpa using b) (by simpa using h1) (by simpa using h2) m n hn w
theorem mD(w:AQ)(a b c d:Obj):AZ w.heap.size w ((((w.alloc a).alloc b).alloc c).alloc d):=((((Az _ _).alloc (Aj _) _).alloc fz _).alloc fw _).alloc fw _
theorem al5(w:AQ)(a b c d e:Obj):AZ w.heap.size w (((((w.alloc a).alloc b).alloc c).alloc d).alloc e):=(mD w a b c d).alloc fw _
theorem al6(w:AQ)(a b c d e f:Obj):AZ w.heap.size w ((((((w.alloc a).alloc b).alloc c).alloc d).alloc e).alloc f):=(al5 w a b c d e).alloc fw _
theorem at3(w:AQ)(a b:Obj)(t:TypeId)(cs:Array AX):gO (((w.alloc a).alloc b).alloc (fR cs t)) (w.heap.size+1+1) t cs:=gO.X _ _ _ fz
theorem at4(w:AQ)(a b c:Obj)(t:TypeId)(cs:Array AX):gO ((((w.alloc a).alloc b).alloc c).alloc (fR cs t)) (w.heap.size+1+1+1) t cs:=gO.X _ _ _ fz
theorem at5(w:AQ)(a b c d:Obj)(t:TypeId)(cs:Array AX):gO (((((w.alloc a).alloc b).alloc c).alloc d).alloc (fR cs t)) (w.heap.size+1+1+1+1) t cs:=gO.X _ _ _ fz
theorem at6(w:AQ)(a b c d e:Obj)(t:TypeId)(cs:Array AX):gO ((((((w.alloc a).alloc b).alloc c).alloc d).alloc e).alloc (fR cs t)) (w.heap.size+1+1+1+1+1) t cs:=gO.X _ _ _ fz
theorem cZn(e:ia)(s:iu)(f vs:AX)(n:Nat)(hn:n<18446744073709551616)(w:AQ)(he:iG w f e)(hs:jq w vs s):AK fZ 106 #[f,vs,fF fO 256,fF fP (n:Int)] w (kP gn (iV e s 256 n) n (vQ 256) (sW 256) w):=by
 obtain⟨a,b,d,rfl,h1,h2,g⟩:=he;obtain⟨As,cs,rfl,_⟩:=h1.len;obtain⟨Ag,cg,rfl⟩:=h2.I;have k:=g;obtain⟨Am,cm,rfl,_⟩:=g;obtain⟨p,q,rfl,i,c⟩:=hs;obtain⟨Ap,cp,rfl⟩:=i.I;obtain⟨Aq,cq,rfl⟩:=c.I;have j:=fQ (show iV e s 256 n=gj ([],[0]) by simp[iV]);have l:=fQ hn;clear h1 h2 i c hn k;go_in;go_wp2;refine bodyPost_ret (v:=fI #[fM #[fG gh 0 0,fG (gj ⟨w.heap.size+1+1+1+1,0,gh⟩) 1 1,fF fP 18446744073709551615,fF fO 0,fF fO 0],fH gm]) (by simp[results,results106,go_sem]) rfl ?_;have:=l.out;refine⟨_,_,18446744073709551615,0,0,gm,[],[0],rfl,?_,?_,fu,?_,?_,(fun h=>by cases h),?_⟩
 ·exact IR.nil _
 ·exact IR.one (x:=0) (at5 _ _ _ _ _ _ _)
 ·intro hf;rw[j.out]at hf;cases hf
 ·intro x hf;rw[j.out]at hf;simp at hf;exact⟨rfl,fu,hf.symm,fy,fy⟩
 ·exact al5 _ _ _ _ _ _
theorem cZo(e:ia)(s:iu)(f vs:AX)(n:Nat)(hn:n<18446744073709551616)(w:AQ)(he:iG w f e)(hs:jq w vs s):AK fZ 106 #[f,vs,fF fO 272,fF fP (n:Int)] w (kP gn (iV e s 272 n) n (vQ 272) (sW 272) w):=by
 obtain⟨a,b,d,rfl,h1,h2,g⟩:=he;obtain⟨As,cs,rfl,_⟩:=h1.len;obtain⟨Ag,cg,rfl⟩:=h2.I;have k:=g;obtain⟨Am,cm,rfl,_⟩:=g;obtain⟨p,q,rfl,i,c⟩:=hs;obtain⟨Ap,cp,rfl⟩:=i.I;obtain⟨Aq,cq,rfl⟩:=c.I;have j:=fQ (show iV e s 272 n=if n=0 then gj ([0],[0])else gh by simp[iV]);have l:=fQ hn;clear h1 h2 i c hn k;go_in;go_wp2;refine bodyPost_ret (v:=fI #[fM #[fG (gj ⟨w.heap.size+1+1+1+1,0,gh⟩) 1 1,fG (gj ⟨w.heap.size+1+1+1+1+1,0,gh⟩) 1 1,fF fP 0,fF fO 0,fF fO 0],fH gm]) (by simp[results,results106,go_sem]) rfl ?_;have:=l.out;refine⟨_,_,0,0,0,gm,[0],[0],rfl,?_,?_,fu,?_,?_,(fun h=>by cases h),?_⟩
 ·exact IR.one (x:=0) ((at5 _ _ _ _ _ _ _).alloc _)
 ·exact IR.one (x:=0) (at6 _ _ _ _ _ _ _ _)
 ·intro hf;rw[j.out]at hf;exact fU (by simp at hf;omega)
 ·intro x hf;rw[j.out]at hf;simp at hf;exact⟨rfl,fu,hf.2.symm,fy,fy⟩
 ·exact al6 _ _ _ _ _ _ _
theorem cZp(e:ia)(s:iu)(f vs:AX)(n:Nat)(hn:n<18446744073709551616)(w:AQ)(he:iG w f e)(hs:jq w vs s):AK fZ 106 #[f,vs,fF fO 273,fF fP (n:Int)] w (kP gn (iV e s 273 n) n (vQ 273) (sW 273) w):=by
 obtain⟨a,b,d,rfl,h1,h2,g⟩:=he;obtain⟨As,cs,rfl,_⟩:=h1.len;obtain⟨Ag,cg,rfl⟩:=h2.I;have k:=g;obtain⟨Am,cm,rfl,_⟩:=g;obtain⟨p,q,rfl,i,c⟩:=hs;obtain⟨Ap,cp,rfl⟩:=i.I;obtain⟨Aq,cq,rfl⟩:=c.I;have j:=fQ (show iV e s 273 n=if n=0 then gj ([],[])else gh by simp[iV]);have l:=fQ hn;clear h1 h2 i c hn k;go_in;go_wp2;refine bodyPost_ret (v:=fI #[fM #[fG gh 0 0,fG gh 0 0,fF fP 0,fF fO 1,fF fO 1],fH gm]) (by simp[results,results106,go_sem]) rfl ?_;have:=l.out;refine⟨_,_,0,1,1,gm,[],[],rfl,?_,?_,fu,?_,?_,(fun h=>by cases h),?_⟩
 ·exact IR.nil _
 ·exact IR.nil _
 ·intro hf;rw[j.out]at hf;exact fU (by simp at hf;omega)
 ·intro x hf;rw[j.out]at hf;simp at hf;exact⟨rfl,fu,hf.2.symm,fy,fy⟩
 ·exact mD _ _ _ _ _
theorem cZq(e:ia)(s:iu)(f vs:AX)(n:Nat)(hn:n<18446744073709551616)(w:AQ)(he:iG w f e)(hs:jq w vs s):AK fZ 106 #[f,vs,fF fO 274,fF fP (n:Int)] w (kP gn (iV e s 274 n) n (vQ 274) (sW 274) w):=by
 obtain⟨a,b,d,rfl,h1,h2,g⟩:=he;obtain⟨As,cs,rfl,_⟩:=h1.len;obtain⟨Ag,cg,rfl⟩:=h2.I;have k:=g;obtain⟨Am,cm,rfl,_⟩:=g;obtain⟨p,q,rfl,i,c⟩:=hs;obtain⟨Ap,cp,rfl⟩:=i.I;obtain⟨Aq,cq,rfl⟩:=c.I;have j:=fQ (show iV e s 274 n=if n=0 then gj ([127],[])else gh by simp[iV]);have l:=fQ hn;clear h1 h2 i c hn k;go_in;go_wp2;refine bodyPost_ret (v:=fI #[fM #[fG (gj ⟨w.heap.size+1+1+1,0,gh⟩) 1 1,fG gh 0 0,fF fP 0,fF fO 1,fF fO 1],fH gm]) (by simp[results,results106,go_sem]) rfl ?_;have:=l.out;refine⟨_,_,0,1,1,gm,[127],[],rfl,?_,?_,fu,?_,?_,(fun h=>by cases h),?_⟩
 ·exact IR.one (x:=127) (at4 _ _ _ _ _ _)
 ·exact IR.nil _
 ·intro hf;rw[j.out]at hf;exact fU (by simp at hf;omega)
 ·intro x hf;rw[j.out]at hf;simp at hf;exact⟨rfl,fu,hf.2.symm,fy,fy⟩
 ·exact mD _ _ _ _ _
theorem cZr(e:ia)(s:iu)(f vs:AX)(n:Nat)(hn:n<18446744073709551616)(w:AQ)(he:iG w f e)(hs:jq w vs s):AK fZ 106 #[f,vs,fF fO 275,fF fP (n:Int)] w (kP gn (iV e s 275 n) n (vQ 275) (sW 275) w):=by
 obtain⟨a,b,d,rfl,h1,h2,g⟩:=he;obtain⟨As,cs,rfl,_⟩:=h1.len;obtain⟨Ag,cg,rfl⟩:=h2.I;have k:=g;obtain⟨Am,cm,rfl,_⟩:=g;obtain⟨p,q,rfl,i,c⟩:=hs;obtain⟨Ap,cp,rfl⟩:=i.I;obtain⟨Aq,cq,rfl⟩:=c.I;have j:=fQ (show iV e s 275 n=if n=0 then gj ([127],[])else gh by simp[iV]);have l:=fQ hn;clear h1 h2 i c hn k;go_in;go_wp2;refine bodyPost_ret (v:=fI #[fM #[fG (gj ⟨w.heap.size+1+1+1,0,gh⟩) 1 1,fG gh 0 0,fF fP 0,fF fO 1,fF fO 65],fH gm]) (by simp[results,results106,go_sem]) rfl ?_;have:=l.out;refine⟨_,_,0,1,65,gm,[127],[],rfl,?_,?_,fu,?_,?_,(fun h=>by cases h),?_⟩
 ·exact IR.one (x:=127) (at4 _ _ _ _ _ _)
 ·exact IR.nil _
 ·intro hf;rw[j.out]at hf;exact fU (by simp at hf;omega)
 ·intro x hf;rw[j.out]at hf;simp at hf;exact⟨rfl,fu,hf.2.symm,fy,fy⟩
 ·exact mD _ _ _ _ _
theorem cZs(e:ia)(s:iu)(f vs:AX)(n:Nat)(hn:n<18446744073709551616)(w:AQ)(he:iG w f e)(hs:jq w vs s):AK fZ 106 #[f,vs,fF fO 276,fF fP (n:Int)] w (kP gn (iV e s 276 n) n (vQ 276) (sW 276) w):=by
 obtain⟨a,b,d,rfl,h1,h2,g⟩:=he;obtain⟨As,cs,rfl,_⟩:=h1.len;obtain⟨Ag,cg,rfl⟩:=h2.I;have k:=g;obtain⟨Am,cm,rfl,_⟩:=g;obtain⟨p,q,rfl,i,c⟩:=hs;obtain⟨Ap,cp,rfl⟩:=i.I;obtain⟨l,m,rfl⟩:=c.I;have o:=fQ c.ir;have j:=fQ (show iV e s 276 n=if n=0 then gj (s.out,[])else gh by simp[iV]);have r:=fQ hn;clear h1 h2 i c hn k;go_in;go_wp2;refine bodyPost_ret (v:=fI #[fM #[fG l s.out.length m,fG gh 0 0,fF fP 0,fF fO 0,fF fO 0],fH gm]) (by simp[results,results106,go_sem]) rfl ?_;have:=r.out;refine⟨_,_,0,0,0,gm,s.out,[],rfl,?_,?_,fu,?_,?_,(fun h=>by cases h),?_⟩
 ·exact o.C (mD _ _ _ _ _) (Aj _)
 ·exact IR.nil _
 ·intro hf;rw[j.out]at hf;exact fU (by simp at hf;omega)
 ·intro x hf;rw[j.out]at hf;simp at hf;exact⟨rfl,fu,hf.2.symm,fy,fy⟩
 ·exact mD _ _ _ _ _
theorem cZt(e:ia)(s:iu)(f vs:AX)(n:Nat)(hn:n<18446744073709551616)(w:AQ)(he:iG w f e)(hs:jq w vs s):AK fZ 106 #[f,vs,fF fO 277,fF fP (n:Int)] w (kP gn (iV e s 277 n) n (vQ 277) (sW 277) w):=by
 obtain⟨a,b,d,rfl,h1,h2,g⟩:=he;obtain⟨As,cs,rfl,_⟩:=h1.len;obtain⟨Ag,cg,rfl⟩:=h2.I;have k:=g;obtain⟨Am,cm,rfl,_⟩:=g;obtain⟨p,q,rfl,i,c⟩:=hs;obtain⟨Ap,cp,rfl⟩:=i.I;obtain⟨Aq,cq,rfl⟩:=c.I;have j:=fQ (show iV e s 277 n=if n=0 then gj ([],[])else gh by simp[iV]);have l:=fQ hn;clear h1 h2 i c hn k;go_in;go_wp2;refine bodyPost_ret (v:=fI #[fM #[fG gh 0 0,fG gh 0 0,fF fP 0,fF fO 0,fF fO 0],fH gm]) (by simp[results,results106,go_sem]) rfl ?_;have:=l.out;refine⟨_,_,0,0,0,gm,[],[],rfl,?_,?_,fu,?_,?_,(fun h=>by cases h),?_⟩
 ·exact IR.nil _
 ·exact IR.nil _
 ·intro hf;rw[j.out]at hf;exact fU (by simp at hf;omega)
 ·intro x hf;rw[j.out]at hf;simp at hf;exact⟨rfl,fu,hf.2.symm,fy,fy⟩
 ·exact mD _ _ _ _ _
theorem cZu(e:ia)(s:iu)(f vs:AX)(n:Nat)(hn:n<18446744073709551616)(w:AQ)(he:iG w f e)(hs:jq w vs s):AK fZ 106 #[f,vs,fF fO 258,fF fP (n:Int)] w (kP gn (iV e s 258 n) n (vQ 258) (sW 258) w):=by
 obtain⟨a,b,d,rfl,h1,h2,g⟩:=he;obtain⟨As,cs,rfl,_⟩:=h1.len;obtain⟨Ag,cg,rfl⟩:=h2.I;have k:=g;obtain⟨Am,cm,rfl,_⟩:=g;obtain⟨p,q,rfl,i,c⟩:=hs;obtain⟨Ap,cp,rfl⟩:=i.I;obtain⟨Aq,cq,rfl⟩:=c.I;have j:=fQ (show iV e s 258 n=if n=0 then gj ([],[])else gh by simp[iV]);have l:=fQ hn;clear h1 h2 i c hn k;go_in;go_wp2;refine bodyPost_ret (v:=fI #[fM #[fG gh 0 0,fG gh 0 0,fF fP 0,fF fO 0,fF fO 0],fH gm]) (by simp[results,results106,go_sem]) rfl ?_;have:=l.out;refine⟨_,_,0,0,0,gm,[],[],rfl,?_,?_,fu,?_,?_,(fun h=>by cases h),?_⟩
 ·exact IR.nil _
 ·exact IR.nil _
 ·intro hf;rw[j.out]at hf;exact fU (by simp at hf;omega)
 ·intro x hf;rw[j.out]at hf;simp at hf;exact⟨rfl,fu,hf.2.symm,fy,fy⟩
 ·exact mD _ _ _ _ _
theorem cVm(e:ia)(s:iu)(f vs:AX)(n:Nat)(hn:n<18446744073709551616)(w:AQ)(he:iG w f e)(hs:jq w vs s):AK fZ 106 #[f,vs,fF fO 27,fF fP (n:Int)] w (kP gn (iV e s 27 n) n (vQ 27) (sW 27) w):=by
 obtain⟨a,b,d,rfl,h1,h2,g⟩:=he;obtain⟨As,cs,rfl,_⟩:=h1.len;obtain⟨Ag,cg,rfl⟩:=h2.I;have k:=g;obtain⟨Am,cm,rfl,_⟩:=g;obtain⟨p,q,rfl,i,c⟩:=hs;obtain⟨Ap,cp,rfl⟩:=i.I;obtain⟨Aq,cq,rfl⟩:=c.I;have j:=fQ (show iV e s 27 n=if n=0 then gj ([0,0,127],[0])else gh by simp[iV]);have l:=fQ hn;clear h1 h2 i c hn k;go_in;go_wp2;refine bodyPost_ret (v:=fI #[fM #[fG (gj ⟨w.heap.size+1+1+1+1,0,gh⟩) 3 3,fG (gj ⟨w.heap.size+1+1+1+1+1,0,gh⟩) 1 1,fF fP 0,fF fO 0,fF fO 0],fH gm]) (by simp[results,results106,go_sem]) rfl ?_;have:=l.out;refine⟨_,_,0,0,0,gm,[0,0,127],[0],rfl,?_,?_,fu,?_,?_,(fun h=>by cases h),?_⟩
 ·exact IR.three (x:=0) (y:=0) (z:=127) ((at5 _ _ _ _ _ _ _).alloc _)
 ·exact IR.one (x:=0) (at6 _ _ _ _ _ _ _ _)
 ·intro hf;rw[j.out]at hf;exact fU (by simp at hf;omega)
 ·intro x hf;rw[j.out]at hf;simp at hf;exact⟨rfl,fu,hf.2.symm,fy,fy⟩
 ·exact al6 _ _ _ _ _ _ _
theorem cVn(e:ia)(s:iu)(C vs:AX)(n:Nat)(hn:n<18446744073709551616)(w:AQ)(he:iG w C e)(hs:jq w vs s):AK fZ 106 #[C,vs,fF fO 16,fF fP (n:Int)] w (kP gn (iV e s 16 n) n (vQ 16) (sW 16) w):=by
 obtain⟨a,b,d,rfl,h1,h2,D⟩:=he;obtain⟨As,cs,rfl,_⟩:=h1.len;obtain⟨i,cg,rfl⟩:=h2.I;have E:=D;obtain⟨j,k,rfl,_⟩:=D;obtain⟨p,q,rfl,z,l⟩:=hs;obtain⟨m,o,rfl⟩:=z.I;obtain⟨r,t,rfl⟩:=l.I;have hl:=h1.kj;by_cases L:n<e.R.length
 ·obtain⟨x,A⟩:∃ x,e.R[n]? = gj x:=⟨_,Ax L⟩;have af:(n:Int)<(e.R.length:Int):=fu;obtain⟨f,go,p,q,rfl,F,N,c1,s0,s1⟩:=h1.a2 A;obtain⟨G,H,rfl⟩:=s0.I;obtain⟨I,J,rfl⟩:=s1.I;have u:=fQ (show iV e s 16 n=gj (x.a1,x.out) by simp[iV,A]);have O:=fQ hn;have P:=fQ s0.ir;have Q:=fQ s1.ir;clear h1 h2 z l hn E A s0 s1;go_in;have y:=fQ (mD w (fR #[fG (gj ⟨f,go,gh⟩) e.R.length cs,fF fO e.G,fG i e.E.length cg,fG j e.a3.length k,fH e.L] 26) (fR #[fG m s.a1.length o,fG r s.out.length t] 62) (fR #[fG gh 0 0,fG gh 0 0,fF fP 0,fF fO 0,fF fO 0] 156) (fR #[fF fO 127] 3));have K:=fQ ((((gO.a4 w 26 #[fG (gj ⟨f,go,gh⟩) e.R.length cs,fF fO e.G,fG i e.E.length cg,fG j e.a3.length k,fH e.L]).alloc (fR #[fG m s.a1.length o,fG r s.out.length t] 62)).alloc (fR #[fG gh 0 0,fG gh 0 0,fF fP 0,fF fO 0,fF fO 0] 156)).alloc (fR #[fF fO 127] 3));have c:=fQ ((at3 w (fR #[fG (gj ⟨f,go,gh⟩) e.R.length cs,fF fO e.G,fG i e.E.length cg,fG j e.a3.length k,fH e.L] 26) (fR #[fG m s.a1.length o,fG r s.out.length t] 62) 156 #[fG gh 0 0,fG gh 0 0,fF fP 0,fF fO 0,fF fO 0]).alloc (fR #[fF fO 127] 3));go_wp2_with fail;generalize ((((w.alloc (fR #[fG (gj ⟨f,go,gh⟩) e.R.length cs,fF fO e.G,fG i e.E.length cg,fG j e.a3.length k,fH e.L] 26)).alloc (fR #[fG m s.a1.length o,fG r s.out.length t] 62)).alloc (fR #[fG gh 0 0,fG gh 0 0,fF fP 0,fF fO 0,fF fO 0] 156)).alloc (fR #[fF fO 127] 3))=W4 at y K c ⊢;have d0:=(y.cell (p:=⟨f,go+n*2,gh⟩) F).trans N;have d1:=(y.cell (p:=⟨f,go+n*2+1,gh⟩) F).trans c1;have e0:=K.cell 0;simp at e0;obtain⟨R,S,T,U,V⟩:=gZ c.out;have z0:=ik c.out 0;have z1:=ik c.out 1;have z2:=ik c.out 2;have z3:=ik c.out 3;have z4:=ik c.out 4;have W:=c.lt;go_region;go_wp2;refine bodyPost_ret (v:=fI #[fM #[fG G x.a1.length H,fG I x.out.length J,fF fP (n:Int),fF fO 0,fF fO 0],fH gm]) (by simp[results,results106,go_sem,R,S,T,U,V]) rfl ?_;have:=O.out;have B:=(zX y.out (g:=w.heap.size+1+1) fu (fG G x.a1.length H) (fG I x.out.length J) (fF fP (n:Int)) (fF fO 0) (fF fO 0)).drew;refine⟨_,_,n,0,0,gm,_,_,rfl,P.C B (Aj _),Q.C B (Aj _),this,?_,?_,(fun h=>by cases h),B⟩
  ·intro hf;rw[u.out]at hf;cases hf
  ·intro x hf;rw[u.out]at hf;simp at hf;exact⟨rfl,Aj _,hf.symm,fy,fy⟩
 ·have u:=fQ (show iV e s 16 n=gh by simp[iV];omega);clear h1 h2 z l hn E;go_in;go_wp2;refine bodyPost_ret (v:=fI #[fM #[fG gh 0 0,fG gh 0 0,fF fP 0,fF fO 0,fF fO 0],fH gn]) (by simp[results,results106,go_sem]) rfl ?_;exact kP.no u.out (mD _ _ _ _ _)
theorem cVo(e:ia)(s:iu)(k vs:AX)(n:Nat)(hn:n<18446744073709551616)(w:AQ)(he:iG w k e)(hs:jq w vs s):AK fZ 106 #[k,vs,fF fO 35,fF fP (n:Int)] w (kP gn (iV e s 35 n) n (vQ 35) (sW 35) w):=by
 obtain⟨a,b,d,rfl,h1,h2,l⟩:=he;obtain⟨As,cs,rfl,_⟩:=h1.len;obtain⟨Ag,cg,rfl⟩:=h2.I;have m:=l;obtain⟨Am,cm,rfl,_⟩:=l;obtain⟨p,q,rfl,i,c⟩:=hs;obtain⟨Ap,cp,rfl⟩:=i.I;obtain⟨Aq,cq,rfl⟩:=c.I;have hl:=h2.kj;by_cases r:n<e.E.length
 ·obtain⟨x,j⟩:∃ x,e.E[n]? = gj x:=⟨_,Ax r⟩;have o:¬e.E.length<=n:=fu;have af:(n:Int)<(e.E.length:Int):=fu;obtain⟨f,go,rfl,ak,c0⟩:=h2.ir.cell j;have ag:f<w.heap.size+1:=fu;have ah:f<w.heap.size+1+1:=fu;have ai:f<w.heap.size+1+1+1:=fu;have g:=fQ (show iV e s 35 n=gj ([],[x]) by simp[iV,j]);have u:=fQ hn;clear h1 h2 i c hn m j;go_in;go_wp2;refine bodyPost_ret (v:=fI #[fM #[fG gh 0 0,fG (gj ⟨w.heap.size+1+1+1+1,0,gh⟩) 1 1,fF fP (n:Int),fF fO 0,fF fO 0],fH gm]) (by simp[results,results106,go_sem]) rfl ?_;have:=u.out;refine⟨_,_,n,0,0,gm,[],[x],rfl,IR.nil _,IR.one (at5 _ _ _ _ _ _ _),this,?_,?_,(fun h=>by cases h),al5 _ _ _ _ _ _⟩
  ·intro hf;rw[g.out]at hf;cases hf
  ·intro x hf;rw[g.out]at hf;simp at hf;exact⟨rfl,Aj _,hf.symm,fy,fy⟩
 ·have o:e.E.length<=n:=fu;have g:=fQ (show iV e s 35 n=gh by simp[iV,o]);clear h1 h2 i c hn m;go_in;go_wp2;refine bodyPost_ret (v:=fI #[fM #[fG gh 0 0,fG gh 0 0,fF fP 0,fF fO 0,fF fO 0],fH gn]) (by simp[results,results106,go_sem]) rfl ?_;exact kP.no g.out (mD _ _ _ _ _)
theorem cVp(e:ia)(s:iu)(m vs:AX)(n:Nat)(hn:n<18446744073709551616)(w:AQ)(he:iG w m e)(hs:jq w vs s)(o:e.a3.length=e.E.length):AK fZ 106 #[m,vs,fF fO 36,fF fP (n:Int)] w (kP gn (iV e s 36 n) n (vQ 36) (sW 36) w):=by
 obtain⟨a,b,d,rfl,h1,h2,r⟩:=he;obtain⟨As,cs,rfl,_⟩:=h1.len;obtain⟨Ag,cg,rfl⟩:=h2.I;have t:=r;obtain⟨Am,cm,rfl,_⟩:=r;obtain⟨p,q,rfl,i,c⟩:=hs;obtain⟨Ap,cp,rfl⟩:=i.I;obtain⟨Aq,cq,rfl⟩:=c.I;have hl:=h2.kj;by_cases A:n<e.E.length
 ·obtain⟨x,j⟩:∃ x,e.E[n]? = gj x:=⟨_,Ax A⟩;have u:¬e.E.length<=n:=fu;have ai:(n:Int)<(e.E.length:Int):=fu;obtain⟨f,go,rfl,ax,c0⟩:=h2.ir.cell j;have aj:f<w.heap.size+1:=fu;have ak:f<w.heap.size+1+1:=fu;have al:f<w.heap.size+1+1+1:=fu;obtain⟨y,k⟩:∃ y,e.a3[n]? = gj y:=⟨_,Ax fu⟩;obtain⟨ay,az,e',l,_⟩:=t;injection e' with C e2 D;subst C;subst D;have z:n<e.a3.length:=fu;have ao:(n:Int)<(e.a3.length:Int):=fu;obtain⟨mb,mo,rfl,aA⟩:=l.addr fu;have aq:mb<w.heap.size+1:=fu;have ar:mb<w.heap.size+1+1:=fu;have au:mb<w.heap.size+1+1+1:=fu;have aw:mb<w.heap.size+1+1+1+1:=fu;have c1:=l.at_ z;rw[bVd z,(gw k).2]at c1;have g:=fQ (show iV e s 36 n=if y=gm then gj ([x],[])else gh by cases y <;> simp[iV,j,k]);have E:=fQ hn;clear h1 h2 i c hn l j k o;go_in;go_wp2_with fail;go_region;go_wp2;refine bodyPost_ret (v:=fI #[fM #[fG (gj ⟨w.heap.size+1+1+1+1,0,gh⟩) 1 1,fG gh 0 0,fF fP (n:Int),fF fO 0,fF fO 0],fH y]) (by simp[results,results106,go_sem]) rfl ?_;have:=E.out;refine⟨_,_,n,0,0,y,[x],[],rfl,IR.one (at5 _ _ _ _ _ _ _).drew,IR.nil _,this,fun hf=>?_,fun x hf=>?_,(fun h=>by cases h),(al5 _ _ _ _ _ _).drew⟩
  ·rw[g.out]at hf
   cases y with
   | false=>exact fT rfl
   | true=>cases hf
  ·rw[g.out]at hf
   cases y with
   | false=>cases hf
   | true=>
    simp at hf;exact⟨rfl,Aj _,hf.symm,fy,fy⟩
 ·have u:e.E.length<=n:=fu;have g:=fQ (show iV e s 36 n=gh by simp[iV,u]);clear h1 h2 i c hn t o;go_in;go_wp2;refine bodyPost_ret (v:=fI #[fM #[fG gh 0 0,fG gh 0 0,fF fP 0,fF fO 0,fF fO 0],fH gn]) (by simp[results,results106,go_sem]) rfl ?_;exact kP.no g.out (mD _ _ _ _ _)
structure Off (op:Int):Prop where
 o0:(op == 256)=gn
 o1:(op == 272)=gn
 o2:(op == 273)=gn
 o3:(op == 274)=gn
 o4:(op == 275)=gn
 o5:(op == 276)=gn
 o6:(op == 277)=gn
 o7:(op == 258)=gn
 o8:(op == 27)=gn
 o9:(op == 16)=gn
 o10:(op == 35)=gn
 o11:(op == 36)=gn
theorem Off.form{op:Int}(h:Off op)(e:ia)(s:iu)(n:Nat):iV e s op n=(if(gQ op).isSome then if n=0 then gj (gJ op,[mX op])else gh else mW e.L op n)/\vQ op=0/\sW op=0:=by
 obtain⟨c,h1,h2,a,b,d,f,g,i,j,k,l⟩:=h;simp at c h1 h2 a b d f g i j k l;refine⟨?_,?_,?_⟩
 ·simp only[iV,c,h1,h2,a,b,d,f,g,i,j,k,l,if_false,or_self]
 ·simp[vQ,h2,a,b]
 ·simp[sW,h2,a,b]
theorem dXw{Q:Int->Prop}(k:Q 256)(h1:Q 272)(h2:Q 273)(l:Q 274)(m:Q 275)(n:Q 276)(o:Q 277)(p:Q 258)(q:Q 27)(r:Q 16)(s:Q 35)(t:Q 36)(hn:∀ op,Off op->Q op)(op:Int):Q op:=by
 by_cases a:op=256
 ·subst a;exact k
 by_cases b:op=272
 ·subst b;exact h1
 by_cases c:op=273
 ·subst c;exact h2
 by_cases d:op=274
 ·subst d;exact l
 by_cases e:op=275
 ·subst e;exact m
 by_cases f:op=276
 ·subst f;exact n
 by_cases g:op=277
 ·subst g;exact o
 by_cases h:op=258
 ·subst h;exact p
 by_cases i:op=27
 ·subst i;exact q
 by_cases j:op=16
 ·subst j;exact r
 by_cases g10:op=35
 ·subst g10;exact s
 by_cases g11:op=36
 ·subst g11;exact t
 exact hn op ⟨beq_false_of_ne a,beq_false_of_ne b,beq_false_of_ne c,beq_false_of_ne d,beq_false_of_ne e,beq_false_of_ne f,beq_false_of_ne g,beq_false_of_ne h,beq_false_of_ne i,beq_false_of_ne j,beq_false_of_ne g10,beq_false_of_ne g11⟩
theorem IR.own{c:Nat}(h:w.ownsRow base t 1 (fG A l.length c) l.length (ix l)):IR w (fG A l.length c) l:=⟨A,c,rfl,Src.mf h⟩
theorem IR.fYa{c:Nat}(h:w.ownsRow base t 1 (fG A l.length c) l.length (ix l))(hg:g<base)(a b d e f:AX):
  IR (((((w.setCell ⟨g,0,gh⟩ a).setCell ⟨g,1,gh⟩ b).setCell ⟨g,2,gh⟩ d).setCell ⟨g,3,gh⟩ e).setCell ⟨g,4,gh⟩ f) (fG A l.length c) l:=by
 have key:∀ a,A=gj a->a.block≠g:=by
  intro a ha;subst ha;have:=h.lt a.block (by rfl);omega
 refine⟨A,c,rfl,?_⟩;exact(((((Src.mf h).setCell (p:=⟨g,0,gh⟩) a key).setCell (p:=⟨g,1,gh⟩) b key).setCell (p:=⟨g,2,gh⟩) d key).setCell (p:=⟨g,3,gh⟩) e key).setCell (p:=⟨g,4,gh⟩) f key
theorem IR.fYl(h:IR w v l)(hv:ka base v)(hg:g<base)(a b d e f:AX):
  IR (((((w.setCell ⟨g,0,gh⟩ a).setCell ⟨g,1,gh⟩ b).setCell ⟨g,2,gh⟩ d).setCell ⟨g,3,gh⟩ e).setCell ⟨g,4,gh⟩ f) v l:=by
 have key:∀ A n c,v = fG A n c->∀ a,A=gj a->a.block≠g:=by
  intro A n c e a ha;have:=hv A n c e a ha;omega
 exact((((h.setCell (p:=⟨g,0,gh⟩) a key).setCell (p:=⟨g,1,gh⟩) b key).setCell (p:=⟨g,2,gh⟩) d key).setCell (p:=⟨g,3,gh⟩) e key).setCell (p:=⟨g,4,gh⟩) f key
theorem cZv(op:Int)(P : -9223372036854775808<=op)(Q:op<=9223372036854775807)(R:Off op)(e:ia)(s:iu)(S vs:AX)(n:Nat)(hn:n<18446744073709551616)(w:AQ)(he:iG w S e)(hs:jq w vs s):
  AK fZ 106 #[S,vs,fF fO op,fF fP (n:Int)] w (kP gn (iV e s op n) n (vQ op) (sW op) w):=by
 obtain⟨hf,ar,au⟩:=R.form e s n;rw[ar,au];obtain⟨a,b,d,rfl,h1,h2,h3⟩:=he;obtain⟨m,cs,rfl,_⟩:=h1.len;obtain⟨r,cg,rfl⟩:=h2.I;obtain⟨t,u,rfl,_⟩:=h3;obtain⟨p,q,rfl,T,U⟩:=hs;obtain⟨y,z,rfl⟩:=T.I;obtain⟨A,B,rfl⟩:=U.I;have HN:=fQ hn;obtain⟨g0,g1,g2,g3,g4,g5,g6,g7,g8,g9,g10,g11⟩:=R;have C:=fQ (mD w (fR #[fG m e.R.length cs,fF fO e.G,fG r e.E.length cg,fG t e.a3.length u,fH e.L] 26) (fR #[fG y s.a1.length z,fG A s.out.length B] 62) (fR #[fG gh 0 0,fG gh 0 0,fF fP 0,fF fO 0,fF fO 0] 156) (fR #[fF fO 127] 3));have V:=fQ ((((gO.a4 w 26 #[fG m e.R.length cs,fF fO e.G,fG r e.E.length cg,fG t e.a3.length u,fH e.L]).alloc (fR #[fG y s.a1.length z,fG A s.out.length B] 62)).alloc (fR #[fG gh 0 0,fG gh 0 0,fF fP 0,fF fO 0,fF fO 0] 156)).alloc (fR #[fF fO 127] 3));have D:=fQ ((at3 w (fR #[fG m e.R.length cs,fF fO e.G,fG r e.E.length cg,fG t e.a3.length u,fH e.L] 26) (fR #[fG y s.a1.length z,fG A s.out.length B] 62) 156 #[fG gh 0 0,fG gh 0 0,fF fP 0,fF fO 0,fF fO 0]).alloc (fR #[fF fO 127] 3));have W:w.heap.size+1+1+1+1=((((w.alloc (fR #[fG m e.R.length cs,fF fO e.G,fG r e.E.length cg,fG t e.a3.length u,fH e.L] 26)).alloc (fR #[fG y s.a1.length z,fG A s.out.length B] 62)).alloc (fR #[fG gh 0 0,fG gh 0 0,fF fP 0,fF fO 0,fF fO 0] 156)).alloc (fR #[fF fO 127] 3)).heap.size:=fz;have X:=fQ W;clear h1 h2 T U hn W
 cases hg:gQ op with
 | some gg=>
  have F:=fQ (show(gQ op).isSome=gm by simp[hg]);rw[hg]at hf;have k:=fQ (show iV e s op n=if n=0 then gj (gJ op,[mX op])else gh from hf);clear hf hg;go_in;go_wp2_with fail;refine(qC op _ P Q).mono ?_;rintro Y w1 ⟨Z,c1,rfl,E,c⟩;rw[F.out];have l:=fQ (C.trans (c.mono C.out.size));have f:=fQ (D.C c D.lt);have HR:=fQ E;clear c E;obtain⟨G,H,I,J,K⟩:=gZ f.out;have z0:=ik f.out 0;have z1:=ik f.out 1;have z2:=ik f.out 2;have z3:=ik f.out 3;have z4:=ik f.out 4;have L:=f.lt;go_wp2;refine bodyPost_ret (v:=fI #[fM #[fG Z (gJ op).length c1,fG (gj ⟨w1.heap.size,0,gh⟩) 1 1,fF fP 0,fF fO 0,fF fO 0],fH gm]) (by simp[results,results106,go_sem,L,G,H,I,J,K]) rfl ?_;have hh:=HR.out;rw[<-X.out]at hh;refine⟨_,_,0,0,0,gm,gJ op,[mX op],rfl,?_,?_,fu,?_,?_,(fun h=>by cases h),?_⟩
  ·exact(IR.fYa (g:=w.heap.size+1+1) hh fu _ _ _ _ _).alloc _
  ·exact IR.one (x:=mX op) (gO.X _ _ _ fz)
  ·intro hf;rw[k.out]at hf;exact fU (by simp at hf;omega)
  ·intro x hf;rw[k.out]at hf;simp at hf;exact⟨rfl,fu,hf.2.symm,rfl,rfl⟩
  ·exact(zX l.out fu _ _ _ _ _).alloc (by simp;exact l.out.size) _
 | none=>
  have F:=fQ (show(gQ op).isSome=gn by simp[hg]);rw[hg]at hf;have k:=fQ (show iV e s op n=mW e.L op n from hf);clear hf hg;go_in;go_wp2_with fail;refine(qC op _ P Q).mono ?_;rintro Y w1 ⟨Z,c1,rfl,E,c⟩;rw[F.out];have l:=fQ (C.trans (c.mono C.out.size));have f:=fQ (D.C c D.lt);have F0:=fQ (V.C c V.lt);have HZ:=fQ c.size;clear c E;have e4:=F0.cell 4;simp at e4;go_wp2_with fail;refine(cVl op e.L n HN.out _).mono ?_;rintro Y w2 ⟨vi,vo,most,a,b,ok,i,o,rfl,M,N,ad,hP,hQ,ao,O⟩;obtain⟨Ai,ci,rfl⟩:=M.I;obtain⟨Ao,co,rfl⟩:=N.I;have B2:=fQ (l.trans (O.mono l.out.size));have j:=fQ (f.C O f.lt);have aw:=fQ M;have ax:=fQ N;have HP:=fQ hP;have HQ:=fQ hQ;have HM:=fQ ad;have aq:=fQ (ao rfl);clear ao O M N hP hQ ad e4;obtain⟨G,H,I,J,K⟩:=gZ j.out;have z0:=ik j.out 0;have z1:=ik j.out 1;have z2:=ik j.out 2;have z3:=ik j.out 3;have z4:=ik j.out 4;have L:=j.lt;go_wp2;refine bodyPost_ret (v:=fI #[fM #[fG Ai i.length ci,fG Ao o.length co,fF fP (most:Int),fF fO a,fF fO b],fH ok]) (by simp[results,results106,go_sem,G,H,I,J,K]) rfl ?_;have hz:w.heap.size+1+1+1+1<=w1.heap.size:=(by rw[X.out];exact HZ.out);refine⟨_,_,most,a,b,ok,i,o,rfl,?_,?_,HM.out,?_,?_,(fun h=>by cases h),?_⟩
  ·exact IR.fYl aw.out aq.1 fu _ _ _ _ _
  ·exact IR.fYl ax.out aq.2 fu _ _ _ _ _
  ·rw[k.out];exact HP.out
  ·rw[k.out];exact HQ.out
  ·exact zX B2.out fu _ _ _ _ _
theorem cZw(op:Int)(b : -9223372036854775808<=op)(c:op<=9223372036854775807)(e:ia)(s:iu)(a vs:AX)(n:Nat)(hn:n<18446744073709551616)(w:AQ)(he:iG w a e)(hs:jq w vs s)(d:e.a3.length=e.E.length):
  AK fZ 106 #[a,vs,fF fO op,fF fP (n:Int)] w (kP gn (iV e s op n) n (vQ op) (sW op) w):=by
 revert b c
 revert op
 refine dXw (fun _ _=>cZn e s a vs n hn w he hs) (fun _ _=>cZo e s a vs n hn w he hs) (fun _ _=>cZp e s a vs n hn w he hs) (fun _ _=>cZq e s a vs n hn w he hs) (fun _ _=>cZr e s a vs n hn w he hs) (fun _ _=>cZs e s a vs n hn w he hs) (fun _ _=>cZt e s a vs n hn w he hs) (fun _ _=>cZu e s a vs n hn w he hs) (fun _ _=>cVm e s a vs n hn w he hs) (fun _ _=>cVn e s a vs n hn w he hs) (fun _ _=>cVo e s a vs n hn w he hs) (fun _ _=>cVp e s a vs n hn w he hs d) (fun op f h1 h2=>cZv op h1 h2 f e s a vs n hn w he hs)
theorem cQe(h:l[k]? = gj p)(h1:x ∉ l.take k)(h2:p≠x):x ∉ l.take (k+1):=by
 obtain⟨a,e⟩:=gw h;rw[Aw a,e,List.mem_append];rintro(h|h)
 ·exact h1 h
 ·simp at h;exact h2 h.symm
theorem dZc(v:AX)(l:List Int)(x:Int)(w:AQ)(hs:IR w v l)(hm:l.length<=9223372036854775807):
  AK fZ 107 #[v,fF fO x] w fun e w'=>∃ r:Int,e = fS (fF fO r)/\decide (0<=r)=decide (x∈l)/\w=w':=by
 obtain⟨A,c,rfl⟩:=hs.I;have j:=fQ hs;clear hs;go_in;go_wp2;go_loopw [8] (fun i wr=>∃ k:Nat,k<=l.length/\i = fF fO k/\Hid (x ∉ l.take k)/\Hid (w=wr)) (fun i _=>l.length - (intOf i).toNat)
 case atStart=>exact⟨0,fu,rfl,fQ fz,fQ rfl⟩
 case round=>
  obtain⟨k,hk,rfl,d,f⟩:=hrel;obtain rfl:=f.out;clear f;by_cases g:k<l.length
  ·have ad:(k:Int)<(l.length:Int):=fu;obtain⟨y,a⟩:∃ y,l[k]? = gj y:=⟨_,Ax g⟩;obtain⟨ab,ao,rfl,ag,ah⟩:=j.cell a;have h:=fQ a;clear a;by_cases he:x=y
   ·subst he;have m:=fQ (Av h.out);go_wp2;go_ret;exact⟨k,rfl,by rw[gD m.out];simp,rfl⟩
   ·have n:(x == y)=gn:=(by simp[he]);have b:=fQ (cQe h.out d.out (fun e=>he e.symm));clear he;go_wp2;exact⟨⟨k+1,fu,fz,b,fQ (by trivial)⟩,fB⟩
  ·have b:=fQ (show x ∉ l by have:=d.out;rwa[Ak fu]at this);go_wp2;go_ret;exact⟨-1,rfl,by rw[gE b.out];rfl,rfl⟩
theorem aKf(v:AX)(l:List Int)(x:Int)(w:AQ)(hs:IR w v l)(b:l.length<=9223372036854775807):
  AK fZ 76 #[v,fF fO x] w fun e w'=>e = fS (fH (decide (x∈l)))/\w=w':=by
 obtain⟨A,c,rfl⟩:=hs.I;have d:=fQ hs;clear hs;go_in;go_wp2_with fail;refine(dZc _ l x _ d.out b).mono ?_;rintro e w1 ⟨r,rfl,a,rfl⟩;have f:=fQ a;clear a;go_wp2;go_ret;exact⟨by rw[<-f.out];rfl,rfl⟩
def nN(n x:Int):Bool:=!decide (0<=x/\x<n)
theorem cZz(n x:Int)(b:Nat)(w:AQ)(hc:w.cell? ⟨b,0,gh⟩=gj (fF fO n)):AK fZ 104 #[fF fO x,fN (gj ⟨b,0,gh⟩)] w fun e w'=>e = fS (fH (nN n x))/\AZ w.heap.size w w':=by
 by_cases h1:x<0
 ·have a:=fQ (show nN n x=gm by simp[nN];omega);go_in;go_wp2;go_ret;exact⟨by rw[a.out];rfl,Az _ _⟩
 ·by_cases h2:n<=x
  ·have a:=fQ (show nN n x=gm by simp[nN];omega);go_in;go_wp2;go_ret;exact⟨by rw[a.out];rfl,Az _ _⟩
  ·have a:=fQ (show nN n x=gn by simp[nN];omega);go_in;go_wp2;go_ret;exact⟨by rw[a.out];rfl,Az _ _⟩
theorem rK(n:Int)(v:AX)(l:List Int)(w:AQ)(hs:IR w v l)(f:l.length<=9223372036854775807):
  AK fZ 71 #[fF fO n,v] w fun e w'=>e = fS (fH (within n l))/\AZ w.heap.size w w':=by
 obtain⟨A,c,rfl⟩:=hs.I;have a:=fQ (show AZ w.heap.size w (w.alloc (fR #[fF fO n] 3))from(Az _ _).alloc (Aj _) _);have g:=fQ (hs.C a.out (Aj _));have b:=fQ (gO.a4 w 3 #[fF fO n])
 have h:=fQ (show within n l = !(l.any (nN n)) by
  have:=bKm l (fun x=>decide (0<=x/\x<n))
  rw[within,<-this];rfl)
 clear hs;go_in;go_wp2_with fail
 refine(bKo A l.length c l (nN n) w.heap.size _ g.out f (fun x hx v w' i e=>by
  subst e;have hc:=(b.C i b.lt).cell 0;simp at hc
  exact cZz n x _ w' hc)).mono ?_
 rintro e w1 ⟨rfl,d⟩;have j:=fQ (a.trans (d.mono a.out.size));clear d;go_wp2;go_ret;exact⟨by rw[h.out];rfl,j.out⟩
theorem cVy(h:l[k]? = gj p)(h1:(l.take k).Nodup)(h2:p ∉ l.take k):(l.take (k+1)).Nodup:=by
 obtain⟨d,e⟩:=gw h;rw[Aw d,e,AJ];refine⟨h1,fz,?_⟩;intro a ha b c;simp at c;subst c;intro e;subst e;exact h2 ha
theorem dZd(h:l[k]? = gj p)(h2:p∈l.take k):¬l.Nodup:=by
 intro hn;obtain⟨a,e⟩:=gw h;rw[<-List.take_append_drop k l,AJ]at hn;refine hn.2.2 p h2 p ?_ rfl;rw[List.drop_eq_getElem_cons a,e];simp
theorem aJn(v:AX)(l:List Int)(w:AQ)(hs:IR w v l)(hm:l.length<=9223372036854775807)(hv:∀ A n c,v = fG A n c->n<=c):
  AK fZ 72 #[v] w fun e w'=>e = fS (fH (decide l.Nodup))/\w=w':=by
 obtain⟨A,c,rfl⟩:=hs.I;have hc:=hv _ _ _ rfl;have f:=fQ hs;clear hs hv;go_in;go_wp2;go_loopw [7] (fun i wr=>∃ k:Nat,k<=l.length/\i = fF fO k/\Hid ((l.take k).Nodup)/\Hid (w=wr)) (fun i _=>l.length - (intOf i).toNat)
 case atStart=>exact⟨0,fu,rfl,fQ fz,fQ rfl⟩
 case round=>
  obtain⟨k,hk,rfl,g,h⟩:=hrel;obtain rfl:=h.out;clear h;by_cases j:k<l.length
  ·have ad:(k:Int)<(l.length:Int):=fu;have ah:k<=c:=fu;have ae:(k:Int)<=(c:Int):=fu;obtain⟨y,a⟩:∃ y,l[k]? = gj y:=⟨_,Ax j⟩;obtain⟨ab,p,rfl,ai,aj⟩:=f.cell a;have m:=fQ a
   have o:=fQ (show IR w (fG (gj ⟨ab,p,gh⟩) k c) (l.take k) by
    obtain⟨A',c',e',q⟩:=f.out;injection e' with r e2 e3;subst r;refine IR.of ?_ (by rw[Ay];omega);rw[<-bVc]
    exact q.take fu)
   clear a;by_cases he:y∈l.take k
   ·have b:=fQ (show decide (y∈l.take k)=gm by simpa using he);have s:=fQ (gE (dZd m.out he));clear he;go_wp2_with fail;refine gu (aKf _ (l.take k) y _ o.out (by rw[Ay];omega)) ?_;rw[b.out];go_wp2;go_ret;exact⟨by rw[s.out];rfl,rfl⟩
   ·have b:=fQ (show decide (y∈l.take k)=gn by simpa using he);have d:=fQ (cVy m.out g.out he);clear he;go_wp2_with fail;refine gu (aKf _ (l.take k) y _ o.out (by rw[Ay];omega)) ?_;rw[b.out];go_wp2;exact⟨⟨k+1,fu,fz,d,fQ (by trivial)⟩,fB⟩
  ·have d:=fQ (show decide l.Nodup=gm by have:=g.out;rw[Ak fu]at this;simpa using this);go_wp2;go_ret;exact⟨by rw[d.out];rfl,rfl⟩
end Go.Proofs.YtabibkpfgmolkaaGreatDoor

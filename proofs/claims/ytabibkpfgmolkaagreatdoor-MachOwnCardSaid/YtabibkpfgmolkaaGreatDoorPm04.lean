/- Lemmas for the claim, part 4. Conditions: none. -/
import Derived.Test.YtabibkpfgmolkaaGreatDoorPm03
import Derived.Lib.AppendZerosOnto
import Derived.Shelf.Small.Bits
import Derived.Test.YtabibkpfgmolkaaGreatDoorChecked
set_option maxRecDepth 100000
set_option maxHeartbeats 16000000
set_option linter.unusedVariables false
set_option linter.unusedSimpArgs false
open Go.Lib renaming hid→fQ
open Go.Proofs.Tryz renaming prog→fZ
open Go.Proofs.Tryz
open Go.RowKit
open Nat renaming le_refl→Aj,pow_le_pow_right→Aw,mul_one→AZ,mul_le_mul_right→Aa,lt_of_lt_of_le→Ac,pow_succ→Ae,pow_mul→Ah,add_zero→Bq,zero_add→Bx,or_comm→Bz
open List renaming getElem?_eq_getElem→Aq,replicate→Az,take_of_length_le→Ak,take_succ_eq_append_getElem→Av,eq_nil_of_length_eq_zero→AJ,mem_of_mem_take→AQ,take_append_of_le_length→AX,eq_of_mem_replicate→AK,length_cons→AV,getElem?_eq_none→AW,mem_of_getElem?→AY,mem_of_mem_drop→Ab,ext_getElem?→Ad,countP_cons→Af,length_set→Ai,range→Bk
open Go.RowKit.Below renaming refl→Ax
open Bool renaming and_eq_true→Ay,eq_iff_iff→Bj
open Go renaming World→Bv,Value→Bw,Calls→BJ,TypeId→BQ
open Go.RowKit renaming Below→By
namespace Go.Proofs.YtabibkpfgmolkaaGreatDoor
variable {w:Bv}{n k g i j a:Nat}{t:BQ}{p q:Bw}{l:List Int}
theorem Structs.fXd{s:SigD}(h:Blk w g t #[p,q])(h1:Ints w p s.inn)(h2:Ints w q s.out):Structs 2 SigC w (.slice (some ⟨g,0,none⟩) 1 1) [s]:=by
 refine⟨some ⟨g,0,none⟩,1,[[p,q]],rfl,by simp,(fun e=>by cases e),by simp,rfl,by simp,fun i r x q1 a=>?_,?_⟩
 ·match i,q1,a with
  | 0,q1,a=>
   simp at q1 a;subst q1;subst a;exact⟨p,q,rfl,h1,h2⟩
 ·have:=h.src 2 (by simp)
  simpa using this
def bZx(s:SigD):EnvD:=⟨[s],0,[],[],false⟩
theorem cXo(s:SigD):envOk (bZx s)=sigOk s:=by
 simp[envOk,bZx,lV]
theorem cWb{s:SigD}(h:Blk w g t #[p,q])(h1:Ints w p s.inn)(h2:Ints w q s.out):EnvV w (.agg #[.slice (some ⟨g,0,none⟩) 1 1,.int .i64 0,.slice none 0 0,.slice none 0 0,.bool false]) (bZx s):=
 ⟨_,_,_,rfl,Structs.fXd h h1 h2,Ints.nil w,⟨none,0,rfl,Src.nil _ _,Aj _,fun _=>rfl,by simp[bZx]⟩⟩
def aYh(op:Int):Bool:=decide (op ∈ [(273:Int),275,276,277])
theorem aKa(op:Int):aYh op=true↔(op=273\/op=275\/op=276\/op=277):=by simp[aYh]
theorem cWc{e:EnvD}{r:RowD}{c:CodeD}(h:codeOk e r c=true):(∀ x∈c.to,0<=x/\x<r.code.length)/\tY c.op<=c.to.length/\(c.to.length:Int)<=tJ c.op:=by
 unfold codeOk at h
 split at h
 ·cases h
 ·simp only[Ay,decide_eq_true_eq]at h;obtain⟨⟨_,_,h1,h2⟩,_,_,_,a⟩:=h;refine⟨fun x b=>?_,h1,h2⟩;have:=List.all_eq_true.1 a x b
  simpa using this
theorem cXp{e:EnvD}{r:RowD}(n1:1<=r.code.length)(n2:r.code.length<=4096)(hc:∀ c∈r.code,codeOk e r c=true)(g:∀ c,r.code[r.code.length - 1]? = some c->aYh c.op=true):FlowOk r:=by
 refine⟨n1,n2,fun i c hi=>?_⟩;obtain⟨h1,h2,h3⟩:=cWc (hc c (AY hi));have ae:=(List.getElem?_eq_some_iff.1 hi).1
 have j:aYh c.op=false->(i:Int)+1<r.code.length:=by
  intro he;by_cases k:i=r.code.length - 1
  ·rw[k]at hi;have:=g c hi;rw[he]at this;cases this
  ·omega
 have d:c.op=274->0<c.to.length:=by
  intro e;rw[e]at h2;simp[tY]at h2;omega
 have af:c.to.length<=65:=by
  have:tJ c.op<=65:=(by unfold tJ;split;omega;split <;> omega);omega
 refine⟨fun x b=>?_,d,?_⟩
 ·unfold nextOf at b
  split at b
  ·simp at b
  ·rename_i q1
   split at b
   ·exact h1 x b
   ·rename_i q2
    have he:aYh c.op=false:=by
     rw[Bool.eq_false_iff];intro h;rw[aKa]at h;omega
    have:=j he
    split at b
    ·rename_i m;simp at b;rcases b with b | b
     ·omega
     ·have f:=d m
      cases hct:c.to with
      | nil=>rw[hct]at f;simp at f
      | cons a l=>
       rw[hct]at b;simp at b;subst b;exact h1 _ (by rw[hct];simp)
    ·simp at b;omega
 ·unfold nextOf
  split
  ·simp
  ·split
   ·omega
   ·split <;> simp
theorem dJr{e:EnvD}(h:envOk e=true):e.muts.length=e.globals.length:=by
 simp only[envOk,Ay,decide_eq_true_eq]at h;exact h.1.2.2.2
def ChkPost(e:EnvD)(r:RowD)(w:Bv)(en:Ending)(w':Bv):Prop:=∃ b:Bool,en = .returned (.bool b)/\(b=true↔CheckP e r)/\By w.heap.size w w'
theorem ChkPost.no{e:EnvD}{r:RowD}{w':Bv}(h:¬CheckP e r)(a:By w.heap.size w w'):ChkPost e r w (.returned (.bool false)) w':=⟨false,rfl,⟨(fun h=>by cases h),(fun b=>absurd b h)⟩,a⟩
theorem cWd(e:EnvD)(r:RowD)(ve vr:Bw)(w:Bv)(he:EnvV w ve e)(hr:RowV w vr r):BJ fZ 46 #[ve,vr] w (ChkPost e r w):=by
 have HE:=fQ he;have HR:=fQ hr;obtain⟨va,vb,vd,rfl,h1,h2,h3⟩:=he;obtain⟨As,cs,rfl,_⟩:=h1.len;obtain⟨Ag,cg,rfl⟩:=h2.shape;obtain⟨Am,cm,rfl,_⟩:=h3;obtain⟨vp,vq,vr,vs,rfl,h4,h5,L,M⟩:=hr;have H4:=fQ h4;have H5:=fQ h5;have H6:=fQ L;have H7:=fQ M;obtain⟨i,j,rfl⟩:=h4.shape;obtain⟨l,m,rfl⟩:=h5.shape;obtain⟨Ar,cr,rfl⟩:=L.shape;obtain⟨O,P,rfl,_⟩:=M.len;obtain⟨_,l6,aO⟩:=L.eYz;obtain⟨_,l7,aP⟩:=M.eYz;have an:=fQ (al2 w (.cells #[.slice As e.sigs.length cs,.int .i64 e.imports,.slice Ag e.globals.length cg,.slice Am e.muts.length cm,.bool e.mem] 26) (.cells #[.slice i r.sig.inn.length j,.slice l r.sig.out.length m,.int .i64 r.places,.slice Ar r.params.length cr,.slice O r.code.length P] 89));have f:=fQ ((Blk.new w 26 #[.slice As e.sigs.length cs,.int .i64 e.imports,.slice Ag e.globals.length cg,.slice Am e.muts.length cm,.bool e.mem]).alloc (.cells #[.slice i r.sig.inn.length j,.slice l r.sig.out.length m,.int .i64 r.places,.slice Ar r.params.length cr,.slice O r.code.length P] 89));have g:=fQ (Blk.newAt (w.alloc (.cells #[.slice As e.sigs.length cs,.int .i64 e.imports,.slice Ag e.globals.length cg,.slice Am e.muts.length cm,.bool e.mem] 26)) (N:=w.heap.size+1) 89 #[.slice i r.sig.inn.length j,.slice l r.sig.out.length m,.int .i64 r.places,.slice Ar r.params.length cr,.slice O r.code.length P] (by simp));clear h1 h2 h4 h5 L M;go_in;go_wp2_with fail;refine(aXl _ e _ (HE.out.below an.out (Aj _))).mono ?_;rintro en w1 ⟨rfl,R⟩;have a:=fQ (an.out.trans (R.mono an.out.size));have f:=fQ (f.out.below R f.out.lt);have g:=fQ (g.out.below R g.out.lt);clear R;obtain⟨o,s,u,x,y⟩:=gJ g.out;obtain⟨z,B,C,D,E⟩:=gJ f.out;have y0:=f.out.lt;have y1:=g.out.lt
 cases S:envOk e with
 | false=>
  have Q:=fQ S;clear S;go_wp2;go_ret;exact ChkPost.no (fun d=>by have:=d.env;rw[Q.out]at this;cases this) a.out
 | true=>
  have Q0:=fQ S;clear S;have T:=fQ (a.out.alloc a.out.size (.cells #[.slice i r.sig.inn.length j,.slice l r.sig.out.length m] 62));have ax:=fQ (f.out.alloc (.cells #[.slice i r.sig.inn.length j,.slice l r.sig.out.length m] 62));have ay:=fQ (g.out.alloc (.cells #[.slice i r.sig.inn.length j,.slice l r.sig.out.length m] 62));go_wp2_with fail;refine(aXl _ (bZx r.sig) _ (cWb (Blk.new w1 62 #[.slice i r.sig.inn.length j,.slice l r.sig.out.length m]) (H4.out.below T.out (Aj _)) (H5.out.below T.out (Aj _)))).mono ?_;rintro en w2 ⟨rfl,U⟩;rw[cXo];have a:=fQ (T.out.trans (U.mono T.out.size));have f:=fQ (ax.out.below U ax.out.lt);have g:=fQ (ay.out.below U ay.out.lt);clear U;clear o s u x y z B C D E y0 y1;obtain⟨o,s,u,x,y⟩:=gJ g.out;obtain⟨z,B,C,D,E⟩:=gJ f.out;have y0:=f.out.lt;have y1:=g.out.lt
  cases q1:sigOk r.sig with
  | false=>
   have Q:=fQ q1;clear q1;go_wp2;go_ret;exact ChkPost.no (fun d=>by have:=d.sig;rw[Q.out]at this;cases this) a.out
  | true=>
   have Q1:=fQ q1;clear q1;by_cases F:r.code.length=0
   ·have g2:((r.code.length:Int) == 0)=true:=(by rw[F];rfl);have aC:(r.code.length == 0)=true:=(by rw[F];rfl);have aD:r.code = []:=AJ F;have Q:=fQ F;clear F;go_wp2;go_ret;exact ChkPost.no (fun d=>by have:=d.n1;rw[Q.out]at this;omega) a.out
   have g2:((r.code.length:Int) == 0)=false:=(by rw[beq_eq_false_iff_ne];omega);have aC:(r.code.length == 0)=false:=(by rw[beq_eq_false_iff_ne];omega);have aD:¬r.code = []:=fun e=>F (by rw[e];rfl);have aE:1<=r.code.length:=(by omega);by_cases q3:4096<r.code.length
   ·have g3:decide (4096<(r.code.length:Int))=true:=(by simp;omega);go_wp2;go_ret;exact ChkPost.no (fun d=>by have:=d.n2;omega) a.out
   have g3:decide (4096<(r.code.length:Int))=false:=(by simp;omega);have aF:r.code.length<=4096:=(by omega);by_cases q4:r.places<0
   ·have g4:decide (r.places<0)=true:=(by simpa using q4);go_wp2;go_ret;exact ChkPost.no (fun d=>by have:=d.p1;omega) a.out
   have g4:decide (r.places<0)=false:=(by simpa using q4);by_cases q5:4096<r.places
   ·have g5:decide (4096<r.places)=true:=(by simpa using q5);go_wp2;go_ret;exact ChkPost.no (fun d=>by have:=d.p2;omega) a.out
   have g5:decide (4096<r.places)=false:=(by simpa using q5);by_cases V:r.params.length=r.sig.inn.length
   ·have g6:((r.params.length:Int) != (r.sig.inn.length:Int))=false:=(by simp;omega);have aG:(r.params.length != r.sig.inn.length)=false:=(by simp;omega);have Q6:=fQ V;clear V;go_wp2_with fail;refine(qJ r.places _ r.params _ (H6.out.ir.below a.out (Aj _)) (by omega)).mono ?_;rintro en w3 ⟨rfl,W⟩;have a:=fQ (a.out.trans (W.mono a.out.size));have f:=fQ (f.out.below W f.out.lt);have g:=fQ (g.out.below W g.out.lt);clear W;clear o s u x y z B C D E y0 y1;obtain⟨o,s,u,x,y⟩:=gJ g.out;obtain⟨z,B,C,D,E⟩:=gJ f.out;have y0:=f.out.lt;have y1:=g.out.lt
    cases X:within r.places r.params with
    | false=>
     have Q:=fQ X;clear X;go_wp2;go_ret;exact ChkPost.no (fun d=>by have:=d.pin;rw[Q.out]at this;cases this) a.out
    | true=>
     have Q7:=fQ X;clear X;go_wp2_with fail;refine(aZs _ r.params _ (H6.out.ir.below a.out (Aj _)) (by omega) (fun A n c h=>by injection h with e1 e2 e3;omega)).mono ?_;rintro en w4 ⟨rfl,rfl⟩;by_cases G:r.params.Nodup
     ·rw[decide_eq_true G];have Q8:=fQ G;clear G;go_wp2_with fail;refine(bVi O r.code.length P r.code (fun c=>!codeOk e r c) w.heap.size (w.heap.size+1) _ (H7.out.below a.out (Aj _) (fun _ _ h=>h.below a.out (Aj _))) (by omega) (fun c hc v w' H hv=>cZt e r c _ _ v v v _ _ w' (HE.out.below (a.out.trans (H.mono a.out.size)) (Aj _)) (HR.out.below (a.out.trans (H.mono a.out.size)) (Aj _)) hv (dJr Q0.out) (f.out.below H f.out.lt) (g.out.below H g.out.lt))).mono ?_;rintro en w5 ⟨rfl,Y⟩;have a:=fQ (a.out.trans (Y.mono a.out.size));have f:=fQ (f.out.below Y f.out.lt);have g:=fQ (g.out.below Y g.out.lt);clear Y;clear o s u x y z B C D E y0 y1;obtain⟨o,s,u,x,y⟩:=gJ g.out;obtain⟨z,B,C,D,E⟩:=gJ f.out;have y0:=f.out.lt;have y1:=g.out.lt
      cases Z:r.code.any (fun c=>!codeOk e r c)with
      | true=>
       have Q:=fQ Z;clear Z;go_wp2;go_ret;exact ChkPost.no (fun d=>by obtain⟨c,h1,h2⟩:=List.any_eq_true.1 Q.out;rw[d.code c h1]at h2;cases h2) a.out
      | false=>
       have Q9:=fQ (show ∀ c∈r.code,codeOk e r c=true from fun c hc=>by have:=List.any_eq_false.1 Z c hc;simpa using this);clear Z;have aH:(0:Int)<(r.code.length:Int):=(by omega);have aI:0<r.code.length:=(by omega);obtain⟨I,ao⟩:∃ I,r.code[0]? = some I:=⟨_,Aq (by omega)⟩;obtain⟨c1,aq⟩:∃ c1,r.code[r.code.length - 1]? = some c1:=⟨_,Aq (by omega)⟩;have ar:=H7.out.below a.out (Aj _) (fun _ _ h=>h.below a.out (Aj _));obtain⟨gb,go,p,q,t,eA,aQ,m0,_⟩:=ar.code ao;obtain⟨aR,aS,p',q',t',au,aJ,m1,_⟩:=ar.code aq;subst eA;injection au with au;injection au with e1 e2;subst e1;subst e2;obtain⟨k,hk⟩:∃ k,r.code.length=k+1:=⟨r.code.length - 1,by omega⟩;rw[hk]at m1;simp only[Nat.add_sub_cancel,Nat.zero_mul,Bq]at m0 m1;have aT:(k:Int)<(r.code.length:Int):=(by omega);have aK:k<r.code.length:=(by omega);have aU:(r.code.length:Int) - 1=(k:Int):=(by omega);have aV:((r.code.length:Int) - 1).toNat=k:=(by omega);have C0:=fQ ao;have C1:=fQ aq;have HK:=fQ hk;clear ao aq ar hk;by_cases J:I.op=258
       ·have g10:(I.op == 258)=true:=(by simpa using J);have aw:=fQ J;clear J;have aj:=fQ (a.out.alloc a.out.size (.cells #[.int .i64 273,.int .i64 275,.int .i64 276,.int .i64 277] 3));have aW:=fQ (f.out.alloc (.cells #[.int .i64 273,.int .i64 275,.int .i64 276,.int .i64 277] 3));have aX:=fQ (g.out.alloc (.cells #[.int .i64 273,.int .i64 275,.int .i64 276,.int .i64 277] 3));go_wp2_with fail;refine(aJg _ [273,275,276,277] c1.op _ ⟨_,_,rfl,Blk.fQb (cs:=#[.int .i64 273,.int .i64 275,.int .i64 276,.int .i64 277]) (Blk.new _ _ _) rfl⟩ (by simp)).mono ?_;rintro en w6 ⟨rfl,rfl⟩
        cases K:aYh c1.op with
        | false=>
         have ak:=fQ K;rw[show decide (c1.op ∈ [(273:Int),275,276,277])=false from K];clear K;go_wp2;go_ret;exact ChkPost.no (fun d=>by have:=d.last c1 C1.out;rw[<-aKa,ak.out]at this;cases this) aj.out
        | true=>
         have ak:=fQ K;rw[show decide (c1.op ∈ [(273:Int),275,276,277])=true from K];clear K;have al:=fQ (show 1<=r.code.length/\r.code.length<=4096 from⟨aE,aF⟩);go_wp2_with fail;refine(cYc r _ _ (HR.out.below aj.out (Aj _)) (cXp al.out.1 al.out.2 Q9.out (fun c hc=>by rw[C1.out]at hc;injection hc with hc;rw[<-hc];exact ak.out))).mono ?_;rintro en w7 ⟨b,rfl,az,aA⟩;have aL:=fQ (aj.out.trans (aA.mono aj.out.size));have aB:=fQ az;clear aA az;go_wp2;go_ret;refine⟨!b,rfl,⟨fun H=>?_,fun d=>?_⟩,aL.out⟩
         ·have aM:¬b=true:=(by simpa using H);have aN:Ranked r:=Classical.byContradiction fun h=>aM (aB.out.2 h);exact⟨Q0.out,Q1.out,al.out.1,al.out.2,by omega,by omega,Q6.out,Q7.out,Q8.out,Q9.out,(fun c hc=>by rw[C0.out]at hc;injection hc with hc;rw[<-hc];exact aw.out),(fun c hc=>by rw[C1.out]at hc;injection hc with hc;rw[<-hc];exact(aKa _).1 ak.out),aN⟩
         ·cases b with
          | false=>rfl
          | true=>exact absurd d.rank (aB.out.1 rfl)
       ·have g10:(I.op == 258)=false:=(by simpa using J);have aw:=fQ J;clear J;go_wp2;go_ret;exact ChkPost.no (fun d=>aw.out (d.first I C0.out)) (a.out.alloc a.out.size _)
     ·rw[decide_eq_false G];have Q8:=fQ G;clear G;go_wp2;go_ret;exact ChkPost.no (fun d=>Q8.out d.pun) a.out
   ·have g6:((r.params.length:Int) != (r.sig.inn.length:Int))=true:=(by simp;omega);have aG:(r.params.length != r.sig.inn.length)=true:=(by simp;omega);have Q6:=fQ V;clear V;go_wp2;go_ret;exact ChkPost.no (fun d=>Q6.out d.par) a.out
end Go.Proofs.YtabibkpfgmolkaaGreatDoor
namespace Go.Proofs
open Go.Shelf
def Tryz.fXv:Go.Shelf.Ren:=⟨fun | 128=>165 | n=>n,fun | 51=>112 | 3=>3 | 4=>4 | 46=>99 | 5=>5 | 9=>9 | n=>n,fun | n=>n⟩
def Tryz.fXt:Go.Shelf.Ren:=⟨fun | 133=>150 | 128=>165 | n=>n,fun | 51=>112 | 3=>3 | 4=>4 | 46=>99 | 5=>5 | 9=>9 | n=>n,fun | n=>n⟩
theorem Tryz.fQt:Go.Proofs.Lays.n133 fZ Tryz.fXt:={
 mixed:=by kernel_rfl
 f128:=Tryz.func165.trans (congrArg some (by kernel_rfl))
 f133:=Tryz.func150.trans (congrArg some (by kernel_rfl))
 t3:=underlying3
 a3:=isAgg3
 z3:=sizeOf3
 v3:=zeroValue3
 t4:=underlying4
 a4:=isAgg4
 z4:=sizeOf4
 v4:=zeroValue4
 t5:=underlying5
 a5:=isAgg5
 z5:=sizeOf5
 v5:=zeroValue5
 t9:=underlying9
 a9:=isAgg9
 z9:=sizeOf9
 v9:=zeroValue9
 t46:=underlying99
 a46:=isAgg99
 z46:=sizeOf99
 v46:=zeroValue99
 t51:=underlying112
 a51:=isAgg112
 z51:=sizeOf112
 v51:=zeroValue112 }
theorem Tryz.bits_LeadingZeros32(x:Int)(w:Bv)(a:0<=x)(h1:x<=4294967295):
  BJ fZ 150 #[.int .u32 x] w fun e w'=>e = .returned (.int .i64 (32 - (Lib.bitLen x.toNat:Int)))/\w'=w:=Any.bits_LeadingZeros32 Tryz.fQt x w a h1
def Tryz.fXu:Go.Shelf.Ren:=⟨fun | 134=>147 | 129=>164 | n=>n,fun | 53=>52 | 3=>3 | 4=>4 | 46=>99 | 5=>5 | 9=>9 | n=>n,fun | n=>n⟩
theorem Tryz.fQu:Go.Proofs.Lays.n134 fZ Tryz.fXu:={
 mixed:=by kernel_rfl
 f129:=Tryz.func164.trans (congrArg some (by kernel_rfl))
 f134:=Tryz.func147.trans (congrArg some (by kernel_rfl))
 t3:=underlying3
 a3:=isAgg3
 z3:=sizeOf3
 v3:=zeroValue3
 t4:=underlying4
 a4:=isAgg4
 z4:=sizeOf4
 v4:=zeroValue4
 t5:=underlying5
 a5:=isAgg5
 z5:=sizeOf5
 v5:=zeroValue5
 t9:=underlying9
 a9:=isAgg9
 z9:=sizeOf9
 v9:=zeroValue9
 t46:=underlying99
 a46:=isAgg99
 z46:=sizeOf99
 v46:=zeroValue99
 t53:=underlying52
 a53:=isAgg52
 z53:=sizeOf52
 v53:=zeroValue52 }
theorem Tryz.bits_LeadingZeros64(x:Int)(w:Bv)(a:0<=x)(h1:x<=18446744073709551615):
  BJ fZ 147 #[.int .u64 x] w fun e w'=>e = .returned (.int .i64 (64 - (Lib.bitLen x.toNat:Int)))/\w'=w:=Any.bits_LeadingZeros64 Tryz.fQu x w a h1
end Go.Proofs
namespace Go.Proofs.YtabibkpfgmolkaaGreatDoor
variable {w:Bv}{n k g i j a:Nat}{t:BQ}{p q:Bw}{l:List Int}
end Go.Proofs.YtabibkpfgmolkaaGreatDoor
namespace Go.Proofs.YtabibkpfgmolkaaGreatDoor
variable {w:Bv}{n k g i j a:Nat}{t:BQ}{p q:Bw}{l:List Int}
def aZi(n:Nat)(f:Nat->Bool):List Bool:=(Bk n).map f
theorem aWe(n:Nat)(f:Nat->Bool):(aZi n f).length=n:=by simp[aZi]
theorem aWf{f:Nat->Bool}(h:i<n):(aZi n f)[i]? = some (f i):=by simp[aZi,h]
theorem cYd(n:Nat)(f:Nat->Bool)(j:Nat)(b:Bool):(aZi n f).set j b=aZi n (fun i=>if i=j then b else f i):=by
 apply Ad;intro i;by_cases hi:i<n
 ·rw[aWf hi];by_cases e:j=i
  ·subst e;rw[List.getElem?_set_self (by rw[aWe];exact hi),if_pos rfl]
  ·rw[List.getElem?_set_ne e,aWf hi,if_neg (fun h=>e h.symm)]
 ·rw[AW (by rw[Ai,aWe];omega),AW (by rw[aWe];omega)]
theorem cYe(n:Nat)(b:Bool):Az n b=aZi n (fun _=>b):=by
 unfold aZi;rw[List.map_const'];simp
theorem bJx{α:Type}{p q:α->Bool}:∀ {l:List α},(∀ x∈l,p x=true->q x=true)->(∃ x∈l,q x=true/\p x=false)->l.countP p<l.countP q
 | [],_,⟨x,b,_⟩=>by simp at b
 | a :: l,h,⟨x,b,h1,h2⟩=>by
  have hle:l.countP p<=l.countP q:=List.countP_mono_left fun y c=>h y (by simp[c]);rw[Af,Af];rcases List.mem_cons.1 b with e | b
  ·subst e;rw[h1,h2];simp;omega
  ·have ih:=bJx (l:=l) (fun y c=>h y (by simp[c])) ⟨x,b,h1,h2⟩;have ha:=h a (by simp);cases hp:p a
   ·simp
    split <;> omega
   ·rw[ha hp];simp;omega
def aWg(n:Nat)(g:Nat->Bool):Nat:=(Bk n).countP fun i=>!g i
theorem dKf{g:Nat->Bool}(hi:i<n)(h:g i=false):aWg n (fun j=>if j=i then true else g j)<aWg n g:=by
 refine bJx (fun x _ a=>?_) ⟨i,List.mem_range.2 hi,by simp[h],by simp⟩;by_cases e:x=i
 ·simp[e]at a
 ·simpa[e]using a
def GInv(r:RowD)(g:Nat->Bool):Prop:=∃ D,DoneL r D/\∀ i:Nat,i<r.code.length->(g i=true↔i∈D)
def sJ(g:Nat->Bool)(l:List Int):Bool:=l.any fun x=>!g x.toNat
theorem GInv.start(r:RowD):GInv r (fun _=>false):=⟨[],DoneL.nil r,fun i _=>by simp⟩
theorem GInv.gone{r:RowD}{g:Nat->Bool}(h:GInv r g)(hf:FlowOk r)(hs:sJ g (edges r i)=false):GInv r (fun j=>if j=i then true else g j):=by
 obtain⟨D,h1,h2⟩:=h;refine⟨D ++ [i],h1.push fun k a=>?_,fun j b=>?_⟩
 ·obtain⟨k',e,c⟩:=hf.edges a;have d:k=k':=(by omega);subst d;refine(h2 k c).1 ?_;unfold sJ at hs;rw[List.any_eq_false]at hs;have:=hs _ a
  simpa using this
 ·rw[List.mem_append];show(if j=i then true else g j)=true↔_;by_cases e:j=i
  ·subst e;simp
  ·rw[if_neg e,h2 j b];simp[e]
theorem GInv.done{r:RowD}{g:Nat->Bool}(h:GInv r g)(hf:FlowOk r)(b:∀ i,i<r.code.length->g i=false->sJ g (edges r i)=true):(∃ i,i<r.code.length/\g i=false)↔¬Ranked r:=by
 obtain⟨D,h1,h2⟩:=h;constructor
 ·rintro⟨i,hi,hg⟩;refine bXi (S:=fun i=>i<r.code.length/\g i=false) ⟨i,hi,hg⟩ fun j ⟨c,d⟩=>?_;have:=b j c d;unfold sJ at this;rw[List.any_eq_true]at this;obtain⟨x,a,f⟩:=this;obtain⟨k,e,l⟩:=hf.edges a;subst e;exact⟨k,a,l,by simpa using f⟩
 ·intro m;refine Classical.byContradiction fun hn=>m (h1.fQv fun i hi=>(h2 i hi).1 ?_);cases hg:g i
  ·exact absurd ⟨i,hi,hg⟩ hn
  ·rfl
theorem bJt{m:Nat}(h:lV m l=true):l.length<=m:=by
 unfold lV at h;simp only[Ay,decide_eq_true_eq]at h;exact h.1
theorem aYi{s:SigD}(h:sigOk s=true):s.inn.length<=8/\s.out.length<=8:=by
 unfold sigOk at h;simp only[Ay]at h;exact⟨bJt h.1,bJt h.2⟩
theorem dJs(op:Int):(fY op).length<=2:=by
 unfold fY
 split <;> (try split) <;> simp
theorem aZm{e:EnvD}{s:SigD}{op:Int}{i o:List Int}(he:envOk e=true)(hs:sigOk s=true)(h:iJ e s op n=some (i,o)):i.length<=8/\o.length<=8:=by
 have h1:=aYi hs;unfold iJ at h
 split at h
 ·simp at h;obtain⟨rfl,rfl⟩:=h;simp
 split at h
 ·split at h <;> simp at h;obtain⟨rfl,rfl⟩:=h;simp
 split at h
 ·split at h <;> simp at h;obtain⟨rfl,rfl⟩:=h;simp
 split at h
 ·split at h <;> simp at h;obtain⟨rfl,rfl⟩:=h;simp
 split at h
 ·split at h <;> simp at h;obtain⟨rfl,rfl⟩:=h;exact⟨h1.2,by simp⟩
 split at h
 ·split at h <;> simp at h;obtain⟨rfl,rfl⟩:=h;simp
 split at h
 ·obtain⟨g,hg,h2⟩:=Option.map_eq_some_iff.1 h;injection h2 with h2 a;subst h2;subst a;unfold envOk at he;simp only[Ay,List.all_eq_true]at he;exact aYi (he.2.2 g (AY hg))
 split at h
 ·obtain⟨g,hg,h2⟩:=Option.map_eq_some_iff.1 h;injection h2 with h2 a;subst h2;subst a;simp
 split at h
 ·split at h
  ·simp at h;obtain⟨rfl,rfl⟩:=h;simp
  ·cases h
 split at h
 ·split at h <;> simp at h
  obtain⟨rfl,rfl⟩:=h;have:=dJs op;exact⟨by omega,by simp⟩
 ·unfold mJ at h
  split at h
  ·cases h
  split at h
  ·split at h <;> simp at h;obtain⟨rfl,rfl⟩:=h;simp
  split at h
  ·split at h
   ·simp at h
    split at h <;> (injection h with h2 a;subst h2;subst a;simp)
   ·cases h
  ·split at h
   ·split at h <;> simp at h;obtain⟨rfl,rfl⟩:=h;simp
   split at h
   ·split at h <;> simp at h;obtain⟨rfl,rfl⟩:=h;simp
   ·cases h
section
variable {H:Type} {enc:BQ×Bw->H} {w:Bv}
theorem aXx:qY enc fZ w 23 (fun w cs (l:List Int)=>∃ v,cs = [v]/\Ints w v l):=cZe underlying23 underlying3 (by kernel_rfl) (by kernel_rfl)
theorem dJt:qY enc fZ w 24 (fun w cs (l:List Bool)=>∃ v,cs = [v]/\Bools w v l):=cQc underlying24 underlying4 (by kernel_rfl) (show 1<=fZ.bytesOf 4 by decide +kernel)
theorem c1:fZ.cellsOf 23=1:=by kernel_rfl
theorem cWk:qY enc fZ w 62 SigC:=by
 intro fuel cs x h c;obtain⟨e,v0,e0,f⟩:=lJ underlying62 h c 0 0 1 23 rfl aXx rfl rfl c1;obtain⟨g,v1,d,i⟩:=lJ underlying62 h c 1 1 1 23 rfl aXx rfl rfl c1;obtain⟨_,_,_,_,j,_,_⟩:=DataW.trod_struct underlying62 h;have k:cs.length=2:=j.trans (by kernel_rfl)
 match cs,k with
 | [a,b],_=>
  simp at e0 d;subst e0;subst d;exact⟨⟨e,g⟩,_,_,rfl,f,i⟩
theorem dYs:qY enc fZ w 22 (fun w cs (l:List SigD)=>∃ v,cs = [v]/\Structs 2 SigC w v l):=by
 intro fuel cs x h a;obtain⟨l,v,e,hs,_⟩:=vZ (enc:=enc) (w:=w) underlying22 (show fZ.cellsOf 62=2 by kernel_rfl) (by omega) (show 1<=fZ.bytesOf 62 by decide +kernel) cWk fuel cs x h a;exact⟨l,v,e,hs⟩
theorem aKo:qY enc fZ w 3 (fun _ cs (a:Int)=>cs = [.int .i64 a]/\(Lit.int .i64 a).wf=true):=aJy underlying3
theorem eZn:qY enc fZ w 52 (fun _ cs (a:Int)=>cs = [.int .u64 a]/\(Lit.int .u64 a).wf=true):=aJy underlying52
theorem dJu:qY enc fZ w 4 (fun _ cs (a:Bool)=>cs = [.bool a]):=bXe underlying4
theorem ci:fZ.cellsOf 3=1:=by kernel_rfl
theorem cu:fZ.cellsOf 52=1:=by kernel_rfl
theorem cb:fZ.cellsOf 4=1:=by kernel_rfl
theorem cbs:fZ.cellsOf 24=1:=by kernel_rfl
theorem cgs:fZ.cellsOf 22=1:=by kernel_rfl
theorem cg:fZ.cellsOf 62=2:=by kernel_rfl
theorem ccs:fZ.cellsOf 87=1:=by kernel_rfl
theorem eZo:qY enc fZ w 26 eWr:=by
 intro fuel cs x h e;obtain⟨k,v0,e0,l⟩:=lJ underlying26 h e 0 0 1 22 rfl dYs rfl rfl cgs;obtain⟨m,g,i1⟩:=lJ underlying26 h e 1 1 1 3 rfl aKo rfl rfl ci;obtain⟨n,v2,e2,o⟩:=lJ underlying26 h e 2 2 1 23 rfl aXx rfl rfl c1;obtain⟨l3,v3,i,p⟩:=lJ underlying26 h e 3 3 1 24 rfl dJt rfl rfl cbs;obtain⟨l4,j⟩:=lJ underlying26 h e 4 4 1 4 rfl dJu rfl rfl cb;obtain⟨_,_,_,_,q,_,_⟩:=DataW.trod_struct underlying26 h;have r:cs.length=5:=q.trans (by kernel_rfl)
 match cs,r with
 | [a,b,c,d,f],_=>
  simp at e0 g e2 i j;subst e0;subst g;subst e2;subst i;subst j;exact⟨⟨k,m,n,l3,l4⟩,_,_,_,rfl,l,o,p⟩
theorem dYt:qY enc fZ w 86 CodeC:=by
 intro fuel cs x h e;obtain⟨l,e0,m⟩:=lJ underlying86 h e 0 0 1 3 rfl aKo rfl rfl ci;obtain⟨g,i,o⟩:=lJ underlying86 h e 1 1 1 52 rfl eZn rfl rfl cu;obtain⟨p,v2,e2,q⟩:=lJ underlying86 h e 2 2 1 23 rfl aXx rfl rfl c1;obtain⟨l3,v3,j,r⟩:=lJ underlying86 h e 3 3 1 23 rfl aXx rfl rfl c1;obtain⟨l4,v4,k,s⟩:=lJ underlying86 h e 4 4 1 23 rfl aXx rfl rfl c1;obtain⟨_,_,_,_,t,_,_⟩:=DataW.trod_struct underlying86 h;have u:cs.length=5:=t.trans (by kernel_rfl)
 match cs,u with
 | [a,b,c,d,f],_=>
  simp at e0 i e2 j k;subst e0;subst i;subst e2;subst j;subst k;have v:=bXd m;have h1:=bXc o;obtain⟨n,rfl⟩:∃ n:Nat,g=n:=⟨g.toNat,by omega⟩;exact⟨⟨l,n,p,l3,l4⟩,_,_,_,rfl,⟨by show n<_;omega,v⟩,q,r,s⟩
theorem dJv:qY enc fZ w 87 (fun w cs (l:List CodeD)=>∃ v,cs = [v]/\Structs 5 CodeC w v l):=by
 intro fuel cs x h a;obtain⟨l,v,e,hs,_⟩:=vZ (enc:=enc) (w:=w) underlying87 (show fZ.cellsOf 86=5 by kernel_rfl) (by omega) (show 1<=fZ.bytesOf 86 by decide +kernel) dYt fuel cs x h a;exact⟨l,v,e,hs⟩
theorem eZp:qY enc fZ w 89 RowC:=by
 intro fuel cs x h e;obtain⟨j,e0⟩:=lJ underlying89 h e 0 0 2 62 rfl cWk rfl rfl cg;obtain⟨k,g,i1⟩:=lJ underlying89 h e 1 2 1 3 rfl aKo rfl rfl ci;obtain⟨l,v2,e2,m⟩:=lJ underlying89 h e 2 3 1 23 rfl aXx rfl rfl c1;obtain⟨l3,v3,i,n⟩:=lJ underlying89 h e 3 4 1 87 rfl dJv rfl rfl ccs;obtain⟨_,_,_,_,o,_,_⟩:=DataW.trod_struct underlying89 h;have p:cs.length=5:=o.trans (by kernel_rfl)
 match cs,p with
 | [a,b,c,d,f],_=>
  simp at e0 g e2 i;obtain⟨x0,x1,x2,x3,x4⟩:=e0;subst g;subst e2;subst i;simp at x2;obtain⟨rfl,rfl⟩:=x2;exact⟨⟨j,k,l,l3⟩,_,_,_,_,rfl,x3,x4,m,n⟩
end
theorem small_of{H:Type}{P:Program}{ts:List BQ}{a:List (DataW H)}(h:(DataW.weightsEach P ts a).all (· <= reachBytes)=true){d:DataW H}(b:ts[j]? = some t)(hd:a[j]? = some d):aVf P t d:=fun n hn=>by
 have:=List.all_eq_true.1 h n (DataW.weights_mem_each (j:=j) b hd n hn)
 simpa using this
section
variable {H:Type} {enc:BQ×Bw->H} {w:Bv}
theorem cWl{r:Reach}{fs:Array Field}{v:Bw}(b:fZ.underlying t=some (.struct fs))(hv:Value.okWide fZ w r a t v):∃ cs,v = .agg cs:=by
 simp only[Value.okWide,b]at hv;obtain⟨cs,rfl,_⟩:=hv;exact⟨cs,rfl⟩
end
structure RowsD where
 env:EnvD
 fns:List RowD
def RowsV(w:Bv)(v:Bw)(p:RowsD):Prop:=∃ a b d f,v = .agg #[a,.int .i64 p.env.imports,b,d,.bool p.env.mem,f]/\Structs 2 SigC w a p.env.sigs/\Ints w b p.env.globals/\Bools w d p.env.muts/\Structs 5 RowC w f p.fns
theorem RowsV.below{w w':Bv}{B:Nat}{r:Bw}{p:RowsD}(h:RowsV w r p)(c:By B w w')(g:w.heap.size<=B):RowsV w' r p:=by
 obtain⟨a,b,d,f,e,h1,h2,i,j⟩:=h;exact⟨a,b,d,f,e,h1.below c g (fun r x q=>q.below c g),h2.below c g,i.below c g,j.below c g (fun r x q=>q.below c g)⟩
theorem RowsV.env{w:Bv}{a b d f:Bw}{x:Int}{m:Bool}{p:RowsD}(h:RowsV w (.agg #[a,.int .i64 x,b,d,.bool m,f]) p):EnvV w (.agg #[a,.int .i64 p.env.imports,b,d,.bool p.env.mem]) p.env:=by
 obtain⟨a',b',d',f',e,h1,h2,c,h4⟩:=h;injection e with e;injection e with e;simp only[List.cons.injEq,and_true]at e;obtain⟨rfl,_,rfl,rfl,_,rfl⟩:=e;exact⟨a,b,d,rfl,h1,h2,c⟩
theorem Structs.row{A:Option Addr}{c:Nat}{l:List RowD}(h:Structs 5 RowC w (.slice A n c) l){x:RowD}(a:l[k]? = some x):
  ∃ b o p q r s,A=some ⟨b,o,none⟩/\b<w.heap.size/\w.cell? ⟨b,o+k*5,none⟩=some p/\w.cell? ⟨b,o+k*5+1,none⟩=some q/\w.cell? ⟨b,o+k*5+2,none⟩=some (.int .i64 x.places)/\w.cell? ⟨b,o+k*5+3,none⟩=some r/\w.cell? ⟨b,o+k*5+4,none⟩=some s /\
   Ints w p x.sig.inn/\Ints w q x.sig.out/\Ints w r x.params/\Structs 5 CodeC w s x.code:=by
 obtain⟨b,o,c',rr,e,d,hr,⟨p,q,r,s,rfl,h1,h2,f,g⟩,hc⟩:=h.at (by omega) a;injection e with i e2 e3;exact⟨b,o,p,q,r,s,i,d,hc 0 _ rfl,hc 1 _ rfl,hc 2 _ rfl,hc 3 _ rfl,hc 4 _ rfl,h1,h2,f,g⟩
theorem RowV.of{r s:Bw}{x:RowD}(h1:Ints w p x.sig.inn)(h2:Ints w q x.sig.out)(a:Ints w r x.params)(b:Structs 5 CodeC w s x.code):RowV w (.agg #[p,q,.int .i64 x.places,r,s]) x:=⟨p,q,r,s,rfl,h1,h2,a,b⟩
theorem dJj(w:Bv)(a b:Obj):By w.heap.size w ((w.alloc a).alloc b):=((Ax _ _).alloc (Aj _) _).alloc (by simp) _
theorem aYy{e:BQ}{a b:Bw}(k:Blk w g e #[a,b]):w.cell? ⟨g,0,none⟩=some a/\w.cell? ⟨g,1,none⟩=some b:=⟨by simpa using k.cell 0,by simpa using k.cell 1⟩
theorem rX{e:BQ}{a b c d f h:Bw}(k:Blk w g e #[a,b,c,d,f,h]):
  w.cell? ⟨g,0,none⟩=some a/\w.cell? ⟨g,1,none⟩=some b/\w.cell? ⟨g,2,none⟩=some c/\w.cell? ⟨g,3,none⟩=some d/\w.cell? ⟨g,4,none⟩=some f/\w.cell? ⟨g,5,none⟩=some h:=
 ⟨by simpa using k.cell 0,by simpa using k.cell 1,by simpa using k.cell 2,by simpa using k.cell 3,by simpa using k.cell 4,by simpa using k.cell 5⟩
structure ProgP (p:RowsD):Prop where
 env:envOk p.env=true
 len:(p.fns.length:Int)+p.env.imports=p.env.sigs.length
 row:∀ (i:Nat) r,p.fns[i]? = some r->CheckP p.env r/\p.env.sigs[p.env.imports.toNat+i]? = some r.sig
theorem mV{e:EnvD}(h:envOk e=true):e.sigs.length<=64/\0<=e.imports/\e.imports<=e.sigs.length:=by
 unfold envOk at h;simp only[Ay,decide_eq_true_eq]at h;exact⟨h.1.1,h.1.2.1,h.1.2.2.1⟩
def dJk(b:Bool)(w:Bv)(en:Ending)(w':Bv):Prop:=en = .returned (.bool b)/\∃ n,w'=w.drewN n
theorem bZl{m:List Int}{x y:Int}(h:l.take k=m.take k)(a:l[k]? = some x)(b:m[k]? = some y):x=y->l.take (k+1)=m.take (k+1):=by
 intro e;subst e;obtain⟨h1,h2⟩:=List.getElem?_eq_some_iff.1 a;obtain⟨c,d⟩:=List.getElem?_eq_some_iff.1 b;rw[Av h1,Av c,h,h2,d]
theorem cZc{m:List Int}{x y:Int}(b:l[k]? = some x)(a:m[k]? = some y)(h:x≠y):l≠m:=by
 intro e;subst e;rw[b]at a;injection a with a;exact h a
theorem bVa(v u:Bw)(l m:List Int)(w:Bv)(h1:Ints w v l)(h2:Ints w u m):BJ fZ 45 #[v,u] w (dJk (decide (l=m)) w):=by
 obtain⟨A1,c1,rfl⟩:=h1.shape;obtain⟨A2,c2,rfl⟩:=h2.shape;have H1:=fQ h1.ir;have j:=fQ h2.ir;have B:=h1.eYz.2.2.1;have C:=h2.eYz.2.2.1;clear h1 h2;by_cases hlen:l.length=m.length
 ·obtain⟨n,hn⟩:=fX l.length;have d:m.length=n:=(by omega);have p:=fQ hn;have q:=fQ d;rw[hn]at H1 B ⊢;rw[d]at j C ⊢;have D:((n:Int) != (n:Int))=false:=(by simp);clear hn d hlen;go_in;go_wp2;go_loopw [13] (fun i wr=>∃ k:Nat,k<=n/\i = .int .i64 k/\Hid (l.take k=m.take k/\∃ z,wr=w.drewN z)) (fun i _=>n - (intOf i).toNat)
  case atStart=>exact⟨0,by omega,rfl,fQ ⟨by simp,0,rfl⟩⟩
  case round=>
   obtain⟨k,hk,rfl,IM⟩:=hrel;obtain⟨c,z,rfl⟩:=IM.out;clear IM;by_cases r:k<n
   ·have E:decide ((k:Int)<n)=true:=(by simp;omega);have t2:(k:Int)<n:=(by omega);obtain⟨x,f⟩:∃ x,l[k]? = some x:=⟨_,Aq (by rw[p.out];exact r)⟩;obtain⟨y,g⟩:∃ y,m[k]? = some y:=⟨_,Aq (by rw[q.out];exact r)⟩;obtain⟨b,o,rfl,hb,hc⟩:=H1.out.cell f;obtain⟨b2,o2,rfl,al,an⟩:=j.out.cell g;have s:=fQ f;have t:=fQ g;have F:=fQ c;clear f g c;by_cases a:x=y
    ·have q1:(x != y)=false:=(by simpa using a);have h:=fQ a;clear a;go_wp2_with fail;go_quiet (fail);go_wp2;exact⟨⟨k+1,by omega,by simp,fQ ⟨bZl F.out s.out t.out h.out,_,rfl⟩⟩,by simp[intOf];omega⟩
    ·have q1:(x != y)=true:=(by simpa using a);have h:=fQ a;clear a;go_wp2_with fail;go_quiet (fail);go_wp2;go_ret;exact⟨by rw[decide_eq_false (cZc s.out t.out h.out)];rfl,z+nq,by simp[World.drewN];omega⟩
   ·have E:decide ((k:Int)<n)=false:=by simp;omega
    have A:l=m:=by
     rw[<-Ak (l:=l) (i:=k) (by have:=p.out;omega),<-Ak (l:=m) (i:=k) (by have:=q.out;omega),c]
    have G:=fQ A;clear A c;go_wp2;go_ret;exact⟨by rw[decide_eq_true G.out];rfl,_,rfl⟩
 ·have H:l≠m:=fun e=>hlen (by rw[e]);have D:((l.length:Int) != (m.length:Int))=true:=(by simp;omega);go_in;go_wp2;go_ret;exact⟨by rw[decide_eq_false H];rfl,0,rfl⟩
theorem bVb(v u:Bw)(l m:List Int)(w:Bv)(h1:Ints w v l)(h2:Ints w u m):BJ fZ 84 #[v,u] w (dJk (decide (l=m)) w):=by
 obtain⟨A1,c1,rfl⟩:=h1.shape;obtain⟨A2,c2,rfl⟩:=h2.shape;have H1:=fQ h1.ir;have j:=fQ h2.ir;have B:=h1.eYz.2.2.1;have C:=h2.eYz.2.2.1;clear h1 h2;by_cases hlen:l.length=m.length
 ·obtain⟨n,hn⟩:=fX l.length;have d:m.length=n:=(by omega);have p:=fQ hn;have q:=fQ d;rw[hn]at H1 B ⊢;rw[d]at j C ⊢;have D:((n:Int) != (n:Int))=false:=(by simp);clear hn d hlen;go_in;go_wp2;go_loopw [5] (fun i wr=>∃ k:Nat,k<=n/\i = .int .i64 k/\Hid (l.take k=m.take k/\∃ z,wr=w.drewN z)) (fun i _=>n - (intOf i).toNat)
  case atStart=>exact⟨0,by omega,rfl,fQ ⟨by simp,0,rfl⟩⟩
  case round=>
   obtain⟨k,hk,rfl,IM⟩:=hrel;obtain⟨c,z,rfl⟩:=IM.out;clear IM;by_cases r:k<n
   ·have E:decide ((k:Int)<n)=true:=(by simp;omega);have t2:(k:Int)<n:=(by omega);obtain⟨x,f⟩:∃ x,l[k]? = some x:=⟨_,Aq (by rw[p.out];exact r)⟩;obtain⟨y,g⟩:∃ y,m[k]? = some y:=⟨_,Aq (by rw[q.out];exact r)⟩;obtain⟨b,o,rfl,hb,hc⟩:=H1.out.cell f;obtain⟨b2,o2,rfl,al,an⟩:=j.out.cell g;have s:=fQ f;have t:=fQ g;have F:=fQ c;clear f g c;by_cases a:x=y
    ·have q1:(x != y)=false:=(by simpa using a);have h:=fQ a;clear a;go_wp2_with fail;go_quiet (fail);go_wp2;exact⟨⟨k+1,by omega,by simp,fQ ⟨bZl F.out s.out t.out h.out,_,rfl⟩⟩,by simp[intOf];omega⟩
    ·have q1:(x != y)=true:=(by simpa using a);have h:=fQ a;clear a;go_wp2_with fail;go_quiet (fail);go_wp2;go_ret;exact⟨by rw[decide_eq_false (cZc s.out t.out h.out)];rfl,z+nq,by simp[World.drewN];omega⟩
   ·have E:decide ((k:Int)<n)=false:=by simp;omega
    have A:l=m:=by
     rw[<-Ak (l:=l) (i:=k) (by have:=p.out;omega),<-Ak (l:=m) (i:=k) (by have:=q.out;omega),c]
    have G:=fQ A;clear A c;go_wp2;go_ret;exact⟨by rw[decide_eq_true G.out];rfl,_,rfl⟩
 ·have H:l≠m:=fun e=>hlen (by rw[e]);have D:((l.length:Int) != (m.length:Int))=true:=(by simp;omega);go_in;go_wp2;go_ret;exact⟨by rw[decide_eq_false H];rfl,0,rfl⟩
def bZm(s t:SigD):Bool:=decide (s.inn=t.inn) && decide (s.out=t.out)
theorem bVc{s t:SigD}:bZm s t=true↔s=t:=by
 cases s;cases t;simp[bZm]
theorem cXg(a b c d:Bw)(s t:SigD)(w:Bv)(ha:Ints w a s.inn)(f:Ints w b s.out)(hc:Ints w c t.inn)(hd:Ints w d t.out):BJ fZ 51 #[.agg #[a,b],.agg #[c,d]] w fun en w'=>en = .returned (.bool (bZm s t))/\By w.heap.size w w':=by
 have e:=fQ (dJj w (.cells #[a,b] 62) (.cells #[c,d] 62));have h1:=fQ (ha.below e.out (Aj _));have h2:=fQ (f.below e.out (Aj _));have j:=fQ (hc.below e.out (Aj _));have k:=fQ (hd.below e.out (Aj _));have g:=Blk.alloc (Blk.new w 62 #[a,b]) (.cells #[c,d] 62);have h:=Blk.newAt (w.alloc (.cells #[a,b] 62)) (N:=w.heap.size+1) 62 #[c,d] (by simp);unfold bZm;clear ha f hc hd;go_in;go_wp2_with fail;refine(bVb _ _ _ _ _ h1.out j.out).mono ?_;rintro en w1 ⟨rfl,z,rfl⟩;have i:=fQ (fV e.out z);cases hq:decide (s.inn=t.inn)
 ·go_wp2;go_ret;exact⟨by rw[hq];rfl,i.out⟩
 ·obtain⟨e0,e1⟩:=aYy (Blk.drewN g z);obtain⟨f0,f1⟩:=aYy (Blk.drewN h z);have y1:=Blk.lt (Blk.drewN g z);have y2:=Blk.lt (Blk.drewN h z);go_wp2_with fail;refine(bVb _ _ _ _ _ (h2.out.below (fV (Ax _ _) z) (Aj _)) (k.out.below (fV (Ax _ _) z) (Aj _))).mono ?_;rintro en w2 ⟨rfl,l,rfl⟩;have ad:=fQ (fV i.out l);go_wp2;go_ret;exact⟨by rw[hq];rfl,fV e.out _⟩
def dJl(p:RowsD)(w:Bv)(en:Ending)(w':Bv):Prop:=∃ b:Bool,en = .returned (.bool b)/\(b=true↔ProgP p)/\By w.heap.size w w'
def LrInv(p:RowsD)(M:Nat)(a:Bv)(k:Nat)(wr:Bv):Prop:=By a.heap.size a wr/\∀ (j:Nat) r,j<k->p.fns[j]? = some r->CheckP p.env r/\p.env.sigs[M+j]? = some r.sig
theorem LrInv.step{p:RowsD}{M:Nat}{d wr w':Bv}{r:RowD}{s:SigD}(h:LrInv p M d k wr)(e:p.fns[k]? = some r)(hs:p.env.sigs[M+k]? = some s)(h1:s.inn=r.sig.inn)(h2:s.out=r.sig.out)(hc:CheckP p.env r)(f:By wr.heap.size wr w'):LrInv p M d (k+1) w':=by
 refine⟨h.1.trans (f.mono h.1.size),fun j q c hq=>?_⟩;rcases Nat.lt_succ_iff_lt_or_eq.1 c with c | rfl
 ·exact h.2 j q c hq
 ·rw[e]at hq;injection hq with hq;subst hq;refine⟨hc,?_⟩;rw[hs];obtain⟨a,b⟩:=s;have h1:a=r.sig.inn:=h1;have h2:b=r.sig.out:=h2;subst h1;subst h2;rfl
theorem aZz(p:RowsD)(v:Bw)(w:Bv)(hv:RowsV w v p):BJ fZ 23 #[v] w (dJl p w):=by
 obtain⟨a,b,d,f,rfl,h1,h2,h3,h4⟩:=hv;have aB:=fQ (show EnvV w (.agg #[a,.int .i64 p.env.imports,b,d,.bool p.env.mem]) p.env from⟨a,b,d,rfl,h1,h2,h3⟩);obtain⟨sA,sc,rfl,_,a1,_⟩:=h1.len;obtain⟨fA,fc,rfl,_,aL,_⟩:=h4.len;have aC:=fQ h1;have aD:=fQ h4;have an:=fQ ((Ax w.heap.size w).alloc (Aj _) (.cells #[.slice sA p.env.sigs.length sc,.int .i64 p.env.imports,b,d,.bool p.env.mem,.slice fA p.fns.length fc] 29));have K0:=fQ (Blk.new w 29 #[.slice sA p.env.sigs.length sc,.int .i64 p.env.imports,b,d,.bool p.env.mem,.slice fA p.fns.length fc]);clear h1 h2 h3 h4;go_in;go_wp2_with fail;refine(aXl _ p.env _ (aB.out.below an.out (Aj _))).mono ?_;rintro en w1 ⟨rfl,ao⟩;have o:=fQ (an.out.trans (ao.mono an.out.size));have KP:=fQ (K0.out.below ao K0.out.lt);clear ao;cases E:envOk p.env
 ·go_wp2_with fail;go_ret;exact⟨false,rfl,⟨fun h=>(by cases h),fun h=>(by have:=h.env;rw[E]at this;cases this)⟩,o.out⟩
 have aM:=mV E;obtain⟨M,hM⟩:∃ M:Nat,p.env.imports=(M:Int):=⟨p.env.imports.toNat,by omega⟩;obtain⟨n,hn⟩:=fX p.fns.length;obtain⟨L,hL⟩:=fX p.env.sigs.length;obtain⟨S,hS⟩:=fX (n+M);have aN:=fQ E;have q:=fQ hM;have F:=fQ hn;have G:=fQ hL;have C:=fQ hS;have aO:M<=64:=(by omega);have aP:L<=64:=(by omega);rw[hn]at aL;have aQ:IntKind.i64.wrap ((n:Int)+(M:Int))=(S:Int):=(by rw[show(n:Int)+(M:Int)=(S:Int) by omega];exact IntWalk.i64_in _ (by omega));obtain⟨e0,l,e2,t,u,m⟩:=rX KP.out;rw[hM]at l ⊢;rw[hL]at e0 aC ⊢;rw[hn]at m aD ⊢;have y1:=KP.out.lt;have aE:=fQ (show ∀ w',By w1.heap.size w1 w'->_/\_/\_/\_/\_/\_ from fun w' x=>⟨(x.cell (p:=⟨w.heap.size,_,none⟩) y1).trans e0,(x.cell (p:=⟨w.heap.size,_,none⟩) y1).trans l,(x.cell (p:=⟨w.heap.size,_,none⟩) y1).trans e2,(x.cell (p:=⟨w.heap.size,_,none⟩) y1).trans t,(x.cell (p:=⟨w.heap.size,_,none⟩) y1).trans u,(x.cell (p:=⟨w.heap.size,_,none⟩) y1).trans m⟩);clear E aM hM hn hL hS;by_cases aR:S=L
 ·subst aR;have q0:((S:Int) != (S:Int))=false:=(by simp);go_wp2_with fail;go_loopw [27] (fun i wr=>∃ k:Nat,k<=n/\i = .int .i64 k/\Hid (LrInv p M w1 k wr)) (fun i _=>n - (intOf i).toNat)
  case atStart=>exact⟨0,by omega,rfl,fQ ⟨Ax _ _,fun j r hj=>by omega⟩⟩
  case round=>
   clear e0 l e2 t u m q0 aQ;obtain⟨k,hk,rfl,e⟩:=hrel;by_cases aS:k<n
   ·as_aux_lemma=>
    have t1:decide ((k:Int)<n)=true:=(by simp;omega);have t2:(k:Int)<n:=(by omega);obtain⟨r,hr⟩:∃ r,p.fns[k]? = some r:=⟨_,Aq (by rw[F.out];exact aS)⟩;obtain⟨X,hX⟩:=fX (M+k);obtain⟨s,hs⟩:∃ s,p.env.sigs[X]? = some s:=⟨_,Aq (by have:=C.out;have:=G.out;omega)⟩;have H:=fQ hr;have aq:=fQ (show p.env.sigs[M+k]? = some s from hX ▸ hs);have a6:IntKind.i64.wrap ((M:Int)+(k:Int))=(X:Int):=(by rw[show(M:Int)+(k:Int)=(X:Int) by omega];exact IntWalk.i64_in _ (by have:=C.out;omega));have t3:(X:Int)<S:=(by have:=C.out;omega);have c:=o.out.trans (e.out.1.mono o.out.size);have g:=fQ c;obtain⟨y,fo,x0,x1,x3,x4,rfl,A,g0,g1,g2,g3,g4,I,J,i3,i4⟩:=aD.out.row hr;obtain⟨sb,so,u0,u1,rfl,ar,g5,g6,i5,i6⟩:=aC.out.sig hs;replace g0:=(c.cell (p:=⟨y,_,none⟩) A).trans g0;replace g1:=(c.cell (p:=⟨y,_,none⟩) A).trans g1;replace g2:=(c.cell (p:=⟨y,_,none⟩) A).trans g2;replace g3:=(c.cell (p:=⟨y,_,none⟩) A).trans g3;replace g4:=(c.cell (p:=⟨y,_,none⟩) A).trans g4;replace g5:=(c.cell (p:=⟨sb,_,none⟩) ar).trans g5;replace g6:=(c.cell (p:=⟨sb,_,none⟩) ar).trans g6;have z1:y<wr.heap.size:=(by have:=c.size;omega);have z2:sb<wr.heap.size:=(by have:=c.size;omega);obtain⟨K,O,rfl⟩:=I.shape;obtain⟨P,c1,rfl⟩:=J.shape;obtain⟨Q,R,rfl⟩:=i3.shape;obtain⟨T,U,rfl,_⟩:=i4.len;obtain⟨V,W,rfl⟩:=i5.shape;obtain⟨Y,Z,rfl⟩:=i6.shape;have aT:=fQ (I.below c (Aj _));have aU:=fQ (J.below c (Aj _));have aV:=fQ (i5.below c (Aj _));have aW:=fQ (i6.below c (Aj _));have aX:=fQ ((RowV.of I J i3 i4).below c (Aj _));obtain⟨e0,l,e2,t,u,m⟩:=aE.out _ e.out.1;have y2:w.heap.size<wr.heap.size:=Ac y1 e.out.1.size;have au:=fQ (dJj wr (.cells #[.slice K r.sig.inn.length O,.slice P r.sig.out.length c1,.int .i64 r.places,.slice Q r.params.length R,.slice T r.code.length U] 89) (.cells #[.slice V s.inn.length W,.slice Y s.out.length Z] 62));have KR:=fQ (Blk.alloc (Blk.new wr 89 #[.slice K r.sig.inn.length O,.slice P r.sig.out.length c1,.int .i64 r.places,.slice Q r.params.length R,.slice T r.code.length U]) (.cells #[.slice V s.inn.length W,.slice Y s.out.length Z] 62));have KS:=fQ (Blk.newAt (wr.alloc (.cells #[.slice K r.sig.inn.length O,.slice P r.sig.out.length c1,.int .i64 r.places,.slice Q r.params.length R,.slice T r.code.length U] 89)) (N:=wr.heap.size+1) 62 #[.slice V s.inn.length W,.slice Y s.out.length Z] (by simp));clear hr hs hX c I J i3 i4 i5 i6 A ar;go_wp2_with fail;refine(bVa _ _ _ _ _ (aV.out.below au.out (Aj _)) (aT.out.below au.out (Aj _))).mono ?_;rintro en w2 ⟨rfl,z,aw⟩;have D:=fQ (show By wr.heap.size wr w2 from aw ▸ fV au.out z);have ax:=(show By (((wr.alloc (.cells #[.slice K r.sig.inn.length O,.slice P r.sig.out.length c1,.int .i64 r.places,.slice Q r.params.length R,.slice T r.code.length U] 89)).alloc (.cells #[.slice V s.inn.length W,.slice Y s.out.length Z] 62)).heap.size) _ w2 from aw ▸ fV (Ax _ _) z);have al:=fQ (KR.out.below ax KR.out.lt);have aF:=fQ (KS.out.below ax KS.out.lt)
    clear ax aw;clear g0 g1 g2 g3 g4 g5 g6;cases ay:decide (s.inn=r.sig.inn)
    ·go_wp2_with fail;go_ret;refine⟨false,rfl,⟨fun h=>(by cases h),fun h=>?_⟩,g.out.trans (D.out.mono g.out.size)⟩;have h1:=(h.row k r H.out).2;rw[show p.env.imports.toNat=M by rw[q.out];rfl,aq.out]at h1;injection h1 with h1;rw[h1]at ay;simp at ay
    ·have aY:=fQ (of_decide_eq_true ay);obtain⟨v0,v1⟩:=aYy aF.out;obtain⟨r0,r1,r2,r3,r4⟩:=gJ al.out;have y3:=Blk.lt aF.out;have y4:=Blk.lt al.out;go_wp2_with fail;refine(bVa _ _ _ _ _ (aW.out.below D.out (Aj _)) (aU.out.below D.out (Aj _))).mono ?_;rintro en w3 ⟨rfl,z2,aG⟩;have az:=(show By w2.heap.size w2 w3 from aG ▸ fV (Ax _ _) z2);have B:=fQ (D.out.trans (az.mono D.out.size));have aH:=fQ (al.out.below az al.out.lt);clear aG az;clear v0 v1 r0 r1 r2 r3 r4 y3 y4;cases aA:decide (s.out=r.sig.out)
     ·go_wp2_with fail;go_ret;refine⟨false,rfl,⟨fun h=>(by cases h),fun h=>?_⟩,g.out.trans (B.out.mono g.out.size)⟩;have h1:=(h.row k r H.out).2;rw[show p.env.imports.toNat=M by rw[q.out];rfl,aq.out]at h1;injection h1 with h1;rw[h1]at aA;simp at aA
     ·have aZ:=fQ (of_decide_eq_true aA);obtain⟨r0,r1,r2,r3,r4⟩:=gJ aH.out;have y4:=Blk.lt aH.out;clear e0 l e2 t u m;obtain⟨e0,l,e2,t,u,m⟩:=aE.out _ (e.out.1.trans (B.out.mono e.out.1.size));go_wp2_with fail;refine(cWd p.env r _ _ _ ?_ (aX.out.below B.out (Aj _))).mono ?_
      ·have:=(aB.out.below (g.out.trans (B.out.mono g.out.size)) (Aj _));rw[q.out,G.out]at this;exact this
      rintro en w4 ⟨bb,rfl,aI,hb⟩;have aJ:=fQ (B.out.trans (hb.mono B.out.size));have aK:=fQ aI;clear aI hb r0 r1 r2 r3 r4 y4 e0 l e2 t u m;cases bb
      ·go_wp2_with fail;go_ret;refine⟨false,rfl,⟨fun h=>(by cases h),fun h=>?_⟩,g.out.trans (aJ.out.mono g.out.size)⟩;exact aK.out.2 (h.row k r H.out).1
      ·go_wp2_with fail;exact⟨⟨k+1,by omega,by simp,fQ (e.out.step H.out aq.out aY.out aZ.out (aK.out.1 trivial) aJ.out)⟩,by simp[intOf];omega⟩
   ·as_aux_lemma=>
    have t1:decide ((k:Int)<n)=false:=(by simp;omega);go_wp2_with fail;go_ret;refine⟨true,rfl,⟨fun _=>⟨aN.out,?_,fun i r hi=>?_⟩,fun _=>rfl⟩,o.out.trans (e.out.1.mono o.out.size)⟩
    ·have:=q.out;have:=F.out;have:=G.out;have:=C.out;omega
    ·rw[show p.env.imports.toNat=M by rw[q.out];rfl];exact e.out.2 i r (by have:=(List.getElem?_eq_some_iff.1 hi).1;have:=F.out;omega) hi
 ·have q0:((S:Int) != (L:Int))=true:=(by simp;omega);go_wp2_with fail;go_ret;refine⟨false,rfl,⟨fun h=>(by cases h),fun h=>?_⟩,o.out⟩;have:=h.len;have:=q.out;have:=F.out;have:=G.out;have:=C.out;omega
def pK(n addr en:Nat):Bool:=decide (addr<=1099511627776) && (decide (en<=1099511627776) && decide (addr+en<=n))
def mZ(n:Nat)(wd:Int)(addr off:Nat):Int×Int:=
 if 4294967295<addr\/4294967295<off then(0,1)else if pK n (addr+off) wd.toNat then((addr+off:Nat),0)else(0,35)
def sxV(a:Nat)(q:Int):Int:=IntKind.u64.wrap (wrap64 (IntKind.u64.wrap (q*2 ^ (64 - 8*a))) / 2 ^ (64 - 8*a))
def aZr(k q:Int):Int:=if k=127 then q % 4294967296 else q
def uQ(k:Int)(a:Nat)(b:Bool)(q:Int):Int:=aZr k (if b then sxV a q else q)
def leN:List Nat->Nat
 | []=>0
 | b :: l=>b+256*leN l
theorem aWr:∀ l:List Nat,AllB l->leN l<256 ^ l.length
 | [],_=>by simp[leN]
 | b :: l,h=>by
  have h1:=aWr l (fun x a=>h x (List.mem_cons_of_mem _ a));have h2:=h b (List.mem_cons_self ..);simp only[leN,AV,Ae];omega
def mW(m:List Nat)(op:Int)(addr off:Nat):Int×Int:=match acc op with
 | none=>(0,1)
 | some (k,wd,st,a)=>if st then(0,1)else if(mZ m.length wd addr off).2=0 then(uQ k wd.toNat a (leN ((m.drop (addr+off)).take wd.toNat)),0)else(0,(mZ m.length wd addr off).2)
theorem aKe{addr off:Nat}{wd:Int}(h:(mZ n wd addr off).2=0):mZ n wd addr off=(((addr+off:Nat):Int),0)/\addr+off+wd.toNat<=n/\addr<=4294967295/\off<=4294967295:=by
 revert h
 unfold mZ
 split
 ·intro h;simp at h
 ·split
  ·rename_i h1 h2;intro _;simp[pK]at h2;exact⟨rfl,by omega,by omega,by omega⟩
  ·intro h;simp at h
theorem eQe{l:List Nat}(h:AllB l):(l.map UInt8.ofNat).map UInt8.toNat=l:=by
 rw[List.map_map]
 conv=>rhs;rw[<-List.map_id l]
 exact List.map_congr_left fun x a=>by have:=h x a;simp;omega
def wJ(n:Nat)(most:Int)(a:Nat):Bool:=decide (n % 256=0/\(n:Int)+256*a<=min most 4096)
def kY(m:List Nat)(most:Int)(a:Nat):List Nat:=if wJ m.length most a then m++Az (256*a) 0 else m
def qK(n:Nat)(most:Int)(a:Nat):Nat:=if wJ n most a then n / 256 else 4294967295
theorem aWs{m:List Nat}(h:AllB m)(most:Int)(a:Nat):AllB (kY m most a):=by
 unfold kY
 split
 ·intro x b;rcases List.mem_append.1 b with h1 | h1
  ·exact h x h1
  ·rw[AK h1];omega
 ·exact h
def aQu(m:List Nat)(a N:Nat):Nat->List Nat
 | 0=>m
 | i+1=>(aQu m a N i).set (a+i) (N / 256 ^ i % 256)
theorem aQv(m:List Nat)(a N:Nat):∀ i,(aQu m a N i).length=m.length
 | 0=>rfl
 | i+1=>by rw[aQu,Ai,aQv m a N i]
theorem aJq{m:List Nat}(h:AllB m)(a N:Nat):∀ i,AllB (aQu m a N i)
 | 0=>h
 | i+1=>fun x b=>by
  rw[aQu]at b;rcases List.mem_or_eq_of_mem_set b with h1 | h1
  ·exact aJq h a N i x h1
  ·omega
def kZ(n:Nat)(op:Int)(addr off N:Nat):Int:=match acc op with
 | none=>1
 | some (k,wd,st,_)=>if st=false then 1 else if k=127/\4294967295<N then 1 else(mZ n wd addr off).2
def dVp(op:Int):Nat:=match acc op with
 | none=>0
 | some (_,wd,_,_)=>wd.toNat
def kV(m:List Nat)(op:Int)(addr off N:Nat):List Nat:=if kZ m.length op addr off N=0 then aQu m (addr+off) N (dVp op)else[]
theorem vK(A:Option Addr)(n c addr en:Nat)(w:Bv)(hn:n<=140737488355328):
  BJ fZ 114 #[.slice A n c,.int .u64 addr,.int .u64 en] w fun e w'=>e = .returned (.bool (pK n addr en))/\w=w':=by
 by_cases h1:addr<=1099511627776
 ·have b:decide ((addr:Int)<=1099511627776)=true:=(by simp;omega);by_cases h2:en<=1099511627776
  ·have d:decide ((en:Int)<=1099511627776)=true:=(by simp;omega);have a:=fQ (show pK n addr en=decide (addr+en<=n) by simp[pK,h1,h2]);go_in;go_wp2;go_ret;rw[a.out];refine⟨?_,rfl⟩;show Ending.returned (.bool (decide ((addr:Int)+(en:Int)<=(n:Int))))=_
   congr 2
   rw[Bj];simp;omega
  ·have d:decide ((en:Int)<=1099511627776)=false:=(by simp;omega);have a:=fQ (show pK n addr en=false by simp[pK,h1,h2]);clear h1 h2;go_in;go_wp2;go_ret;rw[a.out];exact⟨rfl,rfl⟩
 ·have b:decide ((addr:Int)<=1099511627776)=false:=(by simp;omega);have a:=fQ (show pK n addr en=false by simp[pK,h1]);clear h1;go_in;go_wp2;go_ret;rw[a.out];exact⟨rfl,rfl⟩
theorem eVy{q y:Nat}(hy:y<256)(b:k<=7)(hq:q<256 ^ k):bits .or .u64 (q:Int) (IntKind.u64.wrap ((y:Int)*2 ^ (8*k)))=((q+y*256 ^ k:Nat):Int):=by
 have h1:256 ^ k<=256 ^ 7:=Aw (by omega) b;have h2:y*256 ^ k<=255*256 ^ k:=Aa _ (by omega);have a:(256:Nat) ^ k=2 ^ (8*k):=(by rw[Ah])
 have e:(y:Int)*2 ^ (8*k)=((y*256 ^ k:Nat):Int):=by
  rw[Int.natCast_mul,a,Int.natCast_pow];rfl
 rw[e,pZ (by omega),aKj (by omega) (by omega)];refine congrArg Int.ofNat ?_;rw[a]at hq ⊢;rw[<-Nat.shiftLeft_eq,Bz,<-Nat.shiftLeft_add_eq_or_of_lt hq];omega
theorem bYg:∀ (l:List Nat) (b:Nat),leN (l ++ [b])=leN l+b*256 ^ l.length
 | [],b=>by simp[leN]
 | x :: l,b=>by
  simp only[List.cons_append,leN,bYg l b,AV,Ae];have:b*(256 ^ l.length*256)=256*(b*256 ^ l.length):=(by rw[<-Nat.mul_assoc,Nat.mul_comm]);omega
theorem eQi(h:a<18446744073709551616):bits .and .u64 (a:Int) 1=((a % 2:Nat):Int):=by
 rw[show(1:Int)=((1:Nat):Int)from rfl,bits_and_u64_nat a 1 h (by omega)];exact congrArg Int.ofNat (Nat.and_one_is_mod a)
theorem dXg(h:a<18446744073709551616):bits .and .u64 (a:Int) 4294967295=((a % 4294967296:Nat):Int):=by
 rw[show(4294967295:Int)=((2 ^ 32 - 1:Nat):Int)from rfl,bits_and_u64_nat a (2 ^ 32 - 1) h (by decide)];exact congrArg Int.ofNat (Nat.and_two_pow_sub_one_eq_mod a 32)
theorem eQj{q:Nat}(hj:1<=j)(a:j<=8)(hq:q<256 ^ j):(bits .and .u64 ((q:Int) / 2 ^ (8*j - 1)) 1 == 1)=decide (2 ^ (8*j - 1)<=q):=by
 have e:(q:Int) / 2 ^ (8*j - 1)=((q / 2 ^ (8*j - 1):Nat):Int):=(by simp);have h2:256 ^ j=2*2 ^ (8*j - 1):=(by rw[show(256:Nat)=2 ^ 8 from rfl,<-Ah,<-Nat.pow_succ'];congr 1;omega);have h8:256 ^ j<=256 ^ 8:=Aw (by omega) a;have hp:0<2 ^ (8*j - 1):=Nat.two_pow_pos _;have hd:q / 2 ^ (8*j - 1)<2:=(by rw[Nat.div_lt_iff_lt_mul hp];omega);rw[e,eQi (by omega),Nat.mod_eq_of_lt hd,Bj];have:=Nat.le_div_iff_mul_le hp (x:=1) (y:=q);simp;omega
theorem eJh{q:Nat}(a:j=1\/j=2\/j=4\/j=8)(hq:q<256 ^ j):sxV j q=((if 2 ^ (8*j - 1)<=q then q+18446744073709551616 - 256 ^ j else q:Nat):Int):=by
 rcases a with rfl | rfl | rfl | rfl <;> simp only[sxV,IntKind.wrap_u64,wrap64] <;> split <;> simp at * <;> omega
theorem eJi{x t:Nat}(a:x<2 ^ t)(ht:t<64):bits .or .u64 (x:Int) (IntKind.u64.wrap (2 ^ t))=((x+2 ^ t:Nat):Int):=by
 have h1:(2:Nat) ^ t<=2 ^ 63:=Aw (by omega) (by omega);rw[show((2:Int) ^ t)=((2 ^ t:Nat):Int)from by simp,pZ (by omega),aKj (by omega) (by omega)];refine congrArg Int.ofNat ?_;have:=Nat.two_pow_add_eq_or_of_lt a 1;rw[AZ]at this;rw[Bz,<-this];omega
theorem aKz(j:Nat):256 ^ j=2 ^ (8*j):=by rw[show(256:Nat)=2 ^ 8 from rfl,<-Ah]
def eVz(q j:Nat)(a i:Bw):Prop:=∃ t:Nat,8*j<=t/\t<=64/\i = .int .i64 t/\a = .int .u64 ((q+2 ^ t - 256 ^ j:Nat):Int)
def eJj(part:List Nat)(a:Nat)(b i:Bw):Prop:=∃ k:Nat,k<=a/\i = .int .i64 k/\b = .int .u64 (leN (part.take k):Nat)
theorem dWd(b o n c addr off a:Nat)(op k:Int)(s:Bool)(m:List Nat)(w:Bv)(B:acc op=some (k,(a:Int),false,s))(hn:n<=140737488355328)
  (ha:addr<=4294967295) (ho:off<=4294967295) (K:m.length=n) (L:AllB m) (aD:addr+off+a<=n) (M:∀ j (h:j<m.length),w.cell? ⟨b,o+j,none⟩=some (.int .u8 ((m[j]:Nat):Int))) :
  BJ fZ 116 #[.slice (some ⟨b,o,none⟩) n c,.int .i64 op,.int .u64 addr,.int .u64 off] w fun e w'=>
   e = .returned (.tuple #[.int .u64 (uQ k a s (leN ((m.drop (addr+off)).take a))),.int .i64 0])/\By w.heap.size w w':=by
 obtain⟨T,N,_,_⟩:=lZ B;have U:1<=a:=(by omega);have O:a<=8:=(by omega);have V:=fQ (show fK op = .tuple #[.int .i64 k,.int .i64 a,.bool false,.bool true] by simp[fK,B]);have W:=fQ B;have X:=fQ M;have g:=fQ K;have D:=fQ L;have Y:=fQ N;have Z:pK n (addr+off) a=true:=(by simp[pK];omega);clear B M K L N T;have g1:decide (4294967295<(addr:Int))=false:=(by simp;omega);have g2:decide (4294967295<(off:Int))=false:=(by simp;omega);go_in;go_wp2_with fail;refine(gX _ _).mono ?_;rintro e P ⟨rfl,rfl⟩;rw[V.out];go_wp2_with fail;refine(vK _ n c (addr+off) a _ hn).mono ?_;rintro e P ⟨rfl,rfl⟩;rw[Z];go_wp2_with fail;go_loop [14,15] (fun E i=>eJj ((m.drop (addr+off)).take a) a E i) (fun _ i=>a+1 - (intOf i).toNat)
 case atStart=>exact⟨0,by omega,rfl,rfl⟩
 case round=>
  obtain⟨j,hj,rfl,rfl⟩:=hrel;by_cases F:j<a
  ·have az:=X.out (addr+off+j) (by rw[g.out];omega);have Q:=D.out.get (k:=addr+off+j) (by rw[g.out];omega);have ai:decide ((j:Int)<(a:Int))=true:=(by simpa using F);obtain⟨y,G⟩:=fX (m[addr+off+j]'(by rw[g.out];omega));rw[G]at az Q;have HY:=fQ G;obtain⟨q,hq⟩:=fX (leN (((m.drop (addr+off)).take a).take j));rw[hq];have l:=fQ hq;clear G hq;go_wp2;refine⟨⟨j+1,by omega,by simp,?_⟩,by simp[intOf];omega⟩;have aA:j<((m.drop (addr+off)).take a).length:=(by simp[g.out];omega);have hlen:(((m.drop (addr+off)).take a).take j).length=j:=(by simp[g.out];omega)
   have aB:q<256 ^ j:=by
    have:=aWr (((m.drop (addr+off)).take a).take j) (fun x f=>D.out x (Ab (AQ (AQ f))));rw[hlen]at this;rw[<-l.out];exact this
   rw[eVy Q (by omega) aB,Av aA,bYg,hlen,l.out];simp[HY.out]
  ·obtain rfl:j=a:=(by omega);rw[List.take_take,Nat.min_self];have hq:=aWr ((m.drop (addr+off)).take j) (fun x f=>D.out x (Ab (AQ f)));rw[show((m.drop (addr+off)).take j).length=j from by simp[g.out];omega]at hq
   revert hq
   generalize l:leN ((m.drop (addr+off)).take j)=q;intro hq;replace l:=fQ l;have H:j=1\/j=2\/j=4\/j=8:=(by have:=Y.out;omega);have I:=eQj U O hq;have C:=fQ (eJh H hq);have aE:=fQ H;clear H;go_wp2_with fail;refine(cZi W.out _).mono ?_;rintro e P ⟨rfl,rfl⟩
   have fin:∀ (v:Int) (p:Array Bw),p.getD 8 undef = .int .u64 v->p.getD 9 undef = .int .i64 0->v=uQ k j s q ->
     bodyPost fZ Tryz.f116 (fun e w'=>e = .returned (.tuple #[.int .u64 (uQ k j s (leN ((m.drop (addr+off)).take j))),.int .i64 0])/\By w.heap.size w w') Exit.ret { tmps:=p,defers:=[] } w:=by
    intro v p e8 e9 hv;refine bodyPost_ret (results_tmp2 (t:=8) (u:=9) rfl _ _ _) rfl ⟨?_,Ax _ _⟩;rw[l.out,<-hv];show Ending.returned (.tuple #[p.getD 8 undef,p.getD 9 undef])=_;rw[e8,e9]
   have ak:q<18446744073709551616:=Ac hq (Aw (n:=256) (by omega) O);have R:=fQ (dXg ak)
   cases s with
   | true=>
    by_cases r:2 ^ (8*j - 1)<=q
    ·rw[decide_eq_true r]at I;have A:=fQ r;have J:=fQ hq;clear r hq;go_wp2;go_loop [14,16] (fun E i=>eVz q j E i) (fun _ i=>65 - (intOf i).toNat)
     case atStart=>exact⟨8*j,Aj _,by omega,by simp,by rw[aKz];simp⟩
     case round=>
      obtain⟨t,aC,aF,rfl,rfl⟩:=hrel;by_cases F:t<64
      ·have ai:decide ((t:Int)<64)=true:=(by simp;omega);generalize d:q+2 ^ t - 256 ^ j=x;replace d:=fQ d;go_wp2;have hp:2 ^ (8*j)<=2 ^ t:=Aw (by omega) aC;have hq:=J.out;rw[aKz]at hq;refine⟨⟨t+1,by omega,by omega,by simp,?_⟩,by simp[intOf];omega⟩;have f:x<2 ^ t:=(by rw[<-d.out,aKz];omega);rw[eJi f F,<-d.out,aKz,Ae];refine congrArg (fun z:Nat=>Value.int .u64 (z:Int)) ?_;omega
      ·obtain rfl:t=64:=(by omega);generalize d:q+2 ^ 64 - 256 ^ j=x;replace d:=fQ d
       have f:x<18446744073709551616:=by
        have:=J.out;have:=d.out;omega
       have S:=fQ (show x=q+18446744073709551616 - 256 ^ j from d.out.symm);go_wp2
       ·refine fin _ _ rfl rfl ?_;rw[dXg f,uQ,if_pos rfl,C.out,if_pos A.out,aZr,if_pos (eq_of_beq ‹(k == 127)=true›),S.out];rfl
       ·refine fin _ _ rfl rfl ?_;rw[uQ,if_pos rfl,C.out,if_pos A.out,aZr,if_neg (ne_of_beq_false ‹(k == 127)=false›),S.out]
    ·rw[decide_eq_false r]at I;have A:=fQ r;have J:=fQ hq;clear r hq;go_wp2
     ·refine fin _ _ rfl rfl ?_;rw[R.out,uQ,if_pos rfl,C.out,if_neg A.out,aZr,if_pos (eq_of_beq ‹(k == 127)=true›)];rfl
     ·refine fin _ _ rfl rfl ?_;rw[uQ,if_pos rfl,C.out,if_neg A.out,aZr,if_neg (ne_of_beq_false ‹(k == 127)=false›)]
   | false=>
    clear I;go_wp2
    ·refine fin _ _ rfl rfl ?_;rw[R.out,uQ,if_neg (by decide),aZr,if_pos (eq_of_beq ‹(k == 127)=true›)];rfl
    ·refine fin _ _ rfl rfl ?_;rw[uQ,if_neg (by decide),aZr,if_neg (ne_of_beq_false ‹(k == 127)=false›)]
theorem bQf(A:Option Addr)(n c addr off:Nat)(op:Int)(m:List Nat)(w:Bv)(hs:Src w A n (bys m))(u:AllB m)(hn:n<=140737488355328):
  BJ fZ 116 #[.slice A n c,.int .i64 op,.int .u64 addr,.int .u64 off] w fun e w'=>e = .returned (.tuple #[.int .u64 (mW m op addr off).1,.int .i64 (mW m op addr off).2])/\By w.heap.size w w':=by
 have d:m.length=n:=by have:=hs.1;rwa[aQy]at this
 cases a:acc op with
 | none=>
  have f:=fQ (show mW m op addr off=(0,1) by simp[mW,a]);have g:=fQ (show fK op = .tuple #[.int .i64 0,.int .i64 0,.bool false,.bool false] by simp[fK,a]);clear a hs d;go_in;go_wp2_with fail;refine(gX _ _).mono ?_;rintro e l ⟨rfl,rfl⟩;rw[g.out];go_wp2;go_ret2;rw[f.out];exact⟨rfl,Ax _ _⟩
 | some r=>
  obtain⟨k,wd,st,v⟩:=r;obtain⟨hk,ag,_,_⟩:=lZ a;obtain⟨h,rfl⟩:=Int.eq_ofNat_of_zero_le (show 0<=wd by omega);have g:=fQ (show fK op = .tuple #[.int .i64 k,.int .i64 h,.bool st,.bool true] by simp[fK,a])
  cases st with
  | true=>
   have f:=fQ (show mW m op addr off=(0,1) by simp[mW,a]);clear a hs d;go_in;go_wp2_with fail;refine(gX _ _).mono ?_;rintro e l ⟨rfl,rfl⟩;rw[g.out];go_wp2;go_ret2;rw[f.out];exact⟨rfl,Ax _ _⟩
  | false=>
   by_cases i:4294967295<addr\/4294967295<off
   ·have f:=fQ (show mW m op addr off=(0,1) by simp[mW,a,mZ,i]);clear a hs d;by_cases h1:4294967295<addr
    ·have p:decide (4294967295<(addr:Int))=true:=(by simp;omega);clear i;go_in;go_wp2_with fail;refine(gX _ _).mono ?_;rintro e l ⟨rfl,rfl⟩;rw[g.out];go_wp2;go_ret2;rw[f.out];exact⟨rfl,Ax _ _⟩
    ·have p:decide (4294967295<(addr:Int))=false:=(by simp;omega);have x:decide (4294967295<(off:Int))=true:=(by simp;omega);clear i;go_in;go_wp2_with fail;refine(gX _ _).mono ?_;rintro e l ⟨rfl,rfl⟩;rw[g.out];go_wp2;go_ret2;rw[f.out];exact⟨rfl,Ax _ _⟩
   ·by_cases hi:pK n (addr+off) h=true
    ·have hp:(mZ m.length h addr off).2=0:=(by simp[mZ,i,d,hi]);obtain⟨ah,q,ha,s⟩:=aKe hp;rw[d,Int.toNat_natCast]at q;obtain⟨b,o,rfl,ai,hc⟩:=hs.2 (by omega);refine(dWd b o n c addr off h op k v m w a hn ha s d u q (fun j y=>hc j _ (by simp[bys,y]))).mono ?_;rintro e w' ⟨rfl,z⟩;refine⟨?_,z⟩;simp[mW,a,hp]
    ·have t:pK n (addr+off) h=false:=(by simpa using hi);have f:=fQ (show mW m op addr off=(0,35) by simp[mW,a,mZ,i,d,t]);clear a hs d hi;have p:decide (4294967295<(addr:Int))=false:=(by simp;omega);have x:decide (4294967295<(off:Int))=false:=(by simp;omega);have ha:addr<=4294967295:=(by omega);have s:off<=4294967295:=(by omega);clear i;go_in;go_wp2_with fail;refine(gX _ _).mono ?_;rintro e l ⟨rfl,rfl⟩;rw[g.out];go_wp2_with fail;refine(vK _ n c (addr+off) h _ hn).mono ?_;rintro e l ⟨rfl,rfl⟩;rw[t];go_wp2;go_ret2;rw[f.out];exact⟨rfl,Ax _ _⟩
theorem aVy(z:Bw)(k:Nat):Builtin.zeroCells #[z] k=(Az k z).toArray:=by
 apply Array.ext';simp only[Builtin.zeroCells,List.size_toArray,AV,List.length_nil,Bx,AZ,Nat.mod_one];apply Ad;intro i;by_cases h:i<k
 ·simp[h]
 ·simp[h]
theorem aXt{P:Program}{ops:Array Oper}{rest:List Oper}{o:Oper}{a:Act}{Q:Exit->Act->Bv->Prop}(w:Bv)(S:o.guard=none)(s x:Operand)(t l:BQ)
  (H:o.op = .call { callee:=.builtin .append,args:=#[s,x],argTypes:=#[t,l] })
  (base:Nat) (e:BQ) (z:Bw) (bytes:Nat) (y:IntKind) (m:P.underlying t=some (.slice e)) (p:P.underlying l=some (.int y)) (hinfo:(P.info? e).map (fun i=>(i.zero,i.size,i.bytes))=some (some z,1,bytes)) (A:z.cells=#[z]) (T:z.oneCell'=true)
  (v:Bw) (n:Nat) (b:List Bw) (hs:a.eval s=v) (c:w.ownsRow base e 1 v n b)
  (q:IntKind) (k:Nat) (K:Int) (B:K=(k:Int)) (C:a.eval x = .int q K) (I:n+k<=maxLen) (hbytes:(n+k)*bytes<=140737488355328) (hbase:base<=w.heap.size)
  (h:∀ v' w',w'.ownsRow base e 1 v' (n+k) (b++Az k z)->By base w w'->wpList P ops Q rest (a.put o.dst v') w'):wpList P ops Q (o :: rest) a w:=by
 subst B;obtain⟨i,hi,D,J,r⟩:=info_parts hinfo;have aj:n+k<=9223372036854775807:=(by simp only[maxLen]at I;omega);have U:IntKind.i64.wrap (k:Int)=k:=(by rw[IntKind.wrap_i64];omega);have aD:k*bytes<=140737488355328:=Nat.le_trans (Aa _ (by omega)) hbytes;have V:¬(281474976710656<(k:Int)*(bytes:Int)):=(by rw[<-Int.natCast_mul];omega);have W:¬((k:Int)<0):=(by omega);have hlen:b.length=n:=(by simpa using c.1)
 have key:∃ v' w',(Builtin.append_ #[t,l] o.type #[v,.int q k]).run P w = .ok v' w'/\w'.ownsRow base e 1 v' (n+k) (b++Az k z)/\w.grownBy w' v.ownBlock:=by
  have grown:∀ (old:Nat),old<n+k->∀ (row:Option Nat),
    (w.drew.alloc (.cells (b.toArray++Builtin.zeroCells z.cells k++Builtin.zeroCells z.cells (grownCap w (n+k) old e - (n+k))) e)).ownsRow base e 1
     (.slice (some ⟨w.heap.size,0,none⟩) (n+k) (grownCap w (n+k) old e)) (n+k) (b++Az k z) /\
    w.grownBy (w.drew.alloc (.cells (b.toArray++Builtin.zeroCells z.cells k++Builtin.zeroCells z.cells (grownCap w (n+k) old e - (n+k))) e)) row:=by
   intro old H row;have X:=grownCap_ge w (n+k) old e;have E:grownCap w (n+k) old e<=maxLen:=grownCap_le_maxLen w (n+k) old e I;refine⟨⟨by simp[hlen],.inr ⟨w.heap.size,_,_,rfl,hbase,heap_alloc_new w.drew _,X,E,?_,?_⟩⟩,⟨rfl,rfl,rfl,by simp,fun k d _=>Below.heap_alloc w.drew _ k d⟩⟩
   ·rw[A];simp[size_zeroCells,hlen];omega
   ·rw[A,aVy];simp only[Array.toList_append,AZ];rw[AX (by simp[hlen])];rw[Ak (by simp[hlen])]
  rcases Nat.eq_zero_or_pos k with rfl | d
  ·have L:IntKind.i64.wrap 0=0:=(by rw[IntKind.wrap_i64];omega);refine⟨v,w,?_,by simpa using c,World.grownBy.refl w _⟩;rcases c.2 with⟨rfl,rfl⟩ | ⟨g,cap,cur,rfl,_,_,M,_⟩
   ·simp[Builtin.append_,run_underlying m,run_underlying p,sizeOf,typeInfo,hi,asInt,asIntOf,L]
   ·simp[Builtin.append_,run_underlying m,run_underlying p,sizeOf,typeInfo,hi,asInt,asIntOf,L,M,storeCells]
  ·rcases c.2 with⟨rfl,rfl⟩ | ⟨g,cap,cur,rfl,Y,hg,M,E,aE,N⟩
   ·have C:b = []:=AJ hlen;subst C;have F:=Lib.run_append_nil_zeros (P:=P) w t l o.type e i z q y m p hi D k d (by omega) (by omega) (by rw[r];omega);have f:=grown 0 (by omega) (Value.ownBlock (.slice none 0 0));simp only[Bx,List.nil_append,Array.empty_append]at f ⊢;exact⟨_,_,F,f.1,f.2⟩
   ·by_cases O:n+k<=cap
    ·have R:=run_storeCells_at P g n e (Az k z) 0 cur w hg (by simp;omega) (fun u G=>by rw[AK G];exact T);simp only[Bq]at R;have Z:k≠0:=(by omega);refine⟨.slice (some ⟨g,0,none⟩) (n+k) cap,_,?_,⟨by simp[hlen],.inr ⟨g,cap,_,rfl,Y,setRow_heap w g cur (cur.toList.take n++Az k z++cur.toList.drop (n+(Az k z).length)).toArray e _ hg,O,E,?_,?_⟩⟩,⟨rfl,rfl,rfl,by simp,fun k _ d=>setRow_other w g k _ (fun e=>d (by simp[Value.ownBlock,e]))⟩⟩
     ·simp[Builtin.append_,run_underlying m,run_underlying p,sizeOf,typeInfo,zeroValue,hi,D,J,r,asInt,asIntOf,U,W,Z,V,O,Addr.add_lit,A,aVy,R]
     ·simp;omega
     ·rw[AZ]at N;rw[N];simp only[AZ];rw[AX (by simp[hlen])];rw[Ak (by simp[hlen])]
    ·have holds:∀ j u,b[j]? = some u->w.drew.cell? ((⟨g,0,none⟩:Addr).add j)=some u:=fun j u G=>by simpa using c.cells (g:=g) rfl j u G
     have hf:=run_firstCells_some (P:=P) w.drew i.size n ⟨g,0,none⟩ n cap b (by rw[J];exact c.1) holds;have F:=Lib.run_append_grow_zeros (P:=P) w t l o.type e i z q y m p hi D (some ⟨g,0,none⟩) n cap b hf k d (by omega) (by omega) (by omega) (by rw[r];omega) (by rw[r];exact growslice_fits (by omega) hbytes);have f:=grown cap (by omega) (Value.ownBlock (.slice (some ⟨g,0,none⟩) n cap));exact⟨_,_,F,f.1,f.2⟩
 obtain⟨v',w',ao,h2,h3⟩:=key;refine wpList_plain S fun K B=>?_;unfold Oper.wp execOp;simp only[H,resolve,invoke,builtin,Sem.run_bind,Sem.run_pure,Result.andThen_ok,List.map_toArray,List.map_cons,List.map_nil,hs,C,ao];exact B _ _ (h v' w' h2 (aJd (Ax _ _) h3 c (Aj _) hbase))
theorem aKg:(fZ.info? 5).map (fun i=>(i.zero,i.size,i.bytes))=some (some (.int .u8 0),1,1):=by kernel_rfl
theorem cXd(A:Option Addr)(n c:Nat)(m:List Nat)(most:Int)(a:Nat)(w:Bv)(hs:Src w A n (bys m))(y:A=none->n=0/\c=0)(hn:n<=140737488355328)
  (aj : -9223372036854775808<=most) (ak:most<=9223372036854775807) (hp:a<18446744073709551616) :
  BJ fZ 117 #[.slice A n c,.int .i64 most,.int .u64 a] w fun e w'=>∃ j k,e = .returned (.tuple #[.slice j (kY m most a).length k,.int .u64 (qK n most a)]) /\
   w'.ownsRow w.heap.size 5 1 (.slice j (kY m most a).length k) (kY m most a).length (bys (kY m most a))/\By w.heap.size w w':=by
 have z:m.length=n:=(by have:=hs.1;rwa[aQy]at this);have l:=fQ hs;have HA:=fQ y;have o:=fQ z;clear hs y z;by_cases hg:wJ n most a=true
 ·have HG:=fQ hg;have p:=fQ (show kY m most a=m++Az (256*a) 0 by simp[kY,o.out,hg]);have r:=fQ (show qK n most a=n / 256 by simp[qK,hg]);simp only[wJ,decide_eq_true_eq]at hg;obtain⟨h1,h2⟩:=hg;have C:(n:Int)+256*a<=most:=(by omega);have h4:n+256*a<=4096:=(by omega);have h6:a<=16:=(by omega);clear h2;have h5:(n:Int) % 256=0:=(by omega)
  have fin:∀ (h:Bv) (v:Bw) (i:Array Bw),h.ownsRow w.heap.size 5 1 v (n+256*a) (bys m++Az (256*a) (.int .u8 0))->By w.heap.size w h->i.getD 6 undef=v->i.getD 7 undef = .int .u64 ((n / 256:Nat):Int) ->
    bodyPost fZ Tryz.f117 (fun e w'=>∃ j k,e = .returned (.tuple #[.slice j (kY m most a).length k,.int .u64 (qK n most a)]) /\
     w'.ownsRow w.heap.size 5 1 (.slice j (kY m most a).length k) (kY m most a).length (bys (kY m most a))/\By w.heap.size w w') Exit.ret { tmps:=i,defers:=[] } h:=by
   intro h v i f g s t;refine bodyPost_ret (results_tmp2 rfl _ _ _) rfl ?_;obtain⟨j,k,rfl,_⟩:=fJ f;have B:(kY m most a).length=n+256*a:=(by rw[p.out];simp[o.out]);refine⟨j,k,?_,?_,g⟩
   ·rw[B,r.out];show Ending.returned (.tuple #[i.getD 6 undef,i.getD 7 undef])=_;rw[s,t]
   ·rw[B,p.out,cXh,show bys (Az (256*a) 0)=Az (256*a) (.int .u8 0)from by simp[bys]];exact f
  rcases Int.lt_or_le most 4096 with D | D
  ·go_in;go_wp2_with (at_builtin;refine zQ _ rfl _ (.tmp 9) 31 rfl 5 _ 1 underlying31 aKg rfl rfl A n c _ rfl l.out (aQh _) (by unfold maxLen;omega) (by omega) ?_);rintro v h b d;have f:=fQ b;have g:=fQ d;clear b d;go_wp2_with (at_builtin;refine aXt _ rfl _ (.tmp 34) 31 3 rfl w.heap.size 5 (.int .u8 0) 1 .i64 underlying31 underlying3 aKg rfl rfl _ n (bys m) rfl f.out .i64 (256*a) _ (by omega) rfl (by unfold maxLen;omega) (by omega) g.out.size ?_)
   all_goals
    rintro v' w' b d;have u:=fQ b;have x:=fQ d;clear b d f;go_wp2;refine fin _ _ _ u.out (g.out.trans x.out) rfl ?_;show Value.int .u64 _ = .int .u64 _
    first | rfl | (congr 1;omega)
  ·go_in;go_wp2_with (at_builtin;refine zQ _ rfl _ (.tmp 9) 31 rfl 5 _ 1 underlying31 aKg rfl rfl A n c _ rfl l.out (aQh _) (by unfold maxLen;omega) (by omega) ?_);rintro v h b d;have f:=fQ b;have g:=fQ d;clear b d;go_wp2_with (at_builtin;refine aXt _ rfl _ (.tmp 34) 31 3 rfl w.heap.size 5 (.int .u8 0) 1 .i64 underlying31 underlying3 aKg rfl rfl _ n (bys m) rfl f.out .i64 (256*a) _ (by omega) rfl (by unfold maxLen;omega) (by omega) g.out.size ?_)
   all_goals
    rintro v' w' b d;have u:=fQ b;have x:=fQ d;clear b d f;go_wp2;refine fin _ _ _ u.out (g.out.trans x.out) rfl ?_;show Value.int .u64 _ = .int .u64 _
    first | rfl | (congr 1;omega)
 ·have q:wJ n most a=false:=(by simpa using hg);have p:=fQ (show kY m most a=m by simp[kY,o.out,q]);have r:=fQ (show qK n most a=4294967295 by simp[qK,q])
  have E:n % 256≠0\/((n % 256=0/\16<a)\/(n % 256=0/\a<=16/\min most 4096<(n:Int)+256*a)):=by
   simp[wJ]at q;omega
  clear hg q
  have fin:∀ (h:Bv) (v:Bw) (i:Array Bw),h.ownsRow w.heap.size 5 1 v n (bys m)->By w.heap.size w h->i.getD 6 undef=v->i.getD 7 undef = .int .u64 4294967295 ->
    bodyPost fZ Tryz.f117 (fun e w'=>∃ j k,e = .returned (.tuple #[.slice j (kY m most a).length k,.int .u64 (qK n most a)]) /\
     w'.ownsRow w.heap.size 5 1 (.slice j (kY m most a).length k) (kY m most a).length (bys (kY m most a))/\By w.heap.size w w') Exit.ret { tmps:=i,defers:=[] } h:=by
   intro h v i f g s t;refine bodyPost_ret (results_tmp2 rfl _ _ _) rfl ?_;obtain⟨j,k,rfl,_⟩:=fJ f;refine⟨j,k,?_,?_,g⟩
   ·rw[p.out,r.out,o.out];show Ending.returned (.tuple #[i.getD 6 undef,i.getD 7 undef])=_;rw[s,t];rfl
   ·rw[p.out,o.out];exact f
  rcases E with h1 | ⟨h1,h2⟩ | ⟨h1,h2,C⟩
  ·go_in;go_wp2_with (at_builtin;refine zQ _ rfl _ (.tmp 9) 31 rfl 5 _ 1 underlying31 aKg rfl rfl A n c _ rfl l.out (aQh _) (by unfold maxLen;omega) (by omega) ?_);rintro v h b d;have f:=fQ b;have g:=fQ d;clear b d;go_wp2_with fail
   all_goals first | exact fin _ _ _ f.out g.out rfl rfl | (exfalso;omega) | skip
  ·go_in;go_wp2_with (at_builtin;refine zQ _ rfl _ (.tmp 9) 31 rfl 5 _ 1 underlying31 aKg rfl rfl A n c _ rfl l.out (aQh _) (by unfold maxLen;omega) (by omega) ?_);rintro v h b d;have f:=fQ b;have g:=fQ d;clear b d;go_wp2_with fail
   all_goals first | exact fin _ _ _ f.out g.out rfl rfl | (exfalso;omega) | skip
  ·go_in;go_wp2_with (at_builtin;refine zQ _ rfl _ (.tmp 9) 31 rfl 5 _ 1 underlying31 aKg rfl rfl A n c _ rfl l.out (aQh _) (by unfold maxLen;omega) (by omega) ?_);rintro v h b d;have f:=fQ b;have g:=fQ d;clear b d;go_wp2_with fail
   all_goals first | exact fin _ _ _ f.out g.out rfl rfl | (exfalso;omega) | skip
def fitsB(k:Int)(N:Nat):Bool:=decide (k=126\/(k=127/\N<4294967296))
theorem aQx(k:Int)(N:Nat)(w:Bv):BJ fZ 53 #[.int .i64 k,.int .u64 N] w fun e w'=>e = .returned (.bool (fitsB k N))/\w=w':=by
 by_cases h1:k=126
 ·have c:(k == 126)=true:=(by simp[h1]);have a:=fQ (show fitsB k N=true by simp[fitsB,h1]);clear h1;go_in;go_wp2;go_ret;rw[a.out];exact⟨rfl,rfl⟩
 ·have c:(k == 126)=false:=(by simp[h1]);by_cases h2:k=127
  ·have d:(k == 127)=true:=(by simp[h2]);by_cases b:N<4294967296
   ·have f:decide ((N:Int)<4294967296)=true:=(by simp;omega);have a:=fQ (show fitsB k N=true by simp[fitsB,h2,b]);clear h1 h2 b;go_in;go_wp2;go_ret;rw[a.out];exact⟨rfl,rfl⟩
   ·have f:decide ((N:Int)<4294967296)=false:=(by simp;omega);have a:=fQ (show fitsB k N=false by simp[fitsB,h2,b]);clear h1 h2 b;go_in;go_wp2;go_ret;rw[a.out];exact⟨rfl,rfl⟩
  ·have d:(k == 127)=false:=(by simp[h2]);have a:=fQ (show fitsB k N=false by simp[fitsB,h1,h2]);clear h1 h2;go_in;go_wp2;go_ret;rw[a.out];exact⟨rfl,rfl⟩
def eJk(w0:Bv)(base g n c b:Nat)(m:List Nat)(a N:Nat)(i:Bw)(wr:Bv):Prop:=
 ∃ k:Nat,k<=b/\i = .int .i64 k/\Hid (wr.ownsRow base 5 1 (.slice (some ⟨g,0,none⟩) n c) n (bys (aQu m a N k)))/\Hid (By base w0 wr)
theorem dWe(N j:Nat):(N:Int) / 2 ^ (8*j) % 256=((N / 256 ^ j % 256:Nat):Int):=by
 rw[aKz];simp
theorem dXh(A:Option Addr)(n c addr off N a:Nat)(op k:Int)(t:Bool)(m:List Nat)(w:Bv)(d:acc op=some (k,(a:Int),true,t))(hs:Src w A n (bys m))(hn:n<=140737488355328)
  (ha:addr<=4294967295) (ho:off<=4294967295) (aw:addr+off+a<=n) (u:fitsB k N=true) :
  BJ fZ 115 #[.slice A n c,.int .i64 op,.int .u64 addr,.int .u64 off,.int .u64 N] w fun e w'=>∃ h l,e = .returned (.tuple #[.slice h n l,.int .i64 0])/\w'.ownsRow w.heap.size 5 1 (.slice h n l) n (bys (aQu m (addr+off) N a))/\By w.heap.size w w':=by
 obtain⟨x,y,_,_⟩:=lZ d;have ax:1<=a:=(by omega);have ay:a<=8:=(by omega);have z:=fQ (show fK op = .tuple #[.int .i64 k,.int .i64 a,.bool true,.bool true] by simp[fK,d]);have B:pK n (addr+off) a=true:=(by simp[pK];omega);have g1:decide (4294967295<(addr:Int))=false:=(by simp;omega);have g2:decide (4294967295<(off:Int))=false:=(by simp;omega);have C:=fQ hs;clear d hs x y;go_in;go_wp2_with fail;refine(gX _ _).mono ?_;rintro e o ⟨rfl,rfl⟩;rw[z.out];go_wp2_with fail;refine(aQx _ _ _).mono ?_;rintro e o ⟨rfl,rfl⟩;rw[u];go_wp2_with fail;refine(vK _ n c (addr+off) a _ hn).mono ?_;rintro e o ⟨rfl,rfl⟩;rw[B];go_wp2_with (at_builtin;refine zQ _ rfl _ (.tmp 53) 31 rfl 5 (.int .u8 0) 1 underlying31 aKg rfl rfl A n c (bys m) rfl C.out (aQh _) (by unfold maxLen;omega) (by omega) ?_);rintro v w2 f q;obtain⟨g,D,rfl,az,E,_⟩:=lQ f (by omega);have r:=fQ f;have F:=fQ (Ax w.heap.size w2);have G:=fQ q;clear f q;go_wp2_with fail;go_loopw [17] (fun i wr=>eJk w2 w.heap.size g n D a m (addr+off) N i wr) (fun i _=>a+1 - (intOf i).toNat)
 case atStart=>exact⟨0,by omega,rfl,r,F⟩
 case round=>
  clear r;obtain⟨j,hj,rfl,b,s⟩:=hrel;by_cases H:j<a
  ·have ar:decide ((j:Int)<(a:Int))=true:=(by simpa using H);have au:wr.frozen? ⟨g,addr+off+j,none⟩=false:=b.out.frozenAt _
   obtain⟨v,hcell⟩:∃ v,wr.cell? ⟨g,addr+off+j,none⟩=some v:=by
    have hl:=b.out.1;rw[b.out.cellAt (addr+off+j) (by omega)];exact⟨_,Aq (by omega)⟩
   go_wp2;refine⟨⟨j+1,by omega,by simp,?_,fQ (s.out.setCell (p:=⟨g,addr+off+j,none⟩) E _)⟩,by simp[intOf];omega⟩;refine fQ ?_;rw[aQu,<-bZp,dWe];exact(b.out.stored (addr+off+j) (.int .u8 ((N / 256 ^ j % 256:Nat):Int))).1
  ·obtain rfl:j=a:=(by omega);go_wp2;go_ret2;exact⟨_,_,rfl,b.out,G.out.trans s.out⟩
theorem aWw(A:Option Addr)(n c addr off N:Nat)(op:Int)(m:List Nat)(w:Bv)(hs:Src w A n (bys m))(hn:n<=140737488355328):
  BJ fZ 115 #[.slice A n c,.int .i64 op,.int .u64 addr,.int .u64 off,.int .u64 N] w fun e w'=>∃ o p,e = .returned (.tuple #[.slice o (kV m op addr off N).length p,.int .i64 (kZ n op addr off N)]) /\
   w'.ownsRow w.heap.size 5 1 (.slice o (kV m op addr off N).length p) (kV m op addr off N).length (bys (kV m op addr off N))/\By w.heap.size w w':=by
 have d:m.length=n:=by have:=hs.1;rwa[aQy]at this
 have bad:∀ E:Int,E≠0->kZ n op addr off N=E->∀ (w':Bv) (j:Array Bw),j.getD 10 undef = .slice none 0 0->j.getD 11 undef = .int .i64 E->By w.heap.size w w' ->
   bodyPost fZ Tryz.f115 (fun e w'=>∃ o p,e = .returned (.tuple #[.slice o (kV m op addr off N).length p,.int .i64 (kZ n op addr off N)]) /\
    w'.ownsRow w.heap.size 5 1 (.slice o (kV m op addr off N).length p) (kV m op addr off N).length (bys (kV m op addr off N))/\By w.heap.size w w') Exit.ret { tmps:=j,defers:=[] } w':=by
  intro E s z w' j C e2 D;have q:kV m op addr off N = []:=(by rw[kV,d,z,if_neg s]);refine bodyPost_ret (results_tmp2 (t:=10) (u:=11) rfl _ _ _) rfl ⟨none,0,?_,?_,D⟩
  ·rw[q,z];show Ending.returned (.tuple #[j.getD 10 undef,j.getD 11 undef])=_;rw[C,e2];rfl
  ·rw[q];exact World.ownsRow_nil _ _ _ _
 cases a:acc op with
 | none=>
  have b:=fQ (show kZ n op addr off N=1 by simp[kZ,a]);have g:=fQ (show fK op = .tuple #[.int .i64 0,.int .i64 0,.bool false,.bool false] by simp[fK,a]);clear a hs d;go_in;go_wp2_with fail;refine(gX _ _).mono ?_;rintro e f ⟨rfl,rfl⟩;rw[g.out];go_wp2;exact bad 1 (by decide) b.out _ _ rfl rfl (Ax _ _)
 | some r=>
  obtain⟨k,wd,st,F⟩:=r;obtain⟨v,x,_,_⟩:=lZ a;obtain⟨h,rfl⟩:=Int.eq_ofNat_of_zero_le (show 0<=wd by omega);have g:=fQ (show fK op = .tuple #[.int .i64 k,.int .i64 h,.bool st,.bool true] by simp[fK,a])
  cases st with
  | false=>
   have b:=fQ (show kZ n op addr off N=1 by simp[kZ,a]);clear a hs d;go_in;go_wp2_with fail;refine(gX _ _).mono ?_;rintro e f ⟨rfl,rfl⟩;rw[g.out];go_wp2;exact bad 1 (by decide) b.out _ _ rfl rfl (Ax _ _)
  | true=>
   have y:k=127\/k=126:=(by omega);by_cases i:4294967295<addr\/4294967295<off
   ·have b:=fQ (show kZ n op addr off N=1 by simp[kZ,a,mZ,i]);clear a hs d;by_cases h1:4294967295<addr
    ·have B:decide (4294967295<(addr:Int))=true:=(by simp;omega);clear i y v x;go_in;go_wp2_with fail;refine(gX _ _).mono ?_;rintro e f ⟨rfl,rfl⟩;rw[g.out];go_wp2;exact bad 1 (by decide) b.out _ _ rfl rfl (Ax _ _)
    ·have B:decide (4294967295<(addr:Int))=false:=(by simp;omega);have G:decide (4294967295<(off:Int))=true:=(by simp;omega);clear i y v x;go_in;go_wp2_with fail;refine(gX _ _).mono ?_;rintro e f ⟨rfl,rfl⟩;rw[g.out];go_wp2;exact bad 1 (by decide) b.out _ _ rfl rfl (Ax _ _)
   ·have B:decide (4294967295<(addr:Int))=false:=(by simp;omega);have G:decide (4294967295<(off:Int))=false:=(by simp;omega);have ha:addr<=4294967295:=(by omega);have H:off<=4294967295:=(by omega)
    cases hf:fitsB k N with
    | false=>
     have l:k=127/\4294967295<N:=(by simp[fitsB]at hf;omega);have b:=fQ (show kZ n op addr off N=1 by simp[kZ,a,l]);clear a hs d i y v x l;go_in;go_wp2_with fail;refine(gX _ _).mono ?_;rintro e f ⟨rfl,rfl⟩;rw[g.out];go_wp2_with fail;refine(aQx _ _ _).mono ?_;rintro e f ⟨rfl,rfl⟩;rw[hf];go_wp2;exact bad 1 (by decide) b.out _ _ rfl rfl (Ax _ _)
    | true=>
     have l:¬(k=127/\4294967295<N):=by simp[fitsB]at hf;omega
     cases hi:pK n (addr+off) h with
     | true=>
      have hp:(mZ n h addr off).2=0:=(by simp[mZ,i,hi]);obtain⟨_,I,_,_⟩:=aKe hp;have s:kZ n op addr off N=0:=(by simp[kZ,a,l,hp]);have q:kV m op addr off N=aQu m (addr+off) N h:=(by simp[kV,d,s,dVp,a]);have J:(kV m op addr off N).length=n:=(by rw[q,aQv,d]);rw[J,q,s];exact dXh A n c addr off N h op k F m w a hs hn ha H (by simpa using I) hf
     | false=>
      have b:=fQ (show kZ n op addr off N=35 by simp[kZ,a,l,mZ,i,hi]);have aj:h<=8:=(by omega);clear a hs d i y v x l;go_in;go_wp2_with fail;refine(gX _ _).mono ?_;rintro e f ⟨rfl,rfl⟩;rw[g.out];go_wp2_with fail;refine(aQx _ _ _).mono ?_;rintro e f ⟨rfl,rfl⟩;rw[hf];go_wp2_with fail;refine(vK _ n c (addr+off) h _ hn).mono ?_;rintro e f ⟨rfl,rfl⟩;rw[hi];go_wp2;exact bad 35 (by decide) b.out _ _ rfl rfl (Ax _ _)
end Go.Proofs.YtabibkpfgmolkaaGreatDoor

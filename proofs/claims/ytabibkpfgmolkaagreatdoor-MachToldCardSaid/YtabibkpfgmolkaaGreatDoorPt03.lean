/- Lemmas for the claim, part 3. Conditions: none. -/
import Derived.Test.YtabibkpfgmolkaaGreatDoorPt02
import Derived.Deep.LoopGhost
import Derived.Lib.AppendZerosOnto
set_option maxRecDepth 100000
set_option maxHeartbeats 16000000
set_option linter.unusedVariables false
set_option linter.unusedSimpArgs false
open Go.Lib renaming hid→fQ
open Go.Proofs.Tryz renaming prog→fZ
open Go.Proofs.Tryz
open Go.RowKit
open Nat renaming le_refl→Aj,sub_self→AY,mul_one→Bx,add_zero→Bk,zero_add→Bv
open List renaming getElem?_append_left→Ax,getElem?_eq_getElem→Az,getElem?_append_right→Ak,getElem?_set_self→Aw,getElem?_set_ne→Ay,replicate→AZ,append_assoc→AK,take_append_of_le_length→AV,eq_nil_or_concat→Aa,concat_eq_append→Ab,getElem?_map→Ad,take_of_length_le→Ae,eq_nil_of_length_eq_zero→Bj,map_append→Bq,length_cons→Bz,nil_append→Bw,mem_append→By,length_nil→BJ,mem_of_getElem?→BX,mem_append_left→BZ,length_append→BK,nodup_append→BV,count_set→BY
open Bool renaming true_and→AJ,false_and→AQ,and_true→AX,and_eq_true→BW
open Go.RowKit.Below renaming refl→AW
open Option renaming map_eq_some_iff→Af
open Go.Value renaming ownBlock→Ah
open Array renaming replicate→BQ
open Go renaming World→Ba,Value→Bb
open Go.RowKit renaming Below→Bc
open Go.Value renaming int->fF,slice->fG,bool->fH,pointer->fI
open Go.IntKind renaming i64->fM,u64->fN
open Go.Obj renaming cells->fO
open Go.Ending renaming returned->fP
open Option renaming none->fR,some->fS
open Bool renaming true->fT,false->fU
namespace Go.Proofs.YtabibkpfgmolkaaGreatDoor
variable {st:List Int}{w w':Ba}{D:List Nat}{k t base gS bR bS bK i g:Nat}{v:Bb}{x:Int}
theorem mh(w:Ba)(a b c:Obj):Bc w.heap.size w (((w.alloc a).alloc b).alloc c):=(((AW _ _).alloc (Aj _) _).alloc fz _).alloc fw _
def mE(e:ia)(r:gR)(c:gP)(ok:Bool)(most:Nat)(i o:List Int)(a b:Int):Bool:=
 ok && (decide (c.n<=most) && (decide (c.args.length=i.length) && (decide (c.O.length=o.length) && (decide (a<=(c.to.length:Int)) && (decide ((c.to.length:Int)<=b) &&
  (within r.M c.args && (within r.M c.O && (decide c.O.Nodup && within r.K.length c.to))))))))
theorem fQu{e:ia}{r:gR}{c:gP}{ok:Bool}{most:Nat}{i o:List Int}{a b:Int}
  (j:iV e r.a2 c.op c.n=fR->ok=fU\/most<c.n) (k:∀ x,iV e r.a2 c.op c.n=fS x->ok=fT/\c.n<=most/\x=(i,o)/\a=vQ c.op/\b=sW c.op) :
  codeOk e r c=mE e r c ok most i o a b:=by
 cases hf:iV e r.a2 c.op c.n with
 | none=>
  simp only[codeOk,hf,mE];rcases j hf with h|h
  ·rw[h];rfl
  ·rw[gE fu];cases ok <;> rfl
 | some x=>
  obtain⟨h1,h2,l,m,p⟩:=k x hf;subst l;subst m;subst p;simp only[codeOk,hf,mE,h1,gD h2,AJ];by_cases q1:c.args.length=i.length
  ·by_cases d:c.O.length=o.length
   ·by_cases f:vQ c.op<=(c.to.length:Int)
    ·by_cases g:(c.to.length:Int)<=sW c.op
     ·simp only[gD q1,gD d,gD f,gD g,gD (show _/\_/\_/\_ from⟨q1,d,f,g⟩),AJ]
     ·rw[gE (fun h=>g h.2.2.2),gE g];simp
    ·rw[gE (fun h=>f h.2.2.1),gE f];simp
   ·rw[gE (fun h=>d h.2.1),gE d];simp
  ·rw[gE (fun h=>q1 h.1),gE q1];simp
theorem bJe(e:ia)(r:gR)(c:gP)(ve vr vc:Bb)(w:Ba)(he:iG w ve e)(hr:jn w vr r)(hc:jz w vc c)(ay:e.a3.length=e.E.length):
  Calls fZ 75 #[ve,vr,vc] w fun F w'=>F = fP (fH (codeOk e r c))/\Bc w.heap.size w w':=by
 have az:=he;obtain⟨va,vb,vd,rfl,h1,h2,h3⟩:=he;obtain⟨As,cs,rfl,_⟩:=h1.len;obtain⟨Ag,cg,rfl⟩:=h2.I;obtain⟨Am,cm,rfl,_⟩:=h3;obtain⟨vp,vq,vr,vs,rfl,h4,h5,h6,h7⟩:=hr;obtain⟨Ap,cp,rfl⟩:=h4.I;obtain⟨Aq,cq,rfl⟩:=h5.I;obtain⟨Ar,cr,rfl⟩:=h6.I;obtain⟨Ac,cc,rfl,_⟩:=h7.len;obtain⟨v2,v3,v4,rfl,aA,h8,h9,au⟩:=hc;obtain⟨A2,c2,rfl⟩:=h8.I;obtain⟨A3,c3,rfl⟩:=h9.I;obtain⟨A4,c4,rfl⟩:=au.I;have l7:=h7.kj;have l8:=h8.kj;have l9:=h9.kj;have aI:=au.kj;have S:=fQ (mh w (fO #[fG As e.R.length cs,fF fM e.G,fG Ag e.E.length cg,fG Am e.a3.length cm,fH e.L] 26) (fO #[fG Ap r.a2.a1.length cp,fG Aq r.a2.out.length cq,fF fM r.M,fG Ar r.params.length cr,fG Ac r.K.length cc] 89) (fO #[fF fM c.op,fF fN (c.n:Int),fG A2 c.args.length c2,fG A3 c.O.length c3,fG A4 c.to.length c4] 86));have E1:=fQ ((gO.X (w.alloc (fO #[fG As e.R.length cs,fF fM e.G,fG Ag e.E.length cg,fG Am e.a3.length cm,fH e.L] 26)) (N:=w.heap.size+1) 89 #[fG Ap r.a2.a1.length cp,fG Aq r.a2.out.length cq,fF fM r.M,fG Ar r.params.length cr,fG Ac r.K.length cc] fz).alloc (fO #[fF fM c.op,fF fN (c.n:Int),fG A2 c.args.length c2,fG A3 c.O.length c3,fG A4 c.to.length c4] 86));have E2:=fQ (at3 w (fO #[fG As e.R.length cs,fF fM e.G,fG Ag e.E.length cg,fG Am e.a3.length cm,fH e.L] 26) (fO #[fG Ap r.a2.a1.length cp,fG Aq r.a2.out.length cq,fF fM r.M,fG Ar r.params.length cr,fG Ac r.K.length cc] 89) 86 #[fF fM c.op,fF fN (c.n:Int),fG A2 c.args.length c2,fG A3 c.O.length c3,fG A4 c.to.length c4]);have l:=fQ (h8.ir.C S.out (Aj _));have k:=fQ (h9.ir.C S.out (Aj _));have m:=fQ (au.ir.C S.out (Aj _));have aF:=fQ (az.C S.out (Aj _));have aG:=fQ (show jq _ _ r.a2 from⟨_,_,rfl,h4.C S.out (Aj _),h5.C S.out (Aj _)⟩);have aw:=fQ aA;have aH:=fQ ay;clear h1 h2 h4 h5 h6 h7 h8 h9 au az aA ay;go_in;go_wp2_with fail;simp only[List.append_eq,List.cons_append,Bw]at *;refine(cZw c.op aw.2.1 aw.2.2 e r.a2 _ _ c.n aw.1 _ aF.out aG.out aH.out).mono ?_;rintro F w1 ⟨vi,vo,most,a,b,ok,i,o,rfl,aB,aC,aq,hP,hQ,_,Y⟩;obtain⟨Ai,ci,rfl⟩:=aB.I;obtain⟨Ao,co,rfl⟩:=aC.I;have M:=fQ (fQu hP hQ);have B4:=fQ (S.trans (Y.mono S.out.size));have Z:=Y.alloc Y.size (fO #[fG Ai i.length ci,fG Ao o.length co,fF fN (most:Int),fF fM a,fF fM b] 156);have aD:=fQ (E1.C Y E1.lt);have aE:=fQ (E2.C Y E2.lt);have f:=fQ (E1.C Z E1.lt);have KC:=fQ (E2.C Z E2.lt);have l:=fQ (l.C Z (Aj _));have k:=fQ (k.C Z (Aj _));have m:=fQ (m.C Z (Aj _));have g:=fQ (gO.a4 w1 156 #[fG Ai i.length ci,fG Ao o.length co,fF fN (most:Int),fF fM a,fF fM b])
 have j:=fQ (B4.alloc B4.out.size (fO #[fG Ai i.length ci,fG Ao o.length co,fF fN (most:Int),fF fM a,fF fM b] 156));clear Y Z hP hQ aB aC aq;have k1:=aD.lt;have k2:=aE.lt;obtain⟨p,q,s,t,u⟩:=gZ aD.out;obtain⟨v,x,y,z,B⟩:=gZ aE.out;have s0:=k1;have s1:=k1;have s2:=k1;have s3:=k1;have s4:=k1
 cases ok with
 | false=>
  have C:=fQ (show codeOk e r c=fU by rw[M.out];simp only[mE,AQ]);go_wp2;go_ret;exact⟨by rw[C.out];rfl,j.out⟩
 | true=>
  by_cases D:c.n<=most
  ·by_cases E:c.args.length=i.length
   ·by_cases G:c.O.length=o.length
    ·by_cases I:a<=(c.to.length:Int)
     ·by_cases K:(c.to.length:Int)<=b
      ·cases H:within r.M c.args with
       | true=>
        cases L:within r.M c.O with
        | true=>
         by_cases O:c.O.Nodup
         ·cases ao:within r.K.length c.to with
          | true=>
           have Q:c.n<=most:=fu;have T:((c.args.length:Int) == (i.length:Int))=fT:=fw;have V:((c.O.length:Int) == (o.length:Int))=fT:=fw;have C:=fQ (show codeOk e r c=fT by rw[M.out];simp only[mE,gD D,gD E,gD G,gD I,gD K,H,L,gD O,ao,AX]);have R:=fQ (show within r.M c.args=fT from H);have X:=fQ (show within r.M c.O=fT from L);have ar:=fQ (show decide c.O.Nodup=fT from gD O);have ax:=fQ (show within r.K.length c.to=fT from ao);clear D E G H L O ao;go_wp2_with fail;refine(rK r.M _ c.args _ l.out fu).mono ?_;rintro F J ⟨rfl,d⟩;rw[R.out];have j:=fQ (j.trans (d.mono j.out.size));have f:=fQ (f.C d f.lt);have KC:=fQ (KC.C d KC.lt);have g:=fQ (g.C d g.lt);have l:=fQ (l.C d (Aj _));have k:=fQ (k.C d (Aj _));have m:=fQ (m.C d (Aj _));clear d;clear p q s t u v x y z B s0 s1 s2 s3 s4;obtain⟨p,q,s,t,u⟩:=gZ f.out;obtain⟨v,x,y,z,B⟩:=gZ KC.out;obtain⟨s0,s1,s2,s3,s4⟩:=gZ g.out;go_wp2_with fail;refine(rK r.M _ c.O _ k.out fu).mono ?_;rintro F J ⟨rfl,d⟩;rw[X.out];have j:=fQ (j.trans (d.mono j.out.size));have f:=fQ (f.C d f.lt);have KC:=fQ (KC.C d KC.lt);have g:=fQ (g.C d g.lt);have l:=fQ (l.C d (Aj _));have k:=fQ (k.C d (Aj _));have m:=fQ (m.C d (Aj _));clear d;clear p q s t u v x y z B s0 s1 s2 s3 s4;obtain⟨p,q,s,t,u⟩:=gZ f.out;obtain⟨v,x,y,z,B⟩:=gZ KC.out;obtain⟨s0,s1,s2,s3,s4⟩:=gZ g.out;go_wp2_with fail;refine gu (aJn _ c.O _ k.out fu (fun A n c h=>by injection h with e1 e2 e3;omega)) ?_;rw[ar.out];go_wp2_with fail;refine(rK r.K.length _ c.to _ m.out fu).mono ?_;rintro F J ⟨rfl,d⟩;rw[ax.out];have j:=fQ (j.trans (d.mono j.out.size));have f:=fQ (f.C d f.lt);have KC:=fQ (KC.C d KC.lt);have g:=fQ (g.C d g.lt);clear d;clear p q s t u v x y z B s0 s1 s2 s3 s4;obtain⟨p,q,s,t,u⟩:=gZ f.out;obtain⟨v,x,y,z,B⟩:=gZ KC.out;obtain⟨s0,s1,s2,s3,s4⟩:=gZ g.out;go_wp2;go_ret;exact⟨by rw[C.out];rfl,j.out⟩
          | false=>
           have Q:c.n<=most:=fu;have T:((c.args.length:Int) == (i.length:Int))=fT:=fw;have V:((c.O.length:Int) == (o.length:Int))=fT:=fw;have C:=fQ (show codeOk e r c=fU by rw[M.out];simp only[mE,gD D,gD E,gD G,gD I,gD K,H,L,gD O,ao,AJ,AX]);have R:=fQ (show within r.M c.args=fT from H);have X:=fQ (show within r.M c.O=fT from L);have ar:=fQ (show decide c.O.Nodup=fT from gD O);have ax:=fQ (show within r.K.length c.to=fU from ao);clear D E G H L O ao;go_wp2_with fail;refine(rK r.M _ c.args _ l.out fu).mono ?_;rintro F J ⟨rfl,d⟩;rw[R.out];have j:=fQ (j.trans (d.mono j.out.size));have f:=fQ (f.C d f.lt);have KC:=fQ (KC.C d KC.lt);have g:=fQ (g.C d g.lt);have l:=fQ (l.C d (Aj _));have k:=fQ (k.C d (Aj _));have m:=fQ (m.C d (Aj _));clear d;clear p q s t u v x y z B s0 s1 s2 s3 s4;obtain⟨p,q,s,t,u⟩:=gZ f.out;obtain⟨v,x,y,z,B⟩:=gZ KC.out;obtain⟨s0,s1,s2,s3,s4⟩:=gZ g.out;go_wp2_with fail;refine(rK r.M _ c.O _ k.out fu).mono ?_;rintro F J ⟨rfl,d⟩;rw[X.out];have j:=fQ (j.trans (d.mono j.out.size));have f:=fQ (f.C d f.lt);have KC:=fQ (KC.C d KC.lt);have g:=fQ (g.C d g.lt);have l:=fQ (l.C d (Aj _));have k:=fQ (k.C d (Aj _));have m:=fQ (m.C d (Aj _));clear d;clear p q s t u v x y z B s0 s1 s2 s3 s4;obtain⟨p,q,s,t,u⟩:=gZ f.out;obtain⟨v,x,y,z,B⟩:=gZ KC.out;obtain⟨s0,s1,s2,s3,s4⟩:=gZ g.out;go_wp2_with fail;refine gu (aJn _ c.O _ k.out fu (fun A n c h=>by injection h with e1 e2 e3;omega)) ?_;rw[ar.out];go_wp2_with fail;refine(rK r.K.length _ c.to _ m.out fu).mono ?_;rintro F J ⟨rfl,d⟩;rw[ax.out];have j:=fQ (j.trans (d.mono j.out.size));have f:=fQ (f.C d f.lt);have KC:=fQ (KC.C d KC.lt);have g:=fQ (g.C d g.lt);clear d;clear p q s t u v x y z B s0 s1 s2 s3 s4;obtain⟨p,q,s,t,u⟩:=gZ f.out;obtain⟨v,x,y,z,B⟩:=gZ KC.out;obtain⟨s0,s1,s2,s3,s4⟩:=gZ g.out;go_wp2;go_ret;exact⟨by rw[C.out];rfl,j.out⟩
         ·have Q:c.n<=most:=fu;have T:((c.args.length:Int) == (i.length:Int))=fT:=fw;have V:((c.O.length:Int) == (o.length:Int))=fT:=fw;have C:=fQ (show codeOk e r c=fU by rw[M.out];simp only[mE,gD D,gD E,gD G,gD I,gD K,H,L,gE O,AJ,AQ]);have R:=fQ (show within r.M c.args=fT from H);have X:=fQ (show within r.M c.O=fT from L);have ar:=fQ (show decide c.O.Nodup=fU from gE O);clear D E G H L O;go_wp2_with fail;refine(rK r.M _ c.args _ l.out fu).mono ?_;rintro F J ⟨rfl,d⟩;rw[R.out];have j:=fQ (j.trans (d.mono j.out.size));have f:=fQ (f.C d f.lt);have KC:=fQ (KC.C d KC.lt);have g:=fQ (g.C d g.lt);have l:=fQ (l.C d (Aj _));have k:=fQ (k.C d (Aj _));have m:=fQ (m.C d (Aj _));clear d;clear p q s t u v x y z B s0 s1 s2 s3 s4;obtain⟨p,q,s,t,u⟩:=gZ f.out;obtain⟨v,x,y,z,B⟩:=gZ KC.out;obtain⟨s0,s1,s2,s3,s4⟩:=gZ g.out;go_wp2_with fail;refine(rK r.M _ c.O _ k.out fu).mono ?_;rintro F J ⟨rfl,d⟩;rw[X.out];have j:=fQ (j.trans (d.mono j.out.size));have f:=fQ (f.C d f.lt);have KC:=fQ (KC.C d KC.lt);have g:=fQ (g.C d g.lt);have k:=fQ (k.C d (Aj _));clear d;clear p q s t u v x y z B s0 s1 s2 s3 s4;obtain⟨p,q,s,t,u⟩:=gZ f.out;obtain⟨v,x,y,z,B⟩:=gZ KC.out;obtain⟨s0,s1,s2,s3,s4⟩:=gZ g.out;go_wp2_with fail;refine gu (aJn _ c.O _ k.out fu (fun A n c h=>by injection h with e1 e2 e3;omega)) ?_;rw[ar.out];go_wp2;go_ret;exact⟨by rw[C.out];rfl,j.out⟩
        | false=>
         have Q:c.n<=most:=fu;have T:((c.args.length:Int) == (i.length:Int))=fT:=fw;have V:((c.O.length:Int) == (o.length:Int))=fT:=fw;have C:=fQ (show codeOk e r c=fU by rw[M.out];simp only[mE,gD D,gD E,gD G,gD I,gD K,H,L,AJ,AQ]);have R:=fQ (show within r.M c.args=fT from H);have X:=fQ (show within r.M c.O=fU from L);clear D E G H L;go_wp2_with fail;refine(rK r.M _ c.args _ l.out fu).mono ?_;rintro F J ⟨rfl,d⟩;rw[R.out];have j:=fQ (j.trans (d.mono j.out.size));have f:=fQ (f.C d f.lt);have KC:=fQ (KC.C d KC.lt);have g:=fQ (g.C d g.lt);have l:=fQ (l.C d (Aj _));have k:=fQ (k.C d (Aj _));have m:=fQ (m.C d (Aj _));clear d;clear p q s t u v x y z B s0 s1 s2 s3 s4;obtain⟨p,q,s,t,u⟩:=gZ f.out;obtain⟨v,x,y,z,B⟩:=gZ KC.out;obtain⟨s0,s1,s2,s3,s4⟩:=gZ g.out;go_wp2_with fail;refine(rK r.M _ c.O _ k.out fu).mono ?_;rintro F J ⟨rfl,d⟩;rw[X.out];have j:=fQ (j.trans (d.mono j.out.size));have f:=fQ (f.C d f.lt);have KC:=fQ (KC.C d KC.lt);have g:=fQ (g.C d g.lt);clear d;clear p q s t u v x y z B s0 s1 s2 s3 s4;obtain⟨p,q,s,t,u⟩:=gZ f.out;obtain⟨v,x,y,z,B⟩:=gZ KC.out;obtain⟨s0,s1,s2,s3,s4⟩:=gZ g.out;go_wp2;go_ret;exact⟨by rw[C.out];rfl,j.out⟩
       | false=>
        have Q:c.n<=most:=fu;have T:((c.args.length:Int) == (i.length:Int))=fT:=fw;have V:((c.O.length:Int) == (o.length:Int))=fT:=fw;have C:=fQ (show codeOk e r c=fU by rw[M.out];simp only[mE,gD D,gD E,gD G,gD I,gD K,H,AJ,AQ]);have R:=fQ (show within r.M c.args=fU from H);clear D E G H;go_wp2_with fail;refine(rK r.M _ c.args _ l.out fu).mono ?_;rintro F J ⟨rfl,d⟩;rw[R.out];have j:=fQ (j.trans (d.mono j.out.size));have f:=fQ (f.C d f.lt);have KC:=fQ (KC.C d KC.lt);have g:=fQ (g.C d g.lt);clear d;clear p q s t u v x y z B s0 s1 s2 s3 s4;obtain⟨p,q,s,t,u⟩:=gZ f.out;obtain⟨v,x,y,z,B⟩:=gZ KC.out;obtain⟨s0,s1,s2,s3,s4⟩:=gZ g.out;go_wp2;go_ret;exact⟨by rw[C.out];rfl,j.out⟩
      ·have Q:c.n<=most:=fu;have T:((c.args.length:Int) == (i.length:Int))=fT:=fw;have V:((c.O.length:Int) == (o.length:Int))=fT:=fw;have g5:decide ((c.to.length:Int)<=b)=fU:=(by simpa using K);have C:=fQ (show codeOk e r c=fU by rw[M.out];simp only[mE,gD D,gD E,gD G,gD I,gE K,AJ,AQ]);clear D E G;go_wp2;go_ret;exact⟨by rw[C.out];rfl,j.out⟩
     ·have Q:c.n<=most:=fu;have T:((c.args.length:Int) == (i.length:Int))=fT:=fw;have V:((c.O.length:Int) == (o.length:Int))=fT:=fw;have g4:decide (a<=(c.to.length:Int))=fU:=(by simpa using I);have C:=fQ (show codeOk e r c=fU by rw[M.out];simp only[mE,gD D,gD E,gD G,gE I,AJ,AQ]);clear D E G;go_wp2;go_ret;exact⟨by rw[C.out];rfl,j.out⟩
    ·have Q:c.n<=most:=fu;have T:((c.args.length:Int) == (i.length:Int))=fT:=fw;have V:((c.O.length:Int) == (o.length:Int))=fU:=fw;have C:=fQ (show codeOk e r c=fU by rw[M.out];simp only[mE,gD D,gD E,gE G,AJ,AQ]);clear D E G;go_wp2;go_ret;exact⟨by rw[C.out];rfl,j.out⟩
   ·have Q:c.n<=most:=fu;have T:((c.args.length:Int) == (i.length:Int))=fU:=fw;have C:=fQ (show codeOk e r c=fU by rw[M.out];simp only[mE,gD D,gE E,AJ,AQ]);clear D E;go_wp2;go_ret;exact⟨by rw[C.out];rfl,j.out⟩
  ·have Q:¬c.n<=most:=fu;have C:=fQ (show codeOk e r c=fU by rw[M.out];simp only[mE,gE D,AJ,AQ]);clear D;go_wp2;go_ret;exact⟨by rw[C.out];rfl,j.out⟩
theorem j8(w:Ba)(a b:Obj):Bc w.heap.size w ((w.alloc a).alloc b):=((AW _ _).alloc (Aj _) _).alloc fz _
def cQf(c:gP)(i:Nat)(w:Ba)(e:Ending)(w':Ba):Prop:=∃ v,e = fP v/\IR w' v (ib c i)/\Bc w.heap.size w w'
theorem dZe(r:gR)(m:Bb)(i:Nat)(c:gP)(w:Ba)(B:jn w m r)(hi:r.K[i]? = fS c)(s:c.op=274->0<c.to.length):
  Calls fZ 109 #[m,fF fM (i:Int)] w (cQf c i w):=by
 obtain⟨vp,vq,m,vs,rfl,u,v,z,e⟩:=B;obtain⟨Ap,cp,rfl⟩:=u.I;obtain⟨Aq,cq,rfl⟩:=v.I;obtain⟨Ar,cr,rfl⟩:=z.I;obtain⟨Ac,cc,rfl,_⟩:=e.len;have l7:=e.kj;have aq:i<r.K.length:=(gw hi).1;have ai:(i:Int)<(r.K.length:Int):=fu;obtain⟨A,go,p,q,t,rfl,ar,c0,c1,c2,c3,c4,s0,s1,s2,s3⟩:=e.K hi;obtain⟨pA,pc,rfl⟩:=s1.I;obtain⟨qA,qc,rfl⟩:=s2.I;obtain⟨tA,tc,rfl⟩:=s3.I;have o:=fQ s3.ir;have C:=fQ s;clear u v z e hi s0 s1 s2 s3 s;obtain⟨op,n,args,outs,to⟩:=c;simp only at *;by_cases f:op=276
 ·subst f;have b:=fQ (show ib ⟨276,n,args,outs,to⟩ i = [] by simp[ib]);go_in;go_wp2;go_ret;refine⟨_,rfl,?_,j8 _ _ _⟩;rw[b.out];exact IR.nil _
 by_cases g:op=277
 ·subst g;have b:=fQ (show ib ⟨277,n,args,outs,to⟩ i = [] by simp[ib]);go_in;go_wp2;go_ret;refine⟨_,rfl,?_,j8 _ _ _⟩;rw[b.out];exact IR.nil _
 by_cases h:op=273
 ·subst h;have b:=fQ (show ib ⟨273,n,args,outs,to⟩ i=to by simp[ib]);go_in;go_wp2;go_ret;refine⟨_,rfl,?_,j8 _ _ _⟩;rw[b.out];exact o.C (j8 _ _ _) (Aj _)
 by_cases j:op=275
 ·subst j;have b:=fQ (show ib ⟨275,n,args,outs,to⟩ i=to by simp[ib]);go_in;go_wp2;go_ret;refine⟨_,rfl,?_,j8 _ _ _⟩;rw[b.out];exact o.C (j8 _ _ _) (Aj _)
 by_cases k:op=274
 ·subst k;have D:=C.out rfl;have au:(0:Int)<(to.length:Int):=fu;obtain⟨x,d⟩:∃ x,to[0]? = fS x:=⟨_,Az D⟩;obtain⟨tb,t0,rfl,aw,E⟩:=o.cell d;rw[Bk]at E;have an:tb<w.heap.size+1:=fu;have ao:tb<w.heap.size+1+1:=fu
  have F:=fQ (show to.headD 0=x by cases to with
   | nil=>simp at d
   | cons a l=>simp at d;exact d)
  clear d;have b:=fQ (show ib ⟨274,n,args,outs,to⟩ i = [(i:Int)+1,to.headD 0] by simp[ib]);go_in;go_wp2;go_ret;refine⟨_,rfl,?_,mh _ _ _ _⟩;rw[b.out,F.out];exact IR.two (x:=(i:Int)+1) (y:=x) (gO.X _ _ _ fz)
 have f276:(op == 276)=fU:=(by simpa using f);have f277:(op == 277)=fU:=(by simpa using g);have f273:(op == 273)=fU:=(by simpa using h);have f275:(op == 275)=fU:=(by simpa using j);have f274:(op == 274)=fU:=(by simpa using k);have b:=fQ (show ib ⟨op,n,args,outs,to⟩ i = [(i:Int)+1] by simp[ib,f,g,h,j,k]);clear f g h j k;go_in;go_wp2;go_ret;refine⟨_,rfl,?_,mh _ _ _ _⟩;rw[b.out];exact IR.one (x:=(i:Int)+1) (gO.X _ _ _ fz)
theorem bVk(r:gR)(m:Bb)(i:Nat)(c:gP)(w:Ba)(B:jn w m r)(hi:r.K[i]? = fS c)(s:c.op=274->0<c.to.length):
  Calls fZ 111 #[m,fF fM (i:Int)] w (cQf c i w):=by
 obtain⟨vp,vq,m,vs,rfl,u,v,z,e⟩:=B;obtain⟨Ap,cp,rfl⟩:=u.I;obtain⟨Aq,cq,rfl⟩:=v.I;obtain⟨Ar,cr,rfl⟩:=z.I;obtain⟨Ac,cc,rfl,_⟩:=e.len;have l7:=e.kj;have aq:i<r.K.length:=(gw hi).1;have ai:(i:Int)<(r.K.length:Int):=fu;obtain⟨A,go,p,q,t,rfl,ar,c0,c1,c2,c3,c4,s0,s1,s2,s3⟩:=e.K hi;obtain⟨pA,pc,rfl⟩:=s1.I;obtain⟨qA,qc,rfl⟩:=s2.I;obtain⟨tA,tc,rfl⟩:=s3.I;have o:=fQ s3.ir;have C:=fQ s;clear u v z e hi s0 s1 s2 s3 s;obtain⟨op,n,args,outs,to⟩:=c;simp only at *;by_cases f:op=276
 ·subst f;have b:=fQ (show ib ⟨276,n,args,outs,to⟩ i = [] by simp[ib]);go_in;go_wp2;go_ret;refine⟨_,rfl,?_,j8 _ _ _⟩;rw[b.out];exact IR.nil _
 by_cases g:op=277
 ·subst g;have b:=fQ (show ib ⟨277,n,args,outs,to⟩ i = [] by simp[ib]);go_in;go_wp2;go_ret;refine⟨_,rfl,?_,j8 _ _ _⟩;rw[b.out];exact IR.nil _
 by_cases h:op=273
 ·subst h;have b:=fQ (show ib ⟨273,n,args,outs,to⟩ i=to by simp[ib]);go_in;go_wp2;go_ret;refine⟨_,rfl,?_,j8 _ _ _⟩;rw[b.out];exact o.C (j8 _ _ _) (Aj _)
 by_cases j:op=275
 ·subst j;have b:=fQ (show ib ⟨275,n,args,outs,to⟩ i=to by simp[ib]);go_in;go_wp2;go_ret;refine⟨_,rfl,?_,j8 _ _ _⟩;rw[b.out];exact o.C (j8 _ _ _) (Aj _)
 by_cases k:op=274
 ·subst k;have D:=C.out rfl;have au:(0:Int)<(to.length:Int):=fu;obtain⟨x,d⟩:∃ x,to[0]? = fS x:=⟨_,Az D⟩;obtain⟨tb,t0,rfl,aw,E⟩:=o.cell d;rw[Bk]at E;have an:tb<w.heap.size+1:=fu;have ao:tb<w.heap.size+1+1:=fu
  have F:=fQ (show to.headD 0=x by cases to with
   | nil=>simp at d
   | cons a l=>simp at d;exact d)
  clear d;have b:=fQ (show ib ⟨274,n,args,outs,to⟩ i = [(i:Int)+1,to.headD 0] by simp[ib]);go_in;go_wp2;go_ret;refine⟨_,rfl,?_,mh _ _ _ _⟩;rw[b.out,F.out];exact IR.two (x:=(i:Int)+1) (y:=x) (gO.X _ _ _ fz)
 have f276:(op == 276)=fU:=(by simpa using f);have f277:(op == 277)=fU:=(by simpa using g);have f273:(op == 273)=fU:=(by simpa using h);have f275:(op == 275)=fU:=(by simpa using j);have f274:(op == 274)=fU:=(by simpa using k);have b:=fQ (show ib ⟨op,n,args,outs,to⟩ i = [(i:Int)+1] by simp[ib,f,g,h,j,k]);clear f g h j k;go_in;go_wp2;go_ret;refine⟨_,rfl,?_,mh _ _ _ _⟩;rw[b.out];exact IR.one (x:=(i:Int)+1) (gO.X _ _ _ fz)
theorem cVz(e:ia)(r:gR)(c:gP)(g h:Nat)(ve x vc:Bb)(va i:Array Bb)(w:Ba)(he:iG w (.agg va) e)(j:jn w (.agg i) r)(hc:jz w vc c)(k:e.a3.length=e.E.length)
  (b:gO w g 26 va) (d:gO w h 89 i) :
  Calls fZ 74 #[vc,fI (fS ⟨g,0,fR⟩),fI (fS ⟨h,0,fR⟩)] w fun l w'=>l = fP (fH (!codeOk e r c))/\Bc w.heap.size w w':=by
 have y:=fQ he;have z:=fQ j;have A:=fQ hc;have B:=fQ k;obtain⟨ak,vb,vd,f,h1,h2,C⟩:=he;obtain⟨As,cs,rfl,_⟩:=h1.len;obtain⟨Ag,cg,rfl⟩:=h2.I;obtain⟨Am,cm,rfl,_⟩:=C;obtain⟨vp,vq,x,vs,e2,m,o,p,q⟩:=j;obtain⟨Ap,cp,rfl⟩:=m.I;obtain⟨Aq,cq,rfl⟩:=o.I;obtain⟨Ar,cr,rfl⟩:=p.I;obtain⟨Ac,cc,rfl,_⟩:=q.len;obtain⟨v2,v3,v4,rfl,D,s,t,u⟩:=hc;obtain⟨E,F,rfl⟩:=s.I;obtain⟨G,H,rfl⟩:=t.I;obtain⟨I,J,rfl⟩:=u.I;injection f with f;injection e2 with e2;subst f;subst e2;obtain⟨r0,r1,r2,r3,r4⟩:=gZ d;obtain⟨d0,d1,d2,d3,d4⟩:=gZ b;have al:=d.lt;have an:=b.lt;clear h1 h2 m o p q s t u b d k D;go_in;go_wp2_with fail;have a:=fQ (show Bc w.heap.size w (w.alloc (fO #[fF fM c.op,fF fN (c.n:Int),fG E c.args.length F,fG G c.O.length H,fG I c.to.length J] 86))from(AW _ _).alloc (Aj _) _);refine(bJe e r c _ _ _ _ (y.C a.out (Aj _)) (z.C a.out (Aj _)) (A.C a.out (Aj _)) B.out).mono ?_;rintro l w1 ⟨rfl,v⟩;have K:=fQ (a.trans (v.mono a.out.size));clear v;go_wp2;go_ret;exact⟨rfl,K.out⟩
def edges(r:gR)(i:Nat):List Int:=match r.K[i]? with
 | some c=>if c.op=258 then[]else ib c i
 | none=>[]
theorem bZc{r:gR}{c:gP}(h:r.K[i]? = fS c)(hc:c.op≠258):edges r i=ib c i:=by simp[edges,h,hc]
theorem bZz{r:gR}{c:gP}(h:r.K[i]? = fS c)(hc:c.op=258):edges r i = []:=by simp[edges,h,hc]
def kn(r:gR)(D:List Nat):Prop:=∀ p i,D[p]? = fS i->∀ k:Nat,(k:Int)∈edges r i->k∈D.take p
theorem kn.nil(r:gR):kn r []:=fun p i h=>by simp at h
theorem kn.push{r:gR}(h:kn r D)(b:∀ k:Nat,(k:Int)∈edges r i->k∈D):kn r (D ++ [i]):=by
 intro p j hj k a;by_cases hp:p<D.length
 ·rw[Ax hp]at hj;rw[AV fu];exact h p j hj k a
 ·rw[Ak fu]at hj
  have c:p - D.length=0:=by
   have:=(gw hj).1;simp at this;omega
  rw[c]at hj;simp at hj;subst hj;have d:p=D.length:=fu;rw[d,AV (Aj _),Ae (Aj _)];exact b k a
theorem bYw{p:Nat}(h:k∈D.take p):D.idxOf k<p:=by
 induction D generalizing p with
 | nil=>simp at h
 | cons a D b=>
  cases p with
  | zero=>simp at h
  | succ p=>
   rw[List.take_succ_cons]at h;rw[List.idxOf_cons];by_cases e:a=k
   ·subst e;simp
   ·have c:k∈D.take p:=by
     rcases List.mem_cons.1 h with h|h
     ·exact gH h.symm e
     ·exact h
    have:=b c;have e':(a == k)=fU:=(by simp[e]);rw[e'];simp;exact this
theorem kn.fYj{r:gR}(h:kn r D)(a:∀ i,i<r.K.length->i∈D):j9 r:=by
 refine⟨fun i=>D.idxOf i,fun i c k hi hc b=>?_⟩;have d:=a i (gw hi).1;have e:D.idxOf i<D.length:=List.idxOf_lt_length_iff.2 d;have hg:D[D.idxOf i]? = fS i:=(by rw[Az e];simp);exact bYw (h _ i hg k (by rw[bZc hi hc];exact b))
theorem bJa{r:gR}{S:Nat->Prop}(b:∃ i,S i)(h:∀ i,S i->∃ k:Nat,(k:Int)∈edges r i/\S k):¬j9 r:=by
 rintro⟨rk,d⟩
 have key:∀ m i,rk i=m->S i->False:=by
  intro m
  induction m using Nat.strongRecOn with
  | _ m e=>
   intro i hm hs;obtain⟨k,a,f⟩:=h i hs;unfold edges at a
   split at a
   ·rename_i c hc
    split at a
    ·simp at a
    ·rename_i g;have:=d i c k hc g a;exact e (rk k) fu k rfl f
   ·simp at a
 obtain⟨i,hi⟩:=b;exact key _ i rfl hi
abbrev kG:=List (Nat×List Int)
def jg(e:Nat×List Int):List Int:=(e.1:Int) :: e.2
structure RInv (r:gR) (st:List Int) (stk:kG) (D:List Nat):Prop where
 len:st.length=r.K.length
 done:kn r D
 two:∀ i:Nat,st[i]? = fS 2↔i∈D
 one:∀ i:Nat,st[i]? = fS 1↔i∈stk.map (·.1)
 vals:∀ (i:Nat) v,st[i]? = fS v->v=0\/v=1\/v=2
 nw:(stk.map (·.1)).Nodup
 ent:∀ (j:Nat) e,stk[j]? = fS e->∃ proc,edges r e.1=e.2++proc/\∀ x∈proc,(∃ k:Nat,x=k/\k∈D)\/(∃ e',stk[j+1]? = fS e'/\x=(e'.1:Int))
 lead:∀ (j:Nat) e e',stk[j]? = fS e->stk[j+1]? = fS e'->(e'.1:Int)∈edges r e.1
theorem RInv.lt{r:gR}{stk:kG}(h:RInv r st stk D){e:Nat×List Int}(he:e∈stk):e.1<r.K.length:=by
 have:=(h.one e.1).2 (List.mem_map.2 ⟨e,he,rfl⟩);rw[<-h.len];exact(gw this).1
theorem RInv.small{r:gR}{stk:kG}(h:RInv r st stk D):stk.length<=r.K.length:=by
 have h1:(stk.map (·.1)).length<=(List.range r.K.length).length:=
  List.Nodup.length_le_of_subset h.nw fun x a=>by
   obtain⟨e,he,rfl⟩:=List.mem_map.1 a;exact List.mem_range.2 (h.lt he)
 simpa using h1
theorem RInv.start{r:gR}:RInv r (AZ r.K.length 0) [] [] where
 len:=fz
 done:=kn.nil r
 two i:=⟨fun h=>by
  obtain⟨a,h⟩:=gw h
  simp at h,fun h=>by simp at h⟩
 one i:=⟨fun h=>by
  obtain⟨a,h⟩:=gw h
  simp at h,fun h=>by simp at h⟩
 vals i v h:=by
  obtain⟨a,h⟩:=gw h;simp at h;omega
 nw:=fz
 ent j e h:=by simp at h
 lead j e e' h:=by simp at h
theorem RInv.open{r:gR}{S:kG}(h:RInv r st S D)(f:st[k]? = fS 0)(n:∀ e,S[S.length - 1]? = fS e->(k:Int)∈edges r e.1)
  : RInv r (st.set k 1) (S ++ [(k,edges r k)]) D:=by
 have g:=(gw f).1
 have hn:k ∉ S.map (·.1):=fun o=>by have:=(h.one k).2 o;rw[f]at this;injection this with this;omega
 refine { len:=by simp[h.len],done:=h.done,two:=fun i=>?_,one:=fun i=>?_,vals:=fun i v hv=>?_,nw:=?_,ent:=fun j e he=>?_,lead:=fun j e e' he c=>?_ }
 ·by_cases e:k=i
  ·subst e;rw[Aw g];constructor
   ·intro e;injection e with e;omega
   ·intro hd;have:=(h.two k).2 hd;rw[f]at this;injection this with this;omega
  ·rw[Ay e];exact h.two i
 ·rw[Bq,By];by_cases e:k=i
  ·subst e;rw[Aw g];simp
  ·rw[Ay e,h.one i];constructor
   ·exact .inl
   ·rintro(h|h)
    ·exact h
    ·simp at h;exact gH h.symm e
 ·by_cases e:k=i
  ·subst e;rw[Aw g]at hv;injection hv with hv;omega
  ·rw[Ay e]at hv;exact h.vals i v hv
 ·rw[Bq,BV];refine⟨h.nw,fz,fun a ha b l e=>?_⟩;simp at l;subst l;subst e;exact hn ha
 ·by_cases hj:j<S.length
  ·rw[Ax hj]at he;obtain⟨proc,h1,h2⟩:=h.ent j e he;refine⟨proc,h1,fun x p=>?_⟩;rcases h2 x p with d|⟨e',d,q⟩
   ·exact .inl d
   ·exact .inr ⟨e',by rw[Ax (gw d).1];exact d,q⟩
  ·rw[Ak fu]at he
   have s:j - S.length=0:=by
    have:=(gw he).1;simp at this;omega
   rw[s]at he;simp at he;subst he;exact⟨[],fz,fz⟩
 ·by_cases hj:j+1<S.length
  ·rw[Ax fu]at he;rw[Ax hj]at c;exact h.lead j e e' he c
  ·have m:j+1=S.length:=by
    have:=(gw c).1;simp at this;omega
   rw[Ax fu]at he;rw[Ak fu,m,AY]at c;simp at c;subst c;exact n e (by rw[<-m];simpa using he)
theorem RInv.a6{r:gR}{S:kG}{rest:List Int}(h:RInv r st (S ++ [(t,rest ++ [(k:Int)])]) D)(l:st[k]? = fS 0)
  : RInv r (st.set k 1) (S ++ [(t,rest)] ++ [(k,edges r k)]) D:=by
 have m:(k:Int)∈edges r t:=by
  have d:(S ++ [(t,rest ++ [(k:Int)])])[S.length]? = fS (t,rest ++ [(k:Int)]):=fz;obtain⟨proc,h1,h2⟩:=h.ent _ _ d;rw[h1];simp
 have b:=h.open l (fun e he=>by
  have:(S ++ [(t,rest ++ [(k:Int)])]).length - 1=S.length:=fz;rw[this]at he;simp at he;subst he
  exact m)
 refine { len:=b.len,done:=b.done,two:=b.two,one:=fun i=>?_,vals:=b.vals,nw:=?_,ent:=fun j e he=>?_,lead:=fun j e e' he n=>?_ }
 ·rw[b.one i];simp
 ·have:=b.nw;simpa using this
 ·by_cases hj:j<S.length
  ·have d:(S ++ [(t,rest ++ [(k:Int)])] ++ [(k,edges r k)])[j]? = fS e:=by
    rw[AK,Ax hj];rw[AK,Ax hj]at he;exact he
   obtain⟨proc,h1,h2⟩:=b.ent j e d;refine⟨proc,h1,fun x c=>?_⟩;rcases h2 x c with a|⟨e',a,f⟩
   ·exact .inl a
   ·right
    by_cases o:j+1<S.length
    ·refine⟨e',?_,f⟩;rw[AK,Ax o]at a ⊢;exact a
    ·have g:j+1=S.length:=fu;rw[AK,Ak fu,g,AY]at a;simp at a;subst a;refine⟨(t,rest),?_,f⟩;rw[AK,Ak fu,g,AY];simp
  ·by_cases p:j=S.length
   ·subst p;rw[AK,Ak (Aj _),AY]at he;simp at he;subst he;have d:(S ++ [(t,rest ++ [(k:Int)])])[S.length]? = fS (t,rest ++ [(k:Int)]):=fz;obtain⟨proc,h1,h2⟩:=h.ent _ _ d;refine⟨(k:Int) :: proc,by rw[h1];simp,fun x c=>?_⟩;rcases List.mem_cons.1 c with c|c
    ·right
     refine⟨(k,edges r k),?_,c⟩;rw[AK,Ak fu];simp
    ·rcases h2 x c with a|⟨e',a,f⟩
     ·exact .inl a
     ·simp at a
   ·have s:j=S.length+1:=by
     have:=(gw he).1;simp at this;omega
    subst s;rw[AK,Ak fu]at he;simp at he;subst he;exact⟨[],fz,fz⟩
 ·have m1:(S ++ [(t,rest)] ++ [(k,edges r k)]).map (·.1)=(S ++ [(t,rest ++ [(k:Int)])] ++ [(k,edges r k)]).map (·.1):=by simp
  have q:∀ (j:Nat) e,(S ++ [(t,rest)] ++ [(k,edges r k)])[j]? = fS e->∃ e2,(S ++ [(t,rest ++ [(k:Int)])] ++ [(k,edges r k)])[j]? = fS e2/\e2.1=e.1:=by
   intro j e he
   have h1:((S ++ [(t,rest)] ++ [(k,edges r k)]).map (·.1))[j]? = fS e.1:=by rw[Ad,he];rfl
   rw[m1,Ad,Af]at h1;exact h1
  obtain⟨e2,u,v⟩:=q j e he;obtain⟨w,y,z⟩:=q (j+1) e' n;have:=b.lead j e2 w u y
  rwa[v,z]at this
theorem RInv.skip{r:gR}{S:kG}{rest:List Int}(h:RInv r st (S ++ [(t,rest ++ [(k:Int)])]) D)(g:st[k]? = fS 2)
  : RInv r st (S ++ [(t,rest)]) D:=by
 refine { len:=h.len,done:=h.done,two:=h.two,one:=fun i=>?_,vals:=h.vals,nw:=?_,ent:=fun j e he=>?_,lead:=fun j e e' he l=>?_ }
 ·rw[h.one i];simp
 ·have:=h.nw;simpa using this
 ·by_cases hj:j<S.length
  ·have c:(S ++ [(t,rest ++ [(k:Int)])])[j]? = fS e:=by
    rw[Ax hj]at he ⊢;exact he
   obtain⟨proc,h1,h2⟩:=h.ent j e c;refine⟨proc,h1,fun x b=>?_⟩;rcases h2 x b with a|⟨e',a,d⟩
   ·exact .inl a
   ·right
    by_cases m:j+1<S.length
    ·refine⟨e',?_,d⟩;rw[Ax m]at a ⊢;exact a
    ·have f:j+1=S.length:=fu;rw[Ak fu,f,AY]at a;simp at a;subst a;refine⟨(t,rest),?_,d⟩;rw[Ak fu,f,AY];simp
  ·have n:j=S.length:=by
    have:=(gw he).1;simp at this;omega
   subst n;rw[Ak (Aj _),AY]at he;simp at he;subst he;have c:(S ++ [(t,rest ++ [(k:Int)])])[S.length]? = fS (t,rest ++ [(k:Int)]):=fz;obtain⟨proc,h1,h2⟩:=h.ent _ _ c;refine⟨(k:Int) :: proc,by rw[h1];simp,fun x b=>?_⟩;rcases List.mem_cons.1 b with b|b
   ·exact .inl ⟨k,b,(h.two k).1 g⟩
   ·rcases h2 x b with a|⟨e',a,d⟩
    ·exact .inl a
    ·simp at a
 ·have m1:(S ++ [(t,rest)]).map (·.1)=(S ++ [(t,rest ++ [(k:Int)])]).map (·.1):=by simp
  have q:∀ (j:Nat) e,(S ++ [(t,rest)])[j]? = fS e->∃ e2,(S ++ [(t,rest ++ [(k:Int)])])[j]? = fS e2/\e2.1=e.1:=by
   intro j e he
   have h1:((S ++ [(t,rest)]).map (·.1))[j]? = fS e.1:=by rw[Ad,he];rfl
   rw[m1,Ad,Af]at h1;exact h1
  obtain⟨e2,o,p⟩:=q j e he;obtain⟨s,u,v⟩:=q (j+1) e' l;have:=h.lead j e2 s o u
  rwa[p,v]at this
theorem RInv.pop{r:gR}{S:kG}(h:RInv r st (S ++ [(t,[])]) D):RInv r (st.set t 2) S (D ++ [t]):=by
 have n:st[t]? = fS 1:=(h.one t).2 fz;have c:=(gw n).1;have d:=h.nw;rw[Bq,BV]at d
 have o:t ∉ S.map (·.1):=fun f=>d.2.2 t f t fz rfl
 have hdone:kn r (D ++ [t]):=by
  refine h.done.push fun k l=>?_;have g:(S ++ [(t,([]:List Int))])[S.length]? = fS (t,[]):=fz;obtain⟨proc,h1,h2⟩:=h.ent _ _ g;simp only[Bw]at h1;rw[h1]at l;rcases h2 _ l with⟨k',e,hd⟩|⟨e',a,_⟩
  ·have:k=k':=fu;rw[this];exact hd
  ·simp at a
 refine { len:=by simp[h.len],done:=hdone,two:=fun i=>?_,one:=fun i=>?_,vals:=fun i v hv=>?_,nw:=d.1,ent:=fun j e he=>?_,lead:=fun j e e' he m=>?_ }
 ·rw[By];by_cases e:t=i
  ·subst e;rw[Aw c];simp
  ·rw[Ay e,h.two i];constructor
   ·exact .inl
   ·rintro(h|h)
    ·exact h
    ·simp at h;exact gH h.symm e
 ·by_cases e:t=i
  ·subst e;rw[Aw c];constructor
   ·intro e;injection e with e;omega
   ·intro f;exact gH f o
  ·rw[Ay e,h.one i,Bq,By];constructor
   ·rintro(h|h)
    ·exact h
    ·simp at h;exact gH h.symm e
   ·exact .inl
 ·by_cases e:t=i
  ·subst e;rw[Aw c]at hv;injection hv with hv;omega
  ·rw[Ay e]at hv;exact h.vals i v hv
 ·have hj:j<S.length:=(gw he).1;have g:(S ++ [(t,([]:List Int))])[j]? = fS e:=(by rw[Ax hj];exact he);obtain⟨proc,h1,h2⟩:=h.ent j e g;refine⟨proc,h1,fun x p=>?_⟩;rcases h2 x p with⟨k,a,b⟩|⟨e',a,b⟩
  ·exact .inl ⟨k,a,by simp[b]⟩
  ·by_cases q:j+1<S.length
   ·rw[Ax q]at a;exact .inr ⟨e',a,b⟩
   ·have s:j+1=S.length:=fu;rw[Ak fu,s,AY]at a;simp at a;subst a;exact .inl ⟨t,b,fz⟩
 ·refine h.lead j e e' ?_ ?_
  ·rw[Ax (gw he).1];exact he
  ·rw[Ax (gw m).1];exact m
theorem RInv.fYk{r:gR}{S:kG}{rest:List Int}(h:RInv r st (S ++ [(t,rest ++ [(k:Int)])]) D)(g:st[k]? = fS 1):¬j9 r:=by
 have l:=(h.one k).1 g;obtain⟨p,hp⟩:=List.mem_iff_getElem?.1 l;rw[Ad,Af]at hp;obtain⟨a,b,c⟩:=hp;refine bJa (S:=fun i=>∃ j e,p<=j/\(S ++ [(t,rest ++ [(k:Int)])])[j]? = fS e/\e.1=i) ⟨k,p,a,Aj _,b,c⟩ ?_;rintro i ⟨j,e,hj,he,rfl⟩;by_cases d:j+1<(S ++ [(t,rest ++ [(k:Int)])]).length
 ·have f:=Az d;exact⟨_,h.lead j e _ he f,j+1,_,fu,f,rfl⟩
 ·have m:j=S.length:=by
   have:=(gw he).1;simp at this d;omega
  subst m;obtain⟨proc,h1,h2⟩:=h.ent _ _ he;simp at he;subst he;exact⟨k,by rw[h1];simp,p,a,Aj _,b,c⟩
theorem uY(w:Ba)(b o:Nat)(u:Bb):w.grownBy (w.setCell ⟨b,o,fR⟩ u) (fS b):=
 ⟨rfl,rfl,rfl,fz,fun k _ a=>heap_setCell_other w ⟨b,o,fR⟩ k u (fun e=>a (by simp[e]))⟩
theorem r7(h:Bc w.heap.size w w'):w.grownBy w' fR:=⟨h.os,h.tape,h.output,h.size,fun k a _=>h.block k a⟩
theorem fY{e:TypeId}{cs:Array Bb}(h:gO w g e cs)(o:Nat)(u:Bb):gO (w.setCell ⟨g,o,fR⟩ u) g e (cs.setIfInBounds o u):=heap_setCell_same w g o cs e u h
theorem r8:(fZ.info? 23).map (fun i=>(i.zero,i.size,i.bytes))=fS (fS (fG fR 0 0),1,24):=fx
def EB(w:Ba)(gS:Nat)(v:Bb)(l:List Int):Prop:=∃ g c cur,v = fG (fS ⟨g,0,fR⟩) l.length c/\gO w g 3 cur/\g≠gS/\l.length<=c/\cur.toList.take l.length=ix l
theorem EB.of{l:List Int}(h:w.ownsRow base 3 1 v l.length (ix l))(hg:gS<base)(hl:0<l.length):EB w gS v l:=by
 rcases h.2 with⟨h1,h2⟩|⟨g,cap,cur,h1,h2,a,b,_,_,c⟩
 ·omega
 ·exact⟨g,cap,cur,h1,a,fu,b,by simpa using c⟩
theorem EB.grown{w w':Ba}{gS:Nat}{v:Bb}{l:List Int}{r:Option Nat}(h:EB w gS v l)(hg:w.grownBy w' r)(d:∀ g cs,gO w g 3 cs->g≠gS->r≠fS g):EB w' gS v l:=by
 obtain⟨g,c,cur,e,a,b,f⟩:=h;exact⟨g,c,cur,e,a.grown hg (d g cur a b),b,f⟩
structure RM (w:Ba) (base bR bS bK gS:Nat) (rv:Array Bb) (st:List Int) (stk:kG) (v:Bb) (vs:List Bb):Prop where
 r:gO w bR 89 rv
 s:gO w bS 23 #[fG (fS ⟨gS,0,fR⟩) st.length st.length]
 t:gO w gS 3 (ix st).toArray
 k:gO w bK 114 #[v]
 own:w.ownsRow base 23 1 v stk.length vs
 ent:∀ (j:Nat) u e,vs[j]? = fS u->stk[j]? = fS e->EB w gS u (jg e)
 lR:base<=bR
 lS:base<=bS
 lT:base<=gS
 lK:base<=bK
 o1:v.ownBlock≠fS bS
theorem pK{a b:Nat}{s t:TypeId}{c d:Array Bb}(h:gO w a s c)(k:gO w b t d)(f:s≠t):a≠b:=by
 intro e;subst e;have:=h.symm.trans k;injection this with this;injection this with _ h2;exact f h2
theorem iZ{n b size:Nat}{s t:TypeId}{a:List Bb}{d:Array Bb}(h:w.ownsRow base s size v n a)(k:gO w b t d)(c:s≠t):v.ownBlock≠fS b:=by
 rcases h.2 with⟨h1,_⟩|⟨g,cap,cur,h1,h2,f,_⟩
 ·subst h1;simp[Ah]
 ·subst h1;intro e;injection e with e;subst e;exact pK (show gO w g s cur from f) k c rfl
theorem RM.nx{rv:Array Bb}{stk:kG}{vs:List Bb}(h:RM w base bR bS bK gS rv st stk v vs):base<=w.heap.size:=Nat.le_of_lt (Nat.lt_of_le_of_lt h.lR h.r.lt)
theorem RM.grown{w w':Ba}{base bR bS bK gS:Nat}{rv:Array Bb}{st:List Int}{stk:kG}{v:Bb}{vs:List Bb}(h:RM w base bR bS bK gS rv st stk v vs)(a:Bc w.heap.size w w'):RM w' base bR bS bK gS rv st stk v vs:=
  { h with r:=h.r.C a h.r.lt,s:=h.s.C a h.s.lt,t:=h.t.C a h.t.lt,k:=h.k.C a h.k.lt,own:=iJ h.own a (Aj _),
           ent:=fun j u e h1 h2=>(h.ent j u e h1 h2).grown (r7 a) (fun _ _ _ _=>fz) }
theorem RM.put{rv:Array Bb}{stk:kG}{vs:List Bb}(h:RM w base bR bS bK gS rv st stk v vs)(i:Nat)(x:Int):RM (w.setCell ⟨gS,i,fR⟩ (fF fM x)) base bR bS bK gS rv (st.set i x) stk v vs:=by
 have hn:=iZ h.own h.t fy;refine { h with r:=h.r.grown (uY w gS i _) ?_,s:=?_,t:=?_,k:=h.k.grown (uY w gS i _) ?_,own:=iW h.own hn,ent:=fun j u e h1 h2=>(h.ent j u e h1 h2).grown (uY w gS i _) (fun g cs _ hg e=>hg (by injection e with e;exact e.symm)) }
 ·intro e;injection e with e;exact pK h.t h.r fy e
 ·rw[List.length_set];exact h.s.grown (uY w gS i _) (fun e=>by injection e with e;exact pK h.t h.s fy e)
 ·have:=fY h.t i (fF fM x)
  have a:(ix st).toArray.setIfInBounds i (fF fM x)=(ix (st.set i x)).toArray:=by
   simp[ix,List.map_set]
  rwa[a]at this
 ·intro e;injection e with e;exact pK h.t h.k fy e
theorem RM.push{w':Ba}{rv:Array Bb}{stk:kG}{v' u:Bb}{vs:List Bb}{e:Nat×List Int}(h:RM w base bR bS bK gS rv st stk v vs)(n:EB w gS u (jg e))
  (hg:w.grownBy w' v.ownBlock) (i:w'.ownsRow base 23 1 v' (stk.length+1) (vs ++ [u])) (hv:v'.ownBlock=v.ownBlock\/v'.ownBlock=fS w.heap.size) :
  RM (w'.setCell ⟨bK,0,fR⟩ v') base bR bS bK gS rv st (stk ++ [e]) v' (vs ++ [u]):=by
 have hn:∀ b t c,gO w b t c->t≠23->v.ownBlock≠fS b:=fun b t c d f=>iZ h.own d (fun e=>f e.symm);have l:=h.r.grown hg (hn _ _ _ h.r fy);have hs:=h.s.grown hg h.o1;have f:=h.t.grown hg (hn _ _ _ h.t fy);have a:=h.k.grown hg (hn _ _ _ h.k fy);have hlen:vs.length=stk.length:=(by have:=h.own.1;simpa using this);have gk:=uY w' bK 0 v';refine { r:=l.grown gk ?_,s:=hs.grown gk ?_,t:=f.grown gk ?_,k:=?_,own:=?_,ent:=fun j x y h1 h2=>?_,lR:=h.lR,lS:=h.lS,lT:=h.lT,lK:=h.lK,o1:=?_ }
 ·intro e;injection e with e;exact pK a l fy e
 ·intro e;injection e with e;exact pK a hs fy e
 ·intro e;injection e with e;exact pK a f fy e
 ·have:=fY a 0 v'
  simpa using this
 ·have:v'.ownBlock≠fS bK:=iZ i a fy;have h2:=iW (k:=0) (u:=v') i this
  simpa using h2
 ·have key:∀ x y,EB w gS x y->EB (w'.setCell ⟨bK,0,fR⟩ v') gS x y:=by
   intro x y o;refine(o.grown hg (fun g cs d _=>hn _ _ _ d fy)).grown gk fun g cs d _ e=>?_;injection e with e;exact pK a d fy e
  by_cases hj:j<stk.length
  ·rw[Ax fu]at h1;rw[Ax hj]at h2;exact key _ _ (h.ent j x y h1 h2)
  ·rw[Ak fu]at h1 h2
   have m:j - stk.length=0:=by
    have:=(gw h2).1;simp at this;omega
   rw[hlen,m]at h1;rw[m]at h2;simp at h1 h2;subst h1;subst h2;exact key _ _ n
 ·rcases hv with e|e
  ·rw[e];exact h.o1
  ·rw[e];intro e';injection e' with e';have:=h.s.lt;omega
def fQq(r:gR)(base bR bS bK gS:Nat)(rv:Array Bb)(st:List Int)(stk:kG)(i:Nat)(w:Ba)(a:Ending)(w':Ba):Prop:=
 (st[i]? = fS 0/\∃ v' vs',a = fP (fH fU)/\RM w' base bR bS bK gS rv (st.set i 1) (stk ++ [(i,edges r i)]) v' vs'/\Bc base w w') \/
 (∃ x,st[i]? = fS x/\x≠0/\a = fP (fH (x == 1))/\w=w')
theorem bKl(h:gO w gS 3 (ix st).toArray)(a:st[i]? = fS x):w.cell? ⟨gS,i,fR⟩=fS (fF fM x):=by
 rw[h.cell];simp[ix,a]
theorem aYh(r:gR)(base bR bS bK gS:Nat)(rv:Array Bb)(st:List Int)(stk:kG)(v:Bb)(vs:List Bb)(i:Nat)(c:gP)(w0 w:Ba)(h:RM w base bR bS bK gS rv st stk v vs)
  (hr:jn w0 (.agg rv) r) (ax:w0.heap.size<=base) (J:Bc base w0 w) (hi:r.K[i]? = fS c) (hl:st.length=r.K.length) (al:c.op=274->0<c.to.length) (l:(ib c i).length<=66) (ay:stk.length<=4096) (aO:r.K.length<=4096) :
  Calls fZ 108 #[fF fM (i:Int),fI (fS ⟨bS,0,fR⟩),fI (fS ⟨bR,0,fR⟩),fI (fS ⟨bK,0,fR⟩)] w (fQq r base bR bS bK gS rv st stk i w):=by
 have aP:i<r.K.length:=(gw hi).1;obtain⟨x,K⟩:∃ x,st[i]? = fS x:=⟨_,Az fu⟩;have cS:=h.s.cell 0;simp at cS;have cT:=bKl h.t K;have L:=fQ K;have a:=fQ h;obtain⟨n,hn⟩:=fX st.length;rw[hn]at cS;have az:(i:Int)<(n:Int):=fu;clear h K hn hl;by_cases E:x=0
 ·subst E;have HR:=fQ hr;obtain⟨vp,vq,vr,aR,M,h4,h5,h6,O⟩:=hr;injection M with M;subst M;obtain⟨Ap,cp,rfl⟩:=h4.I;obtain⟨Aq,cq,rfl⟩:=h5.I;obtain⟨Ar,cr,rfl⟩:=h6.I;obtain⟨Ac,cc,rfl,_⟩:=O.len;obtain⟨B,go,p,q,t,rfl,aS,c0,_⟩:=O.K hi;have c0:=(J.cell (p:=⟨B,go+i*5,fR⟩) (by show B<base;omega)).trans c0;obtain⟨r0,r1,r2,r3,r4⟩:=gZ a.r;have aA:(i:Int)<(r.K.length:Int):=fu;have n1:bR≠gS:=fun e=>pK a.t a.r fy e.symm;have n2:gS≠bR:=fun e=>n1 e.symm;have n3:bS≠gS:=fun e=>pK a.t a.s fy e.symm;have n4:gS≠bS:=fun e=>n3 e.symm;have n5:B≠gS:=(by have:=a.lT;omega);have n6:gS≠B:=fun e=>n5 e.symm;have s1:=a.r.lt;have s3:=a.t.lt;have s4:=a.k.lt;have s5:B<w.heap.size:=(by have:=a.nx;omega);have z0:=ik a.t i;have n7:bK≠gS:=fun e=>pK a.t a.k fy e.symm;have n8:gS≠bK:=fun e=>n7 e.symm;have P:=fQ (a.put i 1);obtain⟨Av,cv,rfl,_⟩:=fJ a.own;have Q:=a.k.cell 0;simp at Q;obtain⟨m,F⟩:=fX stk.length;rw[F]at Q;have aT:m<=4096:=fu;have b:=fQ F;have R:=iZ a.own a.k (show(23:Nat)≠114 by decide);rw[F]at R;have NK:=fQ R;clear F ay R;have aB:=fQ J;have aC:=fQ al;have aD:=fQ l;have S:=fQ hi;clear h4 h5 h6 O J al l hi;by_cases y:c.op=258
  ·have aE:(c.op != 258)=fU:=(by simp[y]);have T:=fQ (bZz S.out y);clear y;go_in;have P2:=fQ (P.grown ((AW _ _).alloc (Aj _) (fO #[fF fM (i:Int)] 3)));have d:=fQ (P2.grown ((AW _ _).alloc (Aj _) (fO #[fG (fS ⟨w.heap.size,0,fR⟩) 1 1] 23)));have B3:=fQ (show Bc base w _ from(((AW base w).setCell (p:=⟨gS,i,fR⟩) a.lT (fF fM 1)).alloc (by simp;exact a.nx) (fO #[fF fM (i:Int)] 3)).alloc (by simp;have:=a.nx;omega) (fO #[fG (fS ⟨w.heap.size,0,fR⟩) 1 1] 23))
   have U:=fQ (show EB (((w.setCell ⟨gS,i,fR⟩ (fF fM 1)).alloc (fO #[fF fM (i:Int)] 3)).alloc (fO #[fG (fS ⟨w.heap.size,0,fR⟩) 1 1] 23)) gS (fG (fS ⟨w.heap.size,0,fR⟩) 1 1) (jg (i,edges r i)) by
    rw[T.out]
    exact⟨w.heap.size,1,#[fF fM (i:Int)],rfl,(gO.X (w.setCell ⟨gS,i,fR⟩ (fF fM 1)) _ _ fz).alloc _,fu,by simp[jg],rfl⟩)
   go_wp2_with (at_builtin;refine nQ _ rfl (.tmp 29) (.tmp 31) 114 rfl base 23 (fG fR 0 0) 1 24 underlying114 r8 rfl fu (.slice Av m cv) m vs rfl (by rw[<-b.out];exact d.own) (fS ⟨w.heap.size+1,0,fR⟩) 1 1 [fG (fS ⟨w.heap.size,0,fR⟩) 1 1] rfl (gO.kE (cs:=#[fG (fS ⟨w.heap.size,0,fR⟩) 1 1]) (gO.X _ _ _ fz) rfl) (by intro u f;obtain rfl:=List.mem_singleton.1 f;rfl) (by unfold maxLen;omega) fu (by have:=d.nx;exact this) ?_);rintro v1 w1 h1 h2 C _;obtain⟨V,c1,W,_⟩:=fJ h1;subst W;have g:=d.k.grown h2 NK.out;have X:=g.cell 0;simp at X;have kz:=ik g 0;have kl:=g.lt;have f:=U;have hp:=d.push (e:=(i,edges r i)) f.out (by rw[b.out]at *;exact h2) (by rw[b.out];exact h1) (by rw[b.out];simpa using C);have Y:=fQ hp;have D:=oQ B3.out h2 (by have:=d.nx;exact this) (fun k Z=>(d.own.lt k (by rw[b.out];exact Z)).1);have ak:=fQ (D.setCell (p:=⟨bK,0,fR⟩) d.lK (fG V (m+1) c1));clear h1 h2 C g hp D f;go_wp2;go_ret;exact .inl ⟨L.out,_,_,rfl,Y.out,ak.out⟩
  ·have aE:(c.op != 258)=fT:=(by simp[y]);have T:=fQ (bZc S.out y);clear y;go_in;have P2:=fQ (P.grown ((AW _ _).alloc (Aj _) (fO #[fF fM (i:Int)] 3)));have B2:=fQ (show Bc base w _ from((AW base w).setCell (p:=⟨gS,i,fR⟩) a.lT (fF fM 1)).alloc (by simp;exact a.nx) (fO #[fF fM (i:Int)] 3));have L2:=fQ (gO.X (w.setCell ⟨gS,i,fR⟩ (fF fM 1)) (N:=w.heap.size) 3 #[fF fM (i:Int)] fz);have aF:=fQ (HR.C (aB.trans B2.out) ax);have D0:=fQ (show Bc w.heap.size (w.setCell ⟨gS,i,fR⟩ (fF fM 1)) ((w.setCell ⟨gS,i,fR⟩ (fF fM 1)).alloc (fO #[fF fM (i:Int)] 3))from(AW _ _).alloc fz _);go_wp2_with fail;refine(dZe r _ i c _ aF.out S.out aC.out).mono ?_;rintro en w2 ⟨vn,rfl,an,G⟩;obtain⟨An,cn,rfl⟩:=an.I;obtain⟨A',c',e',ao⟩:=an;injection e' with e1 e2 e3;subst e1;subst e3;have aq:=fQ ao;have L3:=fQ (L2.C G L2.lt);have D2:=fQ (D0.trans (G.mono fz));have aG:w.heap.size<=w2.heap.size:=(by have:=G.size;simp at this;omega);have aH:=aD.out;obtain⟨j,l⟩:=fX ((ib c i).length);rw[l]at aH;rw[l]at aq ⊢;have aI:=fQ l;clear G ao l;go_wp2_with (at_builtin;refine qv _ rfl (.tmp 24) (.tmp 27) 23 rfl w.heap.size 3 (fF fM 0) 8 underlying23 qB rfl (.slice (fS ⟨w.heap.size,0,fR⟩) 1 1) 1 [.int fM (i:Int)] rfl (gO.own (n:=1) (cs:=#[fF fM (i:Int)]) L3.out (Aj _) rfl (by unfold maxLen;omega)) An j cn (ix (ib c i)) rfl aq.out (dYy _) (by unfold maxLen;omega) fu aG ?_);rintro v3 H I ar;obtain⟨z,A,aJ,_⟩:=fJ I;subst aJ;have D3:=fQ (D2.trans ar);have d:=fQ (P.grown (by simpa using D3.out));have au:Bc base w H:=((AW base w).setCell (p:=⟨gS,i,fR⟩) a.lT (fF fM 1)).trans (D3.mono a.nx)
   have PE:=fQ (show EB H gS (fG z (1+j) A) (jg (i,edges r i)) by
    rw[T.out];have e:(1+j)=(jg (i,ib c i)).length:=(by simp[jg,aI.out];omega);rw[e];rw[e]at I
    exact EB.of I a.t.lt (by simp[jg]))
   have aK:=D3.out.size;simp at aK;have aL:=d.nx;have aw:=d.k.cell 0;simp at aw;rw[b.out]at aw;have aM:=fQ au;have o:=fQ (d.grown ((AW _ _).alloc (Aj _) (fO #[fG z (1+j) A] 23)));have B4:=fQ (aM.alloc aL (fO #[fG z (1+j) A] 23));have U:=fQ (PE.grown (World.grownBy_alloc H (fO #[fG z (1+j) A] 23) fR) (fun _ _ _ _=>fz));clear I ar au Q;go_wp2_with (at_builtin;refine nQ _ rfl (.tmp 29) (.tmp 31) 114 rfl base 23 (fG fR 0 0) 1 24 underlying114 r8 rfl fu (.slice Av m cv) m vs rfl (by rw[<-b.out];exact o.own) (fS ⟨H.heap.size,0,fR⟩) 1 1 [fG z (1+j) A] rfl (gO.kE (cs:=#[fG z (1+j) A]) (gO.X _ _ _ fz) rfl) (by intro u f;obtain rfl:=List.mem_singleton.1 f;rfl) (by unfold maxLen;omega) fu (by have:=o.nx;exact this) ?_);rintro v1 w1 h1 h2 C _;obtain⟨V,c1,W,_⟩:=fJ h1;subst W;have g:=o.k.grown h2 NK.out;have X:=g.cell 0;simp at X;have kz:=ik g 0;have kl:=g.lt;have f:=U;have hp:=o.push (e:=(i,edges r i)) f.out (by rw[b.out]at *;exact h2) (by rw[b.out];exact h1) (by rw[b.out];simpa using C);have Y:=fQ hp;have D:=oQ B4.out h2 (by have:=o.nx;exact this) (fun k Z=>(o.own.lt k (by rw[b.out];exact Z)).1);have ak:=fQ (D.setCell (p:=⟨bK,0,fR⟩) o.lK (fG V (m+1) c1));clear h1 h2 C g hp D f;go_wp2;go_ret;exact .inl ⟨L.out,_,_,rfl,Y.out,ak.out⟩
 ·have aU:(x == 0)=fU:=(by simpa using E);have aN:=fQ E;clear E;go_in;go_wp2;go_ret;exact .inr ⟨x,L.out,aN.out,rfl,rfl⟩
theorem RM.top{rv:Array Bb}{S:kG}{e:Nat×List Int}{vs:List Bb}(h:RM w base bR bS bK gS rv st (S ++ [e]) v vs):
  ∃ gk d g c,v = fG (fS ⟨gk,0,fR⟩) (S.length+1) d/\S.length+1<=d/\gk<w.heap.size/\base<=gk/\gk≠bS/\gk≠bR/\gk≠gS/\gk≠bK/\g≠gk/\w.cell? ⟨gk,S.length,fR⟩=fS (fG (fS ⟨g,0,fR⟩) (e.2.length+1) c)/\w.frozen? ⟨gk,S.length,fR⟩=fU/\e.2.length+1<=c /\
   Src w (fS ⟨g,0,fR⟩) (e.2.length+1) (ix (jg e))/\vs.length=S.length+1/\g<w.heap.size/\g≠gS/\g≠bS/\g≠bK/\g≠bR:=by
 have a:=h.own;have n:(S ++ [e]).length=S.length+1:=fz;rw[n]at a;obtain⟨gk,d,rfl,o,p,hc⟩:=lZ a fu;have hlen:vs.length=S.length+1:=(by have:=a.1;simpa using this);have hcell:=a.cellAt S.length fu;have i:vs[S.length]? = fS (vs[S.length]' fu):=Az fu;obtain⟨g,c,cur,j,b,q,l,m⟩:=h.ent S.length _ e i fz
 have f:∃ c',Src w (fS ⟨g,0,fR⟩) (jg e).length (ix (jg e)):=⟨c,by
  have u:(jg e).length<=cur.size:=by
   have:=gG List.length m;rw[List.length_take,dYx]at this;simp at this;omega
  have:=b.src (jg e).length u
  rwa[m]at this⟩
 obtain⟨_,f⟩:=f;have x:(jg e).length=e.2.length+1:=(by simp[jg]);rw[x]at j l f;have q1:=iZ a h.r fy;have y:=iZ a h.t fy;have z:=iZ a h.k fy;have A:=h.o1;have B:=iZ a b fy;rw[i,j]at hcell;exact⟨gk,d,g,c,rfl,hc,o,p,fun e=>A (by rw[e];rfl),fun e=>q1 (by rw[e];rfl),fun e=>y (by rw[e];rfl),fun e=>z (by rw[e];rfl),fun e=>B (by rw[<-e];rfl),hcell,a.frozenAt _,l,f,hlen,b.lt,q,pK b h.s fy,pK b h.k fy,pK b h.r fy⟩
theorem RM.drew{w:Ba}{base bR bS bK gS:Nat}{rv:Array Bb}{st:List Int}{stk:kG}{v:Bb}{vs:List Bb}(h:RM w base bR bS bK gS rv st stk v vs):RM w.drew base bR bS bK gS rv st stk v vs:=
 { r:=h.r,s:=h.s,t:=h.t,k:=h.k,own:=h.own,ent:=fun j u e h1 h2=>h.ent j u e h1 h2,lR:=h.lR,lS:=h.lS,lT:=h.lT,lK:=h.lK,o1:=h.o1 }
theorem RM.pop{gk a:Nat}{rv:Array Bb}{S:kG}{e:Nat×List Int}{vs:List Bb}(h:RM w base bR bS bK gS rv st (S ++ [e]) (fG (fS ⟨gk,0,fR⟩) (S.length+1) a) vs):
  RM (w.setCell ⟨bK,0,fR⟩ (fG (fS ⟨gk,0,fR⟩) S.length a)) base bR bS bK gS rv st S (fG (fS ⟨gk,0,fR⟩) S.length a) (vs.take S.length):=by
 have b:=uY w bK 0 (fG (fS ⟨gk,0,fR⟩) S.length a);have f:(S ++ [e]).length=S.length+1:=fz;have c:=h.own;rw[f]at c;have hq:(Value.slice (fS ⟨gk,0,fR⟩) S.length a).ownBlock≠fS bK:=(by have:=iZ c h.k fy;exact this);have d:=dYz (k:=S.length) c fu fz;rw[Bx]at d;refine { h with r:=h.r.grown b ?_,s:=h.s.grown b ?_,t:=h.t.grown b ?_,k:=?_,own:=iW d hq,ent:=fun j x y h1 h2=>?_,o1:=h.o1 }
 ·intro e;injection e with e;exact pK h.k h.r fy e
 ·intro e;injection e with e;exact pK h.k h.s fy e
 ·intro e;injection e with e;exact pK h.k h.t fy e
 ·have:=fY h.k 0 (fG (fS ⟨gk,0,fR⟩) S.length a)
  simpa using this
 ·have hj:j<S.length:=(gw h2).1;rw[List.getElem?_take,gz hj]at h1;refine(h.ent j x y h1 (by rw[Ax hj];exact h2)).grown b fun g cs i _ e=>?_;injection e with e;exact pK h.k i fy e
theorem RM.shrink{gk m g c:Nat}{rest:List Int}{rv:Array Bb}{S:kG}{vs:List Bb}(h:RM w base bR bS bK gS rv st (S ++ [(t,rest ++ [x])]) (fG (fS ⟨gk,0,fR⟩) (S.length+1) m) vs)
  (hcell:w.cell? ⟨gk,S.length,fR⟩=fS (fG (fS ⟨g,0,fR⟩) ((rest ++ [x]).length+1) c)) :
  RM (w.setCell ⟨gk,S.length,fR⟩ (fG (fS ⟨g,0,fR⟩) (rest.length+1) c)) base bR bS bK gS rv st (S ++ [(t,rest)]) (fG (fS ⟨gk,0,fR⟩) (S.length+1) m) (vs.set S.length (fG (fS ⟨g,0,fR⟩) (rest.length+1) c)):=by
 have n:∀ e:Nat×List Int,(S ++ [e]).length=S.length+1:=fun e=>by simp
 have a:=h.own;rw[n]at a;obtain⟨q,b⟩:=a.stored S.length (fG (fS ⟨g,0,fR⟩) (rest.length+1) c);have hlen:vs.length=S.length+1:=(by have:=a.1;simpa using this);have n1:=iZ a h.r fy;have n2:=iZ a h.t fy;have v:=iZ a h.k fy;refine { h with r:=h.r.grown b n1,s:=h.s.grown b h.o1,t:=h.t.grown b n2,k:=h.k.grown b v,own:=by rw[n];exact q,ent:=fun j y e h1 h2=>?_ };have o:∀ u l,EB w gS u l->EB (w.setCell ⟨gk,S.length,fR⟩ (fG (fS ⟨g,0,fR⟩) (rest.length+1) c)) gS u l:=fun u l f=>f.grown b (fun z cs A _=>iZ a A fy);by_cases hj:j<S.length
 ·rw[Ay fu]at h1;rw[Ax hj]at h2;exact o _ _ (h.ent j y e h1 (by rw[Ax hj];exact h2))
 ·have B:j=S.length:=by
   have:=(gw h2).1;simp at this;omega
  subst B;rw[Aw fu]at h1;simp at h1 h2;subst h1;subst h2;have f:vs[S.length]? = fS (vs[S.length]' fu):=Az fu;have p:=h.ent S.length _ (t,rest ++ [x]) f fz;have i:=a.cellAt S.length fu;rw[hcell,f]at i;injection i with i;rw[<-i]at p;obtain⟨z,c',cur,C,e2,D,E,F⟩:=p;injection C with d a2 G;injection d with d;injection d with d;subst d;subst G;refine o _ _ ⟨g,c,cur,by simp[jg],e2,D,by simp[jg]at E ⊢;omega,?_⟩;have:=gG (List.take (rest.length+1)) F;rw[List.take_take,bVc]at this;have q1:min (rest.length+1) (jg (t,rest ++ [x])).length=(jg (t,rest)).length:=(by simp[jg]);have H:(jg (t,rest ++ [x])).take (rest.length+1)=jg (t,rest):=(by simp[jg]);rw[q1,H]at this;exact this
def lz(st:List Int)(stk:kG):Nat:=70*st.count 0+(stk.map fun e=>e.2.length+1).sum
theorem dXm{y:Int}(h:st[k]? = fS x)(a:x≠0)(b:y≠0):(st.set k y).count 0=st.count 0:=by
 obtain⟨c,e⟩:=gw h;rw[BY c,e];simp[a,b]
theorem cZj{y:Int}(h:st[k]? = fS 0)(a:y≠0):(st.set k y).count 0+1=st.count 0:=by
 obtain⟨b,e⟩:=gw h;have hp:0<st.count 0:=List.count_pos_iff.2 (BX h);rw[BY b,e];simp[a];omega
theorem dXn{S:kG}(h:st[t]? = fS 1):lz (st.set t 2) S<lz st (S ++ [(t,[])]):=by
 unfold lz;rw[dXm h fy fy];simp
theorem cJz{S:kG}{rest:List Int}:lz st (S ++ [(t,rest)])<lz st (S ++ [(t,rest ++ [x])]):=by
 unfold lz;simp
theorem bYx{S:kG}{rest l:List Int}(h:st[k]? = fS 0)(hl:l.length<=66):lz (st.set k 1) (S ++ [(t,rest)] ++ [(k,l)])<lz st (S ++ [(t,rest ++ [x])]):=by
 unfold lz;have:=cZj (y:=1) h fy;simp;omega
theorem aYb(z:Bb)(k:Nat):Builtin.zeroCells #[z] k=(AZ k z).toArray:=by
 apply Array.ext';simp only[Builtin.zeroCells,List.size_toArray,Bz,BJ,Bv,Bx,Nat.mod_one];apply List.ext_getElem?;intro i;by_cases h:i<k
 ·simp[h]
 ·simp[h]
theorem aZh{P:Program}{ops:Array Oper}{rest:List Oper}{o:Oper}{a:Act}{Q:Exit->Act->Ba->Prop}(w:Ba)(S:o.guard=fR)(s x:Operand)(t l:TypeId)
  (H:o.op = .call { callee:=.builtin .append,args:=#[s,x],argTypes:=#[t,l] })
  (base:Nat) (e:TypeId) (z:Bb) (bytes:Nat) (y:IntKind) (m:P.underlying t=fS (.slice e)) (p:P.underlying l=fS (.int y)) (hinfo:(P.info? e).map (fun i=>(i.zero,i.size,i.bytes))=fS (fS z,1,bytes)) (A:z.cells=#[z]) (T:z.oneCell'=fT)
  (v:Bb) (n:Nat) (b:List Bb) (hs:a.eval s=v) (c:w.ownsRow base e 1 v n b)
  (q:IntKind) (k:Nat) (K:Int) (B:K=(k:Int)) (C:a.eval x = fF q K) (I:n+k<=maxLen) (hbytes:(n+k)*bytes<=140737488355328) (hbase:base<=w.heap.size)
  (h:∀ v' w',w'.ownsRow base e 1 v' (n+k) (b++AZ k z)->Bc base w w'->wpList P ops Q rest (a.put o.dst v') w'):wpList P ops Q (o :: rest) a w:=by
 subst B;obtain⟨i,hi,D,J,r⟩:=info_parts hinfo;have aj:n+k<=9223372036854775807:=(by simp only[maxLen]at I;omega);have U:IntKind.i64.wrap (k:Int)=k:=(by rw[IntKind.wrap_i64];omega);have aD:k*bytes<=140737488355328:=Nat.le_trans (Nat.mul_le_mul_right _ fu) hbytes;have V:¬(281474976710656<(k:Int)*(bytes:Int)):=(by rw[<-Int.natCast_mul];omega);have W:¬((k:Int)<0):=fu;have hlen:b.length=n:=(by simpa using c.1)
 have key:∃ v' w',(Builtin.append_ #[t,l] o.type #[v,fF q k]).run P w = .ok v' w'/\w'.ownsRow base e 1 v' (n+k) (b++AZ k z)/\w.grownBy w' v.ownBlock:=by
  have grown:∀ (old:Nat),old<n+k->∀ (row:Option Nat),
    (w.drew.alloc (fO (b.toArray++Builtin.zeroCells z.cells k++Builtin.zeroCells z.cells (grownCap w (n+k) old e - (n+k))) e)).ownsRow base e 1
     (fG (fS ⟨w.heap.size,0,fR⟩) (n+k) (grownCap w (n+k) old e)) (n+k) (b++AZ k z) /\
    w.grownBy (w.drew.alloc (fO (b.toArray++Builtin.zeroCells z.cells k++Builtin.zeroCells z.cells (grownCap w (n+k) old e - (n+k))) e)) row:=by
   intro old H row;have X:=grownCap_ge w (n+k) old e;have E:grownCap w (n+k) old e<=maxLen:=grownCap_le_maxLen w (n+k) old e I;refine⟨⟨by simp[hlen],.inr ⟨w.heap.size,_,_,rfl,hbase,heap_alloc_new w.drew _,X,E,?_,?_⟩⟩,⟨rfl,rfl,rfl,fz,fun k d _=>Below.heap_alloc w.drew _ k d⟩⟩
   ·rw[A];simp[size_zeroCells,hlen];omega
   ·rw[A,aYb];simp only[Array.toList_append,Bx];rw[AV (by simp[hlen])];rw[Ae (by simp[hlen])]
  rcases Nat.eq_zero_or_pos k with rfl|d
  ·have L:IntKind.i64.wrap 0=0:=(by rw[IntKind.wrap_i64];omega);refine⟨v,w,?_,by simpa using c,World.grownBy.refl w _⟩;rcases c.2 with⟨rfl,rfl⟩|⟨g,cap,cur,rfl,_,_,M,_⟩
   ·simp[Builtin.append_,run_underlying m,run_underlying p,sizeOf,typeInfo,hi,asInt,asIntOf,L]
   ·simp[Builtin.append_,run_underlying m,run_underlying p,sizeOf,typeInfo,hi,asInt,asIntOf,L,M,storeCells]
  ·rcases c.2 with⟨rfl,rfl⟩|⟨g,cap,cur,rfl,Y,hg,M,E,aE,N⟩
   ·have C:b = []:=Bj hlen;subst C;have F:=Lib.run_append_nil_zeros (P:=P) w t l o.type e i z q y m p hi D k d fu fu (by rw[r];omega);have f:=grown 0 fu (Ah (fG fR 0 0));simp only[Bv,Bw,Array.empty_append]at f ⊢;exact⟨_,_,F,f.1,f.2⟩
   ·by_cases O:n+k<=cap
    ·have R:=run_storeCells_at P g n e (AZ k z) 0 cur w hg fw (fun u G=>by rw[List.eq_of_mem_replicate G];exact T);simp only[Bk]at R;have Z:k≠0:=fu;refine⟨fG (fS ⟨g,0,fR⟩) (n+k) cap,_,?_,⟨by simp[hlen],.inr ⟨g,cap,_,rfl,Y,setRow_heap w g cur (cur.toList.take n++AZ k z++cur.toList.drop (n+(AZ k z).length)).toArray e _ hg,O,E,?_,?_⟩⟩,⟨rfl,rfl,rfl,fz,fun k _ d=>setRow_other w g k _ (fun e=>d (by simp[Ah,e]))⟩⟩
     ·simp[Builtin.append_,run_underlying m,run_underlying p,sizeOf,typeInfo,zeroValue,hi,D,J,r,asInt,asIntOf,U,W,Z,V,O,Addr.add_lit,A,aYb,R]
     ·simp;omega
     ·rw[Bx]at N;rw[N];simp only[Bx];rw[AV (by simp[hlen])];rw[Ae (by simp[hlen])]
    ·have holds:∀ j u,b[j]? = fS u->w.drew.cell? ((⟨g,0,fR⟩:Addr).add j)=fS u:=fun j u G=>by simpa using c.cells (g:=g) rfl j u G
     have hf:=run_firstCells_some (P:=P) w.drew i.size n ⟨g,0,fR⟩ n cap b (by rw[J];exact c.1) holds;have F:=Lib.run_append_grow_zeros (P:=P) w t l o.type e i z q y m p hi D (fS ⟨g,0,fR⟩) n cap b hf k d fu fu fu (by rw[r];omega) (by rw[r];exact growslice_fits fu hbytes);have f:=grown cap fu (Ah (fG (fS ⟨g,0,fR⟩) n cap));exact⟨_,_,F,f.1,f.2⟩
 obtain⟨v',w',ao,h2,h3⟩:=key;refine wpList_plain S fun K B=>?_;unfold Oper.wp execOp;simp only[H,resolve,invoke,builtin,Sem.run_bind,Sem.run_pure,Result.andThen_ok,List.map_toArray,List.map_cons,List.map_nil,hs,C,ao];exact B _ _ (h v' w' h2 (aKa (AW _ _) h3 c (Aj _) hbase))
structure jG (r:gR):Prop where
 n1:1<=r.K.length
 n2:r.K.length<=4096
 to:∀ (i:Nat) c,r.K[i]? = fS c->(∀ x∈ib c i,0<=x/\x<r.K.length)/\(c.op=274->0<c.to.length)/\(ib c i).length<=66
theorem jG.edges{r:gR}(h:jG r){i:Nat}{x:Int}(a:x∈edges r i):∃ k:Nat,x=k/\k<r.K.length:=by
 unfold _root_.Go.Proofs.YtabibkpfgmolkaaGreatDoor.edges at a
 split at a
 ·rename_i c hc
  split at a
  ·simp at a
  ·have:=(h.to i c hc).1 x a;exact⟨x.toNat,fu,fu⟩
 ·simp at a
theorem aKv{r:gR}(h:jG r)(i:Nat):(edges r i).length<=66:=by
 unfold _root_.Go.Proofs.YtabibkpfgmolkaaGreatDoor.edges
 split
 ·rename_i c hc
  split
  ·simp
  ·exact(h.to i c hc).2.2
 ·simp
theorem RInv.rest{r:gR}{stk:kG}(h:RInv r st stk D){e:Nat×List Int}(he:e∈stk)(a:x∈e.2):x∈edges r e.1:=by
 obtain⟨j,hj⟩:=List.mem_iff_getElem?.1 he;obtain⟨proc,h1,_⟩:=h.ent j e hj;rw[h1];simp[a]
def dZw(r:gR)(w:Ba)(a:Ending)(w':Ba):Prop:=∃ b:Bool,a = fP (fH b)/\(b=fT↔¬j9 r)/\Bc w.heap.size w w'
def qD(r:gR)(base bR bS bK gS:Nat)(rv:Array Bb)(w0:Ba)(k:Nat)(stk:kG)(st:List Int)(D:List Nat)(v:Bb)(vs:List Bb)(wr:Ba):Prop:=
 RM wr base bR bS bK gS rv st stk v vs/\RInv r st stk D/\(∀ j,j<k->j∈D)/\Bc base w0 wr
theorem dZx(r:gR)(vr:Bb)(w:Ba)(hr:jn w vr r)(hf:jG r):Calls fZ 77 #[vr] w (dZw r w):=by
 have HR:=fQ hr;have f:=fQ hf;have aQ:=hf.n2;obtain⟨vp,vq,vr,vs,rfl,h4,h5,h6,h7⟩:=hr;obtain⟨Ap,cp,rfl⟩:=h4.I;obtain⟨Aq,cq,rfl⟩:=h5.I;obtain⟨Ar,cr,rfl⟩:=h6.I;obtain⟨Ac,cc,rfl,_⟩:=h7.len;obtain⟨n,hn⟩:=fX r.K.length;rw[hn]at HR aQ ⊢;have d:=fQ hn;have aR:=nL (P:=fZ) 23 3 (fF fM 0) 8 underlying23 qB rfl n fu fu;clear h4 h5 h6 h7 hf hn;go_in;go_wp2;clear aR;obtain⟨rv,ay⟩:∃ rv:Array Bb,rv=#[fG Ap r.a2.a1.length cp,fG Aq r.a2.out.length cq,fF fM r.M,fG Ar r.params.length cr,fG Ac n cc]:=⟨_,rfl⟩;have aX:=fQ ay;have aM:Bc w.heap.size w ((((w.alloc (fO rv 89)).alloc (fO (BQ n (fF fM 0)) 3)).alloc (fO #[fG (fS ⟨w.heap.size+1,0,fR⟩) n n] 23)).alloc (fO #[fG fR 0 0] 114)):=mD _ _ _ _ _
 have aN:qD r w.heap.size w.heap.size (w.heap.size+1+1) (w.heap.size+1+1+1) (w.heap.size+1) rv w 0 [] (AZ n 0) [] (fG fR 0 0) [] ((((w.alloc (fO rv 89)).alloc (fO (BQ n (fF fM 0)) 3)).alloc (fO #[fG (fS ⟨w.heap.size+1,0,fR⟩) n n] 23)).alloc (fO #[fG fR 0 0] 114)):=by
  refine⟨{ r:=?_,s:=?_,t:=?_,k:=?_,own:=World.ownsRow_nil _ _ _ _,ent:=?_,lR:=by omega,lS:=by omega,lT:=by omega,lK:=by omega,o1:=by simp[Ah] },?_,(fun j hj=>fu),aM⟩
  ·exact(((gO.a4 w _ _).alloc _).alloc _).alloc _
  ·rw[List.length_replicate];exact(at3 _ _ _ _ _).alloc _
  ·have e:(ix (AZ n 0)).toArray=BQ n (fF fM 0):=(by simp[ix]);rw[e];exact((gO.X _ _ _ fz).alloc _).alloc _
  ·exact at4 _ _ _ _ _ _
  ·intro j u e h;simp at h
  ·have:=RInv.start (r:=r)
   rwa[d.out]at this
 have aO:=fQ aN;clear aN aM;rw[<-ay]at HR ⊢;clear ay;go_loopw [18] (fun i wr=>∃ (k:Nat) (st:List Int) (D:List Nat) (v:Bb) (vs:List Bb),k<=n/\i = fF fM k/\Hid (qD r w.heap.size w.heap.size (w.heap.size+1+1) (w.heap.size+1+1+1) (w.heap.size+1) rv w k [] st D v vs wr)) (fun i _=>n - (intOf i).toNat)
 case atStart=>exact⟨0,_,_,_,_,fu,rfl,aO⟩
 case round=>
  clear aO;obtain⟨wo,rfl⟩:∃ wo:Ba,wo=wr:=⟨_,rfl⟩;obtain⟨k,st,D,v,vs,hk,rfl,IM⟩:=hrel;by_cases ax:k<n
  ·have az:decide ((k:Int)<n)=fT:=fw;have aS:(k:Int)<n:=fu;obtain⟨c,hc⟩:∃ c,r.K[k]? = fS c:=⟨_,Az (by rw[d.out];exact ax)⟩;have HC:=fQ hc;clear hc;go_wp2_with fail;refine(aYh r _ _ _ _ _ rv st [] v vs k c w _ IM.out.1 HR.out (Aj _) IM.out.2.2.2 HC.out IM.out.2.1.len (f.to k c HC.out).2.1 (f.to k c HC.out).2.2 fz (by rw[d.out];omega)).mono ?_;rintro en w1 (⟨K,v',aT,rfl,C,hb⟩|⟨x,o,aP,rfl,rfl⟩)
   ·have L:=fQ (show qD r w.heap.size w.heap.size (w.heap.size+1+1) (w.heap.size+1+1+1) (w.heap.size+1) rv w k [(k,edges r k)] (st.set k 1) D v' aT w1 from⟨by simpa using C,by simpa using IM.out.2.1.open K (fun e he=>by simp at he),IM.out.2.2.1,IM.out.2.2.2.trans hb⟩);have M:=fQ (show(st.set k 1)[k]? ≠ fS 0 by rw[Aw (by rw[IM.out.2.1.len,d.out];exact ax)];simp);obtain⟨aA,N⟩:=fX (st.set k 1);obtain⟨O,ae⟩:∃ O:kG,[(k,edges r k)]=O:=⟨_,rfl⟩;rw[N,ae]at L;rw[N]at M;clear C hb K N ae IM;go_wp2;go_loopg [] (lz aA O) (fun g wi=>∃ (stk:kG) (st:List Int) (D:List Nat) (v:Bb) (vs:List Bb),Hid (qD r w.heap.size w.heap.size (w.heap.size+1+1) (w.heap.size+1+1+1) (w.heap.size+1) rv w k stk st D v vs wi)/\Hid (st[k]? ≠ fS 0)/\Hid (lz st stk=g))
    case atStart=>exact⟨_,_,_,_,_,L,M,fQ rfl⟩
    case round=>
     clear L M;obtain⟨stk,st,D,v,vs,a,E,Q⟩:=hrel;have R:=a.out.2.1.len;rw[d.out]at R;have F:=fQ R;clear R;rcases Aa stk with rfl|⟨S,e,rfl⟩
     ·obtain⟨Av,G,hv,_⟩:=fJ a.out.1.own;subst hv;have H:=a.out.1.k.cell 0;simp at H;go_wp2;refine⟨⟨k+1,st,D,_,vs,fu,fz,fQ ⟨a.out.1,a.out.2.1,fun j hj=>?_,a.out.2.2.2⟩⟩,fB⟩;by_cases aB:j=k
      ·subst aB;obtain⟨x,o⟩:∃ x,st[j]? = fS x:=⟨_,Az (by rw[F.out];exact ax)⟩;rcases a.out.2.1.vals j x o with h|h|h
       ·subst h;exact gH o E.out
       ·subst h;have:=(a.out.2.1.one j).1 o;simp at this
       ·subst h;exact(a.out.2.1.two j).1 o
      ·exact a.out.2.2.1 j fu
     ·rw[Ab]at *;obtain⟨t,rest⟩:=e;obtain⟨gk,G,g,c,rfl,f1,f2,f3,f4,f5,f6,f7,f8,q,f10,f11,f12,f13,f14,f15,f16,f17,f18⟩:=a.out.1.top;have H:=a.out.1.k.cell 0;have cS:=a.out.1.s.cell 0;simp at H cS;rw[F.out]at cS;have zK:=ik a.out.1.k 0;have aC:t<n:=(by have:=a.out.2.1.lt (e:=(t,rest)) fz;rw[d.out]at this;exact this);have aD:(t:Int)<(n:Int):=fu;have T:st[t]? = fS 1:=(a.out.2.1.one t).2 fz;have cT:=bKl a.out.1.t T;have zT:=ik a.out.1.t t;obtain⟨m,C⟩:=fX S.length;have F9:=fQ q;rw[C]at f1 q f10 H;have aU:m+1<=4096:=(by have:=a.out.2.1.small;rw[d.out]at this;simp at this;omega);have U:=fQ C;have aE:=fQ T;have ao:=fQ f12;clear C T f12 f13;rcases Aa rest with rfl|⟨b,x,rfl⟩
      ·have I:=ao.at_ (k:=0) fz;simp[ix,jg]at I;simp at q f11;go_wp2_with fail;go_region;have P1:=fQ (a.out.1.put t 2);go_wp2;go_roundg (lz (st.set t 2) S)
       case measure=>rw[<-Q.out];exact dXn aE.out
       case rel=>
        have aq:=P1.pop;rw[U.out]at aq;refine⟨S,st.set t 2,D ++ [t],_,_,fQ ⟨aq.drew,a.out.2.1.pop,fun j hj=>BZ _ (a.out.2.2.1 j hj),(((a.out.2.2.2).setCell (p:=⟨w.heap.size+1,t,fR⟩) a.out.1.lT _).setCell (p:=⟨w.heap.size+1+1+1,0,fR⟩) a.out.1.lK _).drew⟩,fQ ?_,fQ rfl⟩;by_cases e:t=k
        ·subst e;rw[Aw (by rw[F.out];exact aC)];simp
        ·rw[Ay e];exact E.out
      ·rw[Ab]at *;have I:=ao.at_ (k:=b.length+1) fz;have e2:(ix (jg (t,b ++ [x])))[b.length+1]? = fS (fF fM x):=(by simp[ix,jg]);rw[Az (by simp[ix,jg])]at e2;injection e2 with e2;rw[e2,Bv]at I;simp only[BK,Bz,BJ]at q f11;obtain⟨l,V⟩:=fX b.length;rw[V]at I q f11
       have hle:l<=66:=by
        have h1:=aKv f.out t;obtain⟨proc,h2,_⟩:=a.out.2.1.ent S.length (t,b ++ [x]) fz;rw[h2]at h1;simp at h1;omega
       obtain⟨y,hy,W⟩:=f.edges (a.out.2.1.rest (e:=(t,b ++ [x])) fz (x:=x) fz);subst hy;rw[d.out]at W;have aH:=fQ V;clear V e2;obtain⟨A,ar⟩:∃ A,r.K[y]? = fS A:=⟨_,Az (by rw[d.out];exact W)⟩;have X:=fQ ar;have Y:=fQ (a.out.1.shrink F9.out);rw[U.out,aH.out]at Y;have J:=fQ ((a.out.2.2.2).setCell (p:=⟨gk,m,fR⟩) f3 (fG (fS ⟨g,0,fR⟩) (l+1) c));clear ar;go_wp2_with fail;refine(aYh r _ _ _ _ _ rv st (S ++ [(t,b)]) _ _ y A w _ Y.out HR.out (Aj _) J.out X.out a.out.2.1.len (f.to y A X.out).2.1 (f.to y A X.out).2.2 (by simp[U.out];omega) (by rw[d.out];omega)).mono ?_;rintro en w3 (⟨K,v3,aW,rfl,au,aw⟩|⟨z,B,Z,rfl,rfl⟩)
       ·have aI:=fQ au;have aJ:=fQ (J.trans aw);have H0:=fQ K;clear au aw K;go_wp2;go_roundg (lz (st.set y 1) (S ++ [(t,b)] ++ [(y,edges r y)]))
        case measure=>rw[<-Q.out];exact bYx H0.out (aKv f.out y)
        case rel=>
         refine⟨_,_,D,_,_,fQ ⟨aI.out,a.out.2.1.a6 H0.out,a.out.2.2.1,aJ.out⟩,fQ ?_,fQ rfl⟩;by_cases e:y=k
         ·subst e;rw[Aw (by rw[F.out];exact W)];simp
         ·rw[Ay e];exact E.out
       ·rcases a.out.2.1.vals y z B with h|h|h
        ·exact gH h Z
        ·subst h;have aK:=fQ (a.out.2.1.fYk B);rw[show((1:Int) == 1)=fT from rfl];clear B Z;go_wp2;go_ret;exact⟨fT,rfl,⟨(fun _=>aK.out),(fun _=>rfl)⟩,J.out⟩
        ·subst h;have aL:=fQ (a.out.2.1.skip B);rw[show((2:Int) == 1)=fU from rfl];clear B Z;go_wp2;go_roundg (lz st (S ++ [(t,b)]))
         case measure=>rw[<-Q.out];exact cJz
         case rel=>exact⟨_,_,D,_,_,fQ ⟨Y.out,aL.out,a.out.2.2.1,J.out⟩,E,fQ rfl⟩
   ·have L:=fQ (show qD r w.heap.size w.heap.size (w.heap.size+1+1) (w.heap.size+1+1+1) (w.heap.size+1) rv w k [] st D v vs wo from IM.out);have M:=fQ (show st[k]? ≠ fS 0 by rw[o];intro e;injection e with e;exact aP e);obtain⟨aA,N⟩:=fX st;obtain⟨O,ae⟩:∃ O:kG,[]=O:=⟨_,rfl⟩;rw[N,ae]at L;rw[N]at M;obtain⟨y,hy⟩:∃ y:Bool,(x == 1)=y:=⟨_,rfl⟩;rw[hy];clear o aP N ae IM hy;go_wp2;go_loopg [] (lz aA O) (fun g wi=>∃ (stk:kG) (st:List Int) (D:List Nat) (v:Bb) (vs:List Bb),Hid (qD r w.heap.size w.heap.size (w.heap.size+1+1) (w.heap.size+1+1+1) (w.heap.size+1) rv w k stk st D v vs wi)/\Hid (st[k]? ≠ fS 0)/\Hid (lz st stk=g))
    case atStart=>exact⟨_,_,_,_,_,L,M,fQ rfl⟩
    case round=>
     clear L M;obtain⟨stk,st,D,v,vs,a,E,Q⟩:=hrel;have R:=a.out.2.1.len;rw[d.out]at R;have F:=fQ R;clear R;rcases Aa stk with rfl|⟨S,e,rfl⟩
     ·obtain⟨Av,G,hv,_⟩:=fJ a.out.1.own;subst hv;have H:=a.out.1.k.cell 0;simp at H;go_wp2;refine⟨⟨k+1,st,D,_,vs,fu,fz,fQ ⟨a.out.1,a.out.2.1,fun j hj=>?_,a.out.2.2.2⟩⟩,fB⟩;by_cases aB:j=k
      ·subst aB;obtain⟨x,o⟩:∃ x,st[j]? = fS x:=⟨_,Az (by rw[F.out];exact ax)⟩;rcases a.out.2.1.vals j x o with h|h|h
       ·subst h;exact gH o E.out
       ·subst h;have:=(a.out.2.1.one j).1 o;simp at this
       ·subst h;exact(a.out.2.1.two j).1 o
      ·exact a.out.2.2.1 j fu
     ·rw[Ab]at *;obtain⟨t,rest⟩:=e;obtain⟨gk,G,g,c,rfl,f1,f2,f3,f4,f5,f6,f7,f8,q,f10,f11,f12,f13,f14,f15,f16,f17,f18⟩:=a.out.1.top;have H:=a.out.1.k.cell 0;have cS:=a.out.1.s.cell 0;simp at H cS;rw[F.out]at cS;have zK:=ik a.out.1.k 0;have aC:t<n:=(by have:=a.out.2.1.lt (e:=(t,rest)) fz;rw[d.out]at this;exact this);have aD:(t:Int)<(n:Int):=fu;have T:st[t]? = fS 1:=(a.out.2.1.one t).2 fz;have cT:=bKl a.out.1.t T;have zT:=ik a.out.1.t t;obtain⟨m,C⟩:=fX S.length;have F9:=fQ q;rw[C]at f1 q f10 H;have aU:m+1<=4096:=(by have:=a.out.2.1.small;rw[d.out]at this;simp at this;omega);have U:=fQ C;have aE:=fQ T;have ao:=fQ f12;clear C T f12 f13;rcases Aa rest with rfl|⟨b,x,rfl⟩
      ·have I:=ao.at_ (k:=0) fz;simp[ix,jg]at I;simp at q f11;go_wp2_with fail;go_region;have P1:=fQ (a.out.1.put t 2);go_wp2;go_roundg (lz (st.set t 2) S)
       case measure=>rw[<-Q.out];exact dXn aE.out
       case rel=>
        have aq:=P1.pop;rw[U.out]at aq;refine⟨S,st.set t 2,D ++ [t],_,_,fQ ⟨aq.drew,a.out.2.1.pop,fun j hj=>BZ _ (a.out.2.2.1 j hj),(((a.out.2.2.2).setCell (p:=⟨w.heap.size+1,t,fR⟩) a.out.1.lT _).setCell (p:=⟨w.heap.size+1+1+1,0,fR⟩) a.out.1.lK _).drew⟩,fQ ?_,fQ rfl⟩;by_cases e:t=k
        ·subst e;rw[Aw (by rw[F.out];exact aC)];simp
        ·rw[Ay e];exact E.out
      ·rw[Ab]at *;have I:=ao.at_ (k:=b.length+1) fz;have e2:(ix (jg (t,b ++ [x])))[b.length+1]? = fS (fF fM x):=(by simp[ix,jg]);rw[Az (by simp[ix,jg])]at e2;injection e2 with e2;rw[e2,Bv]at I;simp only[BK,Bz,BJ]at q f11;obtain⟨l,V⟩:=fX b.length;rw[V]at I q f11
       have hle:l<=66:=by
        have h1:=aKv f.out t;obtain⟨proc,h2,_⟩:=a.out.2.1.ent S.length (t,b ++ [x]) fz;rw[h2]at h1;simp at h1;omega
       obtain⟨y,hy,W⟩:=f.edges (a.out.2.1.rest (e:=(t,b ++ [x])) fz (x:=x) fz);subst hy;rw[d.out]at W;have aH:=fQ V;clear V e2;obtain⟨A,ar⟩:∃ A,r.K[y]? = fS A:=⟨_,Az (by rw[d.out];exact W)⟩;have X:=fQ ar;have Y:=fQ (a.out.1.shrink F9.out);rw[U.out,aH.out]at Y;have J:=fQ ((a.out.2.2.2).setCell (p:=⟨gk,m,fR⟩) f3 (fG (fS ⟨g,0,fR⟩) (l+1) c));clear ar;go_wp2_with fail;refine(aYh r _ _ _ _ _ rv st (S ++ [(t,b)]) _ _ y A w _ Y.out HR.out (Aj _) J.out X.out a.out.2.1.len (f.to y A X.out).2.1 (f.to y A X.out).2.2 (by simp[U.out];omega) (by rw[d.out];omega)).mono ?_;rintro en w3 (⟨K,v3,aW,rfl,au,aw⟩|⟨z,B,Z,rfl,rfl⟩)
       ·have aI:=fQ au;have aJ:=fQ (J.trans aw);have H0:=fQ K;clear au aw K;go_wp2;go_roundg (lz (st.set y 1) (S ++ [(t,b)] ++ [(y,edges r y)]))
        case measure=>rw[<-Q.out];exact bYx H0.out (aKv f.out y)
        case rel=>
         refine⟨_,_,D,_,_,fQ ⟨aI.out,a.out.2.1.a6 H0.out,a.out.2.2.1,aJ.out⟩,fQ ?_,fQ rfl⟩;by_cases e:y=k
         ·subst e;rw[Aw (by rw[F.out];exact W)];simp
         ·rw[Ay e];exact E.out
       ·rcases a.out.2.1.vals y z B with h|h|h
        ·exact gH h Z
        ·subst h;have aK:=fQ (a.out.2.1.fYk B);rw[show((1:Int) == 1)=fT from rfl];clear B Z;go_wp2;go_ret;exact⟨fT,rfl,⟨(fun _=>aK.out),(fun _=>rfl)⟩,J.out⟩
        ·subst h;have aL:=fQ (a.out.2.1.skip B);rw[show((2:Int) == 1)=fU from rfl];clear B Z;go_wp2;go_roundg (lz st (S ++ [(t,b)]))
         case measure=>rw[<-Q.out];exact cJz
         case rel=>exact⟨_,_,D,_,_,fQ ⟨Y.out,aL.out,a.out.2.2.1,J.out⟩,E,fQ rfl⟩
  ·have HD:=fQ (show j9 r from IM.out.2.1.done.fYj (fun i hi=>IM.out.2.2.1 i (by rw[d.out]at hi;omega)));go_wp2;go_ret;exact⟨fU,rfl,⟨(fun h=>by cases h),(fun h=>gH HD.out h)⟩,IM.out.2.2.2⟩
theorem Structs.fYu{t:TypeId}{p q:Bb}{s:iu}(h:gO w g t #[p,q])(h1:Ints w p s.a1)(h2:Ints w q s.out):Structs 2 kA w (fG (fS ⟨g,0,fR⟩) 1 1) [s]:=by
 refine⟨fS ⟨g,0,fR⟩,1,[[p,q]],rfl,fz,(fun e=>by cases e),fz,rfl,fz,fun i r x q1 a=>?_,?_⟩
 ·match i,q1,a with
  | 0,q1,a=>
   simp at q1 a;subst q1;subst a;exact⟨p,q,rfl,h1,h2⟩
 ·have:=h.src 2 fz
  simpa using this
def qE(s:iu):ia:=⟨[s],0,[],[],fU⟩
theorem cKc(s:iu):iH (qE s)=je s:=by
 simp[iH,qE,lY]
theorem dXx{t:TypeId}{p q:Bb}{s:iu}(h:gO w g t #[p,q])(h1:Ints w p s.a1)(h2:Ints w q s.out):iG w (.agg #[fG (fS ⟨g,0,fR⟩) 1 1,fF fM 0,fG fR 0 0,fG fR 0 0,fH fU]) (qE s):=
 ⟨_,_,_,rfl,Structs.fYu h h1 h2,Ints.nil w,⟨fR,0,rfl,Src.nil _ _,Aj _,fun _=>rfl,by simp[qE]⟩⟩
def qF(op:Int):Bool:=decide (op ∈ [(273:Int),275,276,277])
theorem r9(op:Int):qF op=fT↔(op=273\/op=275\/op=276\/op=277):=by simp[qF]
theorem bVh{e:ia}{r:gR}{c:gP}(h:codeOk e r c=fT):(∀ x∈c.to,0<=x/\x<r.K.length)/\vQ c.op<=c.to.length/\(c.to.length:Int)<=sW c.op:=by
 unfold codeOk at h
 split at h
 ·cases h
 ·simp only[BW,decide_eq_true_eq]at h;obtain⟨⟨_,_,h1,h2⟩,_,_,_,a⟩:=h;refine⟨fun x b=>?_,h1,h2⟩;have:=List.all_eq_true.1 a x b
  simpa using this
theorem bKq{e:ia}{r:gR}(n1:1<=r.K.length)(n2:r.K.length<=4096)(hc:∀ c∈r.K,codeOk e r c=fT)(g:∀ c,r.K[r.K.length - 1]? = fS c->qF c.op=fT):jG r:=by
 refine⟨n1,n2,fun i c hi=>?_⟩;obtain⟨h1,h2,h3⟩:=bVh (hc c (BX hi));have ae:=(gw hi).1
 have j:qF c.op=fU->(i:Int)+1<r.K.length:=by
  intro he;by_cases k:i=r.K.length - 1
  ·rw[k]at hi;have:=g c hi;rw[he]at this;cases this
  ·omega
 have d:c.op=274->0<c.to.length:=by
  intro e;rw[e]at h2;simp[vQ]at h2;omega
 have af:c.to.length<=65:=by
  have:sW c.op<=65:=(by unfold sW;split;omega;split <;> omega);omega
 refine⟨fun x b=>?_,d,?_⟩
 ·unfold ib at b
  split at b
  ·simp at b
  ·rename_i q1
   split at b
   ·exact h1 x b
   ·rename_i q2
    have he:qF c.op=fU:=by
     rw[Bool.eq_false_iff];intro h;rw[r9]at h;omega
    have:=j he
    split at b
    ·rename_i m;simp at b;rcases b with b|b
     ·omega
     ·have f:=d m
      cases hct:c.to with
      | nil=>rw[hct]at f;simp at f
      | cons a l=>
       rw[hct]at b;simp at b;subst b;exact h1 _ (by rw[hct];simp)
    ·simp at b;omega
 ·unfold ib
  split
  ·simp
  ·split
   ·omega
   ·split <;> simp
theorem iq.sa{e:ia}{r:gR}(h:iq e r):jG r:=bKq h.n1 h.n2 h.K (fun c hc=>(r9 _).2 (h.last c hc))
theorem eQd{e:ia}(h:iH e=fT):e.a3.length=e.E.length:=by
 simp only[iH,BW,decide_eq_true_eq]at h;exact h.1.2.2.2
def iE(e:ia)(r:gR)(w:Ba)(a:Ending)(w':Ba):Prop:=∃ b:Bool,a = fP (fH b)/\(b=fT↔iq e r)/\Bc w.heap.size w w'
theorem iE.no{e:ia}{r:gR}(h:¬iq e r)(a:Bc w.heap.size w w'):iE e r w (fP (fH fU)) w':=⟨fU,rfl,⟨(fun h=>by cases h),(fun b=>gH b h)⟩,a⟩
theorem dXy(e:ia)(r:gR)(ve vr:Bb)(w:Ba)(he:iG w ve e)(hr:jn w vr r):Calls fZ 46 #[ve,vr] w (iE e r w):=by
 have HE:=fQ he;have HR:=fQ hr;obtain⟨va,vb,vd,rfl,h1,h2,h3⟩:=he;obtain⟨As,cs,rfl,_⟩:=h1.len;obtain⟨Ag,cg,rfl⟩:=h2.I;obtain⟨Am,cm,rfl,_⟩:=h3;obtain⟨vp,vq,vr,vs,rfl,h4,h5,M,O⟩:=hr;have H4:=fQ h4;have H5:=fQ h5;have H6:=fQ M;have H7:=fQ O;obtain⟨i,j,rfl⟩:=h4.I;obtain⟨l,m,rfl⟩:=h5.I;obtain⟨Ar,cr,rfl⟩:=M.I;obtain⟨P,R,rfl,_⟩:=O.len;obtain⟨_,l6,aO⟩:=M.kj;obtain⟨_,l7,aP⟩:=O.kj;have an:=fQ (j8 w (fO #[fG As e.R.length cs,fF fM e.G,fG Ag e.E.length cg,fG Am e.a3.length cm,fH e.L] 26) (fO #[fG i r.a2.a1.length j,fG l r.a2.out.length m,fF fM r.M,fG Ar r.params.length cr,fG P r.K.length R] 89));have f:=fQ ((gO.a4 w 26 #[fG As e.R.length cs,fF fM e.G,fG Ag e.E.length cg,fG Am e.a3.length cm,fH e.L]).alloc (fO #[fG i r.a2.a1.length j,fG l r.a2.out.length m,fF fM r.M,fG Ar r.params.length cr,fG P r.K.length R] 89));have g:=fQ (gO.X (w.alloc (fO #[fG As e.R.length cs,fF fM e.G,fG Ag e.E.length cg,fG Am e.a3.length cm,fH e.L] 26)) (N:=w.heap.size+1) 89 #[fG i r.a2.a1.length j,fG l r.a2.out.length m,fF fM r.M,fG Ar r.params.length cr,fG P r.K.length R] fz);clear h1 h2 h4 h5 M O;go_in;go_wp2_with fail;refine(aZc _ e _ (HE.C an.out (Aj _))).mono ?_;rintro o w1 ⟨rfl,S⟩;have a:=fQ (an.trans (S.mono an.out.size));have f:=fQ (f.C S f.lt);have g:=fQ (g.C S g.lt);clear S;obtain⟨s,u,x,y,z⟩:=gZ g.out;obtain⟨B,C,D,E,F⟩:=gZ f.out;have y0:=f.lt;have y1:=g.lt
 cases T:iH e with
 | false=>
  have Q:=fQ T;clear T;go_wp2;go_ret;exact iE.no (fun d=>by have:=d.J;rw[Q.out]at this;cases this) a.out
 | true=>
  have Q0:=fQ T;clear T;have U:=fQ (a.alloc a.out.size (fO #[fG i r.a2.a1.length j,fG l r.a2.out.length m] 62));have ax:=fQ (f.alloc (fO #[fG i r.a2.a1.length j,fG l r.a2.out.length m] 62));have ay:=fQ (g.alloc (fO #[fG i r.a2.a1.length j,fG l r.a2.out.length m] 62));go_wp2_with fail;refine(aZc _ (qE r.a2) _ (dXx (gO.a4 w1 62 #[fG i r.a2.a1.length j,fG l r.a2.out.length m]) (H4.C U.out (Aj _)) (H5.C U.out (Aj _)))).mono ?_;rintro o w2 ⟨rfl,V⟩;rw[cKc];have a:=fQ (U.trans (V.mono U.out.size));have f:=fQ (ax.C V ax.lt);have g:=fQ (ay.C V ay.lt);clear V;clear s u x y z B C D E F y0 y1;obtain⟨s,u,x,y,z⟩:=gZ g.out;obtain⟨B,C,D,E,F⟩:=gZ f.out;have y0:=f.lt;have y1:=g.lt
  cases q1:je r.a2 with
  | false=>
   have Q:=fQ q1;clear q1;go_wp2;go_ret;exact iE.no (fun d=>by have:=d.a2;rw[Q.out]at this;cases this) a.out
  | true=>
   have Q1:=fQ q1;clear q1;by_cases G:r.K.length=0
   ·have aD:r.K = []:=Bj G;have Q:=fQ G;clear G;go_wp2;go_ret;exact iE.no (fun d=>by have:=d.n1;rw[Q.out]at this;omega) a.out
   have g2:((r.K.length:Int) == 0)=fU:=(by rw[beq_eq_false_iff_ne];omega);have aE:1<=r.K.length:=fu;by_cases q3:4096<r.K.length
   ·have g3:decide (4096<(r.K.length:Int))=fT:=fw;go_wp2;go_ret;exact iE.no (fun d=>by have:=d.n2;omega) a.out
   have g3:decide (4096<(r.K.length:Int))=fU:=fw;have aF:r.K.length<=4096:=fu;by_cases q4:r.M<0
   ·go_wp2;go_ret;exact iE.no (fun d=>by have:=d.p1;omega) a.out
   have g4:decide (r.M<0)=fU:=(by simpa using q4);by_cases q5:4096<r.M
   ·go_wp2;go_ret;exact iE.no (fun d=>by have:=d.p2;omega) a.out
   have g5:decide (4096<r.M)=fU:=(by simpa using q5);by_cases W:r.params.length=r.a2.a1.length
   ·have g6:((r.params.length:Int) != (r.a2.a1.length:Int))=fU:=fw;have Q6:=fQ W;clear W;go_wp2_with fail;refine(rK r.M _ r.params _ (H6.ir.C a.out (Aj _)) fu).mono ?_;rintro o w3 ⟨rfl,X⟩;have a:=fQ (a.trans (X.mono a.out.size));have f:=fQ (f.C X f.lt);have g:=fQ (g.C X g.lt);clear X;clear s u x y z B C D E F y0 y1;obtain⟨s,u,x,y,z⟩:=gZ g.out;obtain⟨B,C,D,E,F⟩:=gZ f.out;have y0:=f.lt;have y1:=g.lt
    cases Y:within r.M r.params with
    | false=>
     have Q:=fQ Y;clear Y;go_wp2;go_ret;exact iE.no (fun d=>by have:=d.pin;rw[Q.out]at this;cases this) a.out
    | true=>
     have Q7:=fQ Y;clear Y;go_wp2_with fail;refine gu (aJn _ r.params _ (H6.ir.C a.out (Aj _)) fu (fun A n c h=>by injection h with e1 e2 e3;omega)) ?_;by_cases H:r.params.Nodup
     ·rw[gD H];have Q8:=fQ H;clear H;go_wp2_with fail;refine(bWy P r.K.length R r.K (fun c=>!codeOk e r c) w.heap.size (w.heap.size+1) _ (H7.C a.out (Aj _) (fun _ _ h=>h.C a.out (Aj _))) fu (fun c hc v w' I hv=>cVz e r c _ _ v v v _ _ w' (HE.C (a.trans (I.mono a.out.size)) (Aj _)) (HR.C (a.trans (I.mono a.out.size)) (Aj _)) hv (eQd Q0.out) (f.C I f.lt) (g.C I g.lt))).mono ?_;rintro o w5 ⟨rfl,Z⟩;have a:=fQ (a.trans (Z.mono a.out.size));have f:=fQ (f.C Z f.lt);have g:=fQ (g.C Z g.lt);clear Z;clear s u x y z B C D E F y0 y1;obtain⟨s,u,x,y,z⟩:=gZ g.out;obtain⟨B,C,D,E,F⟩:=gZ f.out;have y1:=g.lt
      cases q9:r.K.any (fun c=>!codeOk e r c)with
      | true=>
       have Q:=fQ q9;clear q9;go_wp2;go_ret;exact iE.no (fun d=>by obtain⟨c,h1,h2⟩:=List.any_eq_true.1 Q.out;rw[d.K c h1]at h2;cases h2) a.out
      | false=>
       have Q9:=fQ (show ∀ c∈r.K,codeOk e r c=fT from fun c hc=>by have:=List.any_eq_false.1 q9 c hc;simpa using this);clear q9;have aI:0<r.K.length:=fu;obtain⟨J,ao⟩:∃ J,r.K[0]? = fS J:=⟨_,Az fu⟩;obtain⟨c1,aq⟩:∃ c1,r.K[r.K.length - 1]? = fS c1:=⟨_,Az fu⟩;have ar:=H7.C a.out (Aj _) (fun _ _ h=>h.C a.out (Aj _));obtain⟨gb,go,p,q,t,eA,aQ,m0,_⟩:=ar.K ao;obtain⟨aR,aS,p',q',t',au,aJ,m1,_⟩:=ar.K aq;subst eA;injection au with au;injection au with e1 e2;subst e1;subst e2;obtain⟨k,hk⟩:∃ k,r.K.length=k+1:=⟨r.K.length - 1,fu⟩;rw[hk]at m1;simp only[Nat.add_sub_cancel,Nat.zero_mul,Bk]at m0 m1;have aT:(k:Int)<(r.K.length:Int):=fu;have aU:(r.K.length:Int) - 1=(k:Int):=fu;have aV:((r.K.length:Int) - 1).toNat=k:=fu;have C0:=fQ ao;have C1:=fQ aq;clear ao aq ar hk;by_cases K:J.op=258
       ·have g10:(J.op == 258)=fT:=(by simpa using K);have aw:=fQ K;clear K;have aj:=fQ (a.alloc a.out.size (fO #[fF fM 273,fF fM 275,fF fM 276,fF fM 277] 3));go_wp2_with fail;refine gu (aKf _ [273,275,276,277] c1.op _ ⟨_,_,rfl,gO.kE (cs:=#[fF fM 273,fF fM 275,fF fM 276,fF fM 277]) (gO.a4 _ _ _) rfl⟩ fz) ?_
        cases L:qF c1.op with
        | false=>
         have ak:=fQ L;rw[show decide (c1.op ∈ [(273:Int),275,276,277])=fU from L];clear L;go_wp2;go_ret;exact iE.no (fun d=>by have:=d.last c1 C1.out;rw[<-r9,ak.out]at this;cases this) aj.out
        | true=>
         have ak:=fQ L;rw[show decide (c1.op ∈ [(273:Int),275,276,277])=fT from L];clear L;have al:=fQ (show 1<=r.K.length/\r.K.length<=4096 from⟨aE,aF⟩);go_wp2_with fail;refine(dZx r _ _ (HR.C aj.out (Aj _)) (bKq al.1 al.2 Q9.out (fun c hc=>by rw[C1.out]at hc;injection hc with hc;rw[<-hc];exact ak.out))).mono ?_;rintro o w7 ⟨b,rfl,az,aA⟩;have aL:=fQ (aj.trans (aA.mono aj.out.size));have aB:=fQ az;clear aA az;go_wp2;go_ret;refine⟨!b,rfl,⟨fun I=>?_,fun d=>?_⟩,aL.out⟩
         ·have aM:¬b=fT:=(by simpa using I);have aN:j9 r:=Classical.byContradiction fun h=>aM (aB.2 h);exact⟨Q0.out,Q1.out,al.1,al.2,fu,fu,Q6.out,Q7.out,Q8.out,Q9.out,(fun c hc=>by rw[C0.out]at hc;injection hc with hc;rw[<-hc];exact aw.out),(fun c hc=>by rw[C1.out]at hc;injection hc with hc;rw[<-hc];exact(r9 _).1 ak.out),aN⟩
         ·cases b with
          | false=>rfl
          | true=>exact gH d.rank (aB.1 rfl)
       ·have g10:(J.op == 258)=fU:=(by simpa using K);have aw:=fQ K;clear K;go_wp2;go_ret;exact iE.no (fun d=>aw.out (d.first J C0.out)) (a.alloc a.out.size _)
     ·rw[gE H];have Q8:=fQ H;clear H;go_wp2;go_ret;exact iE.no (fun d=>Q8.out d.pw) a.out
   ·have g6:((r.params.length:Int) != (r.a2.a1.length:Int))=fT:=fw;have Q6:=fQ W;clear W;go_wp2;go_ret;exact iE.no (fun d=>Q6.out d.par) a.out
end Go.Proofs.YtabibkpfgmolkaaGreatDoor

/- Lemmas for the claim, part 3. Conditions: none. -/
import Derived.Test.YtabibkpfgmolkaaGreatPk02
import Derived.Lib.AppendZerosOnto
set_option maxRecDepth 100000
set_option maxHeartbeats 16000000
set_option linter.unusedVariables false
set_option linter.unusedSimpArgs false
open Go.Lib renaming hid→fQ
open Go.Proofs.Tryz renaming prog→fZ
open Go.Proofs.Tryz
open Go.RowKit
open Nat renaming le_refl→Aj,sub_self→Aa,mul_one→Bv,zero_add→By,add_zero→BW
open List renaming getElem?_append_left→Ax,getElem?_eq_getElem→Az,getElem?_append_right→Ak,getElem?_set_self→Aw,getElem?_set_ne→Ay,replicate→AK,append_assoc→AV,take_append_of_le_length→AW,take_of_length_le→AY,eq_nil_or_concat→Ab,concat_eq_append→Ad,getElem?_map→Ae,take_succ_eq_append_getElem→Af,nodup_append→Ah,length_take→Bx,mem_append→Bz,map_append→Bk,length_cons→Bw,nil_append→BJ,length_nil→BQ,mem_of_getElem?→BZ,mem_append_left→BK,length_append→BV,count_set→BY
open Bool renaming true_and→AJ,false_and→AQ,and_true→AZ
open Go.RowKit.Below renaming refl→AX
open Option renaming map_eq_some_iff→Bj
open Go.Value renaming ownBlock→Bq
open Array renaming replicate→BX
open Go renaming World→Ba,Value→Bb
open Go.RowKit renaming Below→Bc
namespace Go.Proofs.YtabibkpfgmolkaaGreat
variable {st l:List Int}{w:Ba}{k t base gS bR bS bK i:Nat}{D:List Nat}{x p:Int}{v:Bb}
theorem bYd(h:l[k]? = some p)(h1:x ∉ l.take k)(h2:p≠x):x ∉ l.take (k+1):=by
 obtain⟨a,e⟩:=List.getElem?_eq_some_iff.1 h;rw[Af a,e,Bz];rintro(h | h)
 ·exact h1 h
 ·simp at h;exact h2 h.symm
theorem dQq(v:Bb)(l:List Int)(x:Int)(w:Ba)(hs:IR w v l)(hm:l.length<=9223372036854775807):
  Calls fZ 76 #[v,.int .i64 x] w fun e w'=>∃ r:Int,e = .returned (.int .i64 r)/\decide (0<=r)=decide (x∈l)/\w=w':=by
 obtain⟨A,c,rfl⟩:=hs.shape;have j:=fQ hs;clear hs;go_in;go_wp2;go_loopw [8] (fun i wr=>∃ k:Nat,k<=l.length/\i = .int .i64 k/\Hid (x ∉ l.take k)/\Hid (w=wr)) (fun i _=>l.length - (intOf i).toNat)
 case atStart=>exact⟨0,by omega,rfl,fQ (by simp),fQ rfl⟩
 case round=>
  obtain⟨k,hk,rfl,d,f⟩:=hrel;obtain rfl:=f.out;clear f;by_cases g:k<l.length
  ·have ad:(k:Int)<(l.length:Int):=(by omega);obtain⟨y,a⟩:∃ y,l[k]? = some y:=⟨_,Az g⟩;obtain⟨ab,ao,rfl,hab,hcl⟩:=j.out.cell a;have h:=fQ a;clear a;by_cases he:x=y
   ·subst he;have m:=fQ (BZ h.out);have n:(x == x)=true:=(by simp);go_wp2;go_ret;exact⟨k,rfl,by rw[decide_eq_true m.out];simp,rfl⟩
   ·have n:(x == y)=false:=(by simp[he]);have b:=fQ (bYd h.out d.out (fun e=>he e.symm));clear he;go_wp2;exact⟨⟨k+1,by omega,by simp,b,fQ (by trivial)⟩,by simp[intOf];omega⟩
  ·have af:¬k<l.length:=g;have b:=fQ (show x ∉ l by have:=d.out;rwa[AY (by omega)]at this);go_wp2;go_ret;exact⟨-1,rfl,by rw[decide_eq_false b.out];rfl,rfl⟩
theorem wQ(v:Bb)(l:List Int)(x:Int)(w:Ba)(hs:IR w v l)(a:l.length<=9223372036854775807):
  Calls fZ 46 #[v,.int .i64 x] w fun e w'=>e = .returned (.bool (decide (x∈l)))/\w=w':=by
 obtain⟨A,c,rfl⟩:=hs.shape;have b:=fQ hs;clear hs;go_in;go_wp2_with fail;refine(dQq _ l x _ b.out a).mono ?_;rintro e w1 ⟨r,rfl,hr,rfl⟩;have d:=fQ hr;clear hr;go_wp2;go_ret;exact⟨by rw[<-d.out];rfl,rfl⟩
def aVq(n x:Int):Bool:=!decide (0<=x/\x<n)
theorem cXs(n x:Int)(b:Nat)(w:Ba)(hc:w.cell? ⟨b,0,none⟩=some (.int .i64 n)):Calls fZ 98 #[.int .i64 x,.pointer (some ⟨b,0,none⟩)] w fun e w'=>e = .returned (.bool (aVq n x))/\Bc w.heap.size w w':=by
 by_cases h1:x<0
 ·have c:decide (x<0)=true:=(by simpa using h1);have a:=fQ (show aVq n x=true by simp[aVq];omega);go_in;go_wp2;go_ret;exact⟨by rw[a.out];rfl,AX _ _⟩
 ·have c:decide (x<0)=false:=(by simpa using h1);by_cases h2:n<=x
  ·have d:decide (n<=x)=true:=(by simpa using h2);have a:=fQ (show aVq n x=true by simp[aVq];omega);go_in;go_wp2;go_ret;exact⟨by rw[a.out];rfl,AX _ _⟩
  ·have d:decide (n<=x)=false:=(by simpa using h2);have a:=fQ (show aVq n x=false by simp[aVq];omega);go_in;go_wp2;go_ret;exact⟨by rw[a.out];rfl,AX _ _⟩
theorem pX(n:Int)(v:Bb)(l:List Int)(w:Ba)(hs:IR w v l)(d:l.length<=9223372036854775807):
  Calls fZ 70 #[.int .i64 n,v] w fun e w'=>e = .returned (.bool (within n l))/\Bc w.heap.size w w':=by
 obtain⟨A,c,rfl⟩:=hs.shape;have B0:=fQ (show Bc w.heap.size w (w.alloc (.cells #[.int .i64 n] 3))from(AX _ _).alloc (Aj _) _);have f:=fQ (hs.below B0.out (Aj _));have a:=fQ (Blk.new w 3 #[.int .i64 n])
 have g:=fQ (show within n l = !(l.any (aVq n)) by
  have:=bJg l (fun x=>decide (0<=x/\x<n))
  rw[within,<-this];rfl)
 clear hs;go_in;go_wp2_with fail
 refine(bJi A l.length c l (aVq n) w.heap.size _ f.out d (fun x hx v w' h e=>by
  subst e;have hc:=(a.out.below h a.out.lt).cell 0;simp at hc
  exact cXs n x _ w' hc)).mono ?_
 rintro e w1 ⟨rfl,b⟩;have i:=fQ (B0.out.trans (b.mono B0.out.size));clear b;go_wp2;go_ret;exact⟨by rw[g.out];rfl,i.out⟩
theorem cKi(h:l[k]? = some p)(h1:(l.take k).Nodup)(h2:p ∉ l.take k):(l.take (k+1)).Nodup:=by
 obtain⟨d,e⟩:=List.getElem?_eq_some_iff.1 h;rw[Af d,e,Ah];refine⟨h1,by simp,?_⟩;intro a ha b c;simp at c;subst c;intro e;subst e;exact h2 ha
theorem dQr(h:l[k]? = some p)(h2:p∈l.take k):¬l.Nodup:=by
 intro hn;obtain⟨a,e⟩:=List.getElem?_eq_some_iff.1 h;rw[<-List.take_append_drop k l,Ah]at hn;refine hn.2.2 p h2 p ?_ rfl;rw[List.drop_eq_getElem_cons a,e];simp
theorem aZl(v:Bb)(l:List Int)(w:Ba)(hs:IR w v l)(hm:l.length<=9223372036854775807)(f:∀ A n c,v = .slice A n c->n<=c):
  Calls fZ 71 #[v] w fun e w'=>e = .returned (.bool (decide l.Nodup))/\w=w':=by
 obtain⟨A,c,rfl⟩:=hs.shape;have hc:=f _ _ _ rfl;have g:=fQ hs;clear hs f;go_in;go_wp2;go_loopw [7] (fun i wr=>∃ k:Nat,k<=l.length/\i = .int .i64 k/\Hid ((l.take k).Nodup)/\Hid (w=wr)) (fun i _=>l.length - (intOf i).toNat)
 case atStart=>exact⟨0,by omega,rfl,fQ (by simp),fQ rfl⟩
 case round=>
  obtain⟨k,hk,rfl,h,j⟩:=hrel;obtain rfl:=j.out;clear j;by_cases m:k<l.length
  ·have ad:(k:Int)<(l.length:Int):=(by omega);have ah:k<=c:=(by omega);have ae:(k:Int)<=(c:Int):=(by omega);obtain⟨y,a⟩:∃ y,l[k]? = some y:=⟨_,Az m⟩;obtain⟨q,r,rfl,hab,hcl⟩:=g.out.cell a;have o:=fQ a
   have p:=fQ (show IR w (.slice (some ⟨q,r,none⟩) k c) (l.take k) by
    obtain⟨A',c',e',s⟩:=g.out;injection e' with t e2 e3;subst t;refine IR.of ?_ (by rw[Bx];omega);rw[<-bJz]
    exact s.take (by omega))
   clear a;by_cases he:y∈l.take k
   ·have b:=fQ (show decide (y∈l.take k)=true by simpa using he);have u:=fQ (decide_eq_false (dQr o.out he));clear he;go_wp2_with fail;refine(wQ _ (l.take k) y _ p.out (by rw[Bx];omega)).mono ?_;rintro e w1 ⟨rfl,rfl⟩;rw[b.out];go_wp2;go_ret;exact⟨by rw[u.out];rfl,rfl⟩
   ·have b:=fQ (show decide (y∈l.take k)=false by simpa using he);have d:=fQ (cKi o.out h.out he);clear he;go_wp2_with fail;refine(wQ _ (l.take k) y _ p.out (by rw[Bx];omega)).mono ?_;rintro e w1 ⟨rfl,rfl⟩;rw[b.out];go_wp2;exact⟨⟨k+1,by omega,by simp,d,fQ (by trivial)⟩,by simp[intOf];omega⟩
  ·have ag:¬k<l.length:=m;have d:=fQ (show decide l.Nodup=true by have:=h.out;rw[AY (by omega)]at this;simpa using this);go_wp2;go_ret;exact⟨by rw[d.out];rfl,rfl⟩
theorem al3(w:Ba)(a b c:Obj):Bc w.heap.size w (((w.alloc a).alloc b).alloc c):=(((AX _ _).alloc (Aj _) _).alloc (by simp) _).alloc (by simp;omega) _
def yW(e:EnvD)(r:RowD)(c:CodeD)(ok:Bool)(most:Nat)(i o:List Int)(a b:Int):Bool:=
 ok && (decide (c.n<=most) && (decide (c.args.length=i.length) && (decide (c.outs.length=o.length) && (decide (a<=(c.to.length:Int)) && (decide ((c.to.length:Int)<=b) &&
  (within r.places c.args && (within r.places c.outs && (decide c.outs.Nodup && within r.code.length c.to))))))))
theorem eJs{e:EnvD}{r:RowD}{c:CodeD}{ok:Bool}{most:Nat}{i o:List Int}{a b:Int}
  (j:iX e r.sig c.op c.n=none->ok=false\/most<c.n) (k:∀ x,iX e r.sig c.op c.n=some x->ok=true/\c.n<=most/\x=(i,o)/\a=sX c.op/\b=nJ c.op) :
  codeOk e r c=yW e r c ok most i o a b:=by
 cases hf:iX e r.sig c.op c.n with
 | none=>
  simp only[codeOk,hf,yW];rcases j hf with h | h
  ·rw[h];rfl
  ·rw[decide_eq_false (by omega)];cases ok <;> rfl
 | some x=>
  obtain⟨h1,h2,l,m,p⟩:=k x hf;subst l;subst m;subst p;simp only[codeOk,hf,yW,h1,decide_eq_true h2,AJ];by_cases q1:c.args.length=i.length
  ·by_cases d:c.outs.length=o.length
   ·by_cases f:sX c.op<=(c.to.length:Int)
    ·by_cases g:(c.to.length:Int)<=nJ c.op
     ·simp only[decide_eq_true q1,decide_eq_true d,decide_eq_true f,decide_eq_true g,decide_eq_true (show _/\_/\_/\_ from⟨q1,d,f,g⟩),AJ]
     ·rw[decide_eq_false (fun h=>g h.2.2.2),decide_eq_false g];simp
    ·rw[decide_eq_false (fun h=>f h.2.2.1),decide_eq_false f];simp
   ·rw[decide_eq_false (fun h=>d h.2.1),decide_eq_false d];simp
  ·rw[decide_eq_false (fun h=>q1 h.1),decide_eq_false q1];simp
theorem bZd(e:EnvD)(r:RowD)(c:CodeD)(ve vr vc:Bb)(w:Ba)(he:EnvV w ve e)(hr:RowV w vr r)(hc:CodeV w vc c)(aw:e.muts.length=e.globals.length):
  Calls fZ 74 #[ve,vr,vc] w fun G w'=>G = .returned (.bool (codeOk e r c))/\Bc w.heap.size w w':=by
 have ax:=he;obtain⟨va,vb,vd,rfl,h1,h2,h3⟩:=he;obtain⟨As,cs,rfl,_⟩:=h1.len;obtain⟨Ag,cg,rfl⟩:=h2.shape;obtain⟨Am,cm,rfl,_⟩:=h3;obtain⟨vp,vq,vr,vs,rfl,h4,h5,h6,h7⟩:=hr;obtain⟨Ap,cp,rfl⟩:=h4.shape;obtain⟨Aq,cq,rfl⟩:=h5.shape;obtain⟨Ar,cr,rfl⟩:=h6.shape;obtain⟨Ac,cc,rfl,_⟩:=h7.len;obtain⟨v2,v3,v4,rfl,ay,h8,h9,ar⟩:=hc;obtain⟨A2,c2,rfl⟩:=h8.shape;obtain⟨A3,c3,rfl⟩:=h9.shape;obtain⟨A4,c4,rfl⟩:=ar.shape;have l7:=h7.fQb;have l8:=h8.fQb;have l9:=h9.fQb;have aG:=ar.fQb;have T:=fQ (al3 w (.cells #[.slice As e.sigs.length cs,.int .i64 e.imports,.slice Ag e.globals.length cg,.slice Am e.muts.length cm,.bool e.mem] 26) (.cells #[.slice Ap r.sig.inn.length cp,.slice Aq r.sig.out.length cq,.int .i64 r.places,.slice Ar r.params.length cr,.slice Ac r.code.length cc] 43) (.cells #[.int .i64 c.op,.int .u64 (c.n:Int),.slice A2 c.args.length c2,.slice A3 c.outs.length c3,.slice A4 c.to.length c4] 52));have E1:=fQ ((Blk.newAt (w.alloc (.cells #[.slice As e.sigs.length cs,.int .i64 e.imports,.slice Ag e.globals.length cg,.slice Am e.muts.length cm,.bool e.mem] 26)) (N:=w.heap.size+1) 43 #[.slice Ap r.sig.inn.length cp,.slice Aq r.sig.out.length cq,.int .i64 r.places,.slice Ar r.params.length cr,.slice Ac r.code.length cc] (by simp)).alloc (.cells #[.int .i64 c.op,.int .u64 (c.n:Int),.slice A2 c.args.length c2,.slice A3 c.outs.length c3,.slice A4 c.to.length c4] 52));have E2:=fQ (at3 w (.cells #[.slice As e.sigs.length cs,.int .i64 e.imports,.slice Ag e.globals.length cg,.slice Am e.muts.length cm,.bool e.mem] 26) (.cells #[.slice Ap r.sig.inn.length cp,.slice Aq r.sig.out.length cq,.int .i64 r.places,.slice Ar r.params.length cr,.slice Ac r.code.length cc] 43) 52 #[.int .i64 c.op,.int .u64 (c.n:Int),.slice A2 c.args.length c2,.slice A3 c.outs.length c3,.slice A4 c.to.length c4]);have m:=fQ (h8.ir.below T.out (Aj _));have l:=fQ (h9.ir.below T.out (Aj _));have p:=fQ (ar.ir.below T.out (Aj _));have aD:=fQ (ax.below T.out (Aj _));have aE:=fQ (show SigV _ _ r.sig from⟨_,_,rfl,h4.below T.out (Aj _),h5.below T.out (Aj _)⟩);have au:=fQ ay;have aF:=fQ aw;clear h1 h2 h4 h5 h6 h7 h8 h9 ar ax ay aw;go_in;go_wp2_with fail;simp only[List.append_eq,List.cons_append,BJ]at *;refine(cXp c.op au.out.2.1 au.out.2.2 e r.sig _ _ c.n au.out.1 _ aD.out aE.out aF.out).mono ?_;rintro G w1 ⟨vi,vo,most,a,b,ok,i,o,rfl,az,aA,ao,hP,hQ,_,Z⟩;obtain⟨Ai,ci,rfl⟩:=az.shape;obtain⟨Ao,co,rfl⟩:=aA.shape;have O:=fQ (eJs hP hQ);have B4:=fQ (T.out.trans (Z.mono T.out.size));have al:=Z.alloc Z.size (.cells #[.slice Ai i.length ci,.slice Ao o.length co,.int .u64 (most:Int),.int .i64 a,.int .i64 b] 151);have aB:=fQ (E1.out.below Z E1.out.lt);have aC:=fQ (E2.out.below Z E2.out.lt);have f:=fQ (E1.out.below al E1.out.lt);have g:=fQ (E2.out.below al E2.out.lt);have m:=fQ (m.out.below al (Aj _));have l:=fQ (l.out.below al (Aj _));have p:=fQ (p.out.below al (Aj _));have j:=fQ (Blk.new w1 151 #[.slice Ai i.length ci,.slice Ao o.length co,.int .u64 (most:Int),.int .i64 a,.int .i64 b])
 have k:=fQ (B4.out.alloc B4.out.size (.cells #[.slice Ai i.length ci,.slice Ao o.length co,.int .u64 (most:Int),.int .i64 a,.int .i64 b] 151));clear Z al hP hQ az aA ao;have k1:=aB.out.lt;have k2:=aC.out.lt;obtain⟨q,s,t,u,v⟩:=gQ aB.out;obtain⟨x,y,z,B,C⟩:=gQ aC.out;have s0:=k1;have s1:=k1;have s2:=k1;have s3:=k1;have s4:=k1
 cases ok with
 | false=>
  have D:=fQ (show codeOk e r c=false by rw[O.out];simp only[yW,AJ,AQ,AZ]);go_wp2;go_ret;exact⟨by rw[D.out];rfl,k.out⟩
 | true=>
  by_cases E:c.n<=most
  ·by_cases F:c.args.length=i.length
   ·by_cases H:c.outs.length=o.length
    ·by_cases J:a<=(c.to.length:Int)
     ·by_cases L:(c.to.length:Int)<=b
      ·cases I:within r.places c.args with
       | true=>
        cases M:within r.places c.outs with
        | true=>
         by_cases P:c.outs.Nodup
         ·cases an:within r.code.length c.to with
          | true=>
           have Q:decide ((c.n:Int)<=(most:Int))=true:=(by simp;omega);have R:c.n<=most:=(by omega);have U:((c.args.length:Int) == (i.length:Int))=true:=(by simp;omega);have V:(c.args.length == i.length)=true:=(by simp;omega);have W:((c.outs.length:Int) == (o.length:Int))=true:=(by simp;omega);have X:(c.outs.length == o.length)=true:=(by simp;omega);have g4:decide (a<=(c.to.length:Int))=true:=(by simpa using J);have g5:decide ((c.to.length:Int)<=b)=true:=(by simpa using L);have D:=fQ (show codeOk e r c=true by rw[O.out];simp only[yW,decide_eq_true E,decide_eq_true F,decide_eq_true H,decide_eq_true J,decide_eq_true L,I,M,decide_eq_true P,an,AJ,AQ,AZ]);have S:=fQ (show within r.places c.args=true from I);have Y:=fQ (show within r.places c.outs=true from M);have aq:=fQ (show decide c.outs.Nodup=true from decide_eq_true P);have av:=fQ (show within r.code.length c.to=true from an);clear E F H I M P an;go_wp2_with fail;refine(pX r.places _ c.args _ m.out (by omega)).mono ?_;rintro G K ⟨rfl,d⟩;rw[S.out];have k:=fQ (k.out.trans (d.mono k.out.size));have f:=fQ (f.out.below d f.out.lt);have g:=fQ (g.out.below d g.out.lt);have j:=fQ (j.out.below d j.out.lt);have m:=fQ (m.out.below d (Aj _));have l:=fQ (l.out.below d (Aj _));have p:=fQ (p.out.below d (Aj _));clear d;clear q s t u v x y z B C s0 s1 s2 s3 s4;obtain⟨q,s,t,u,v⟩:=gQ f.out;obtain⟨x,y,z,B,C⟩:=gQ g.out;obtain⟨s0,s1,s2,s3,s4⟩:=gQ j.out;go_wp2_with fail;refine(pX r.places _ c.outs _ l.out (by omega)).mono ?_;rintro G K ⟨rfl,d⟩;rw[Y.out];have k:=fQ (k.out.trans (d.mono k.out.size));have f:=fQ (f.out.below d f.out.lt);have g:=fQ (g.out.below d g.out.lt);have j:=fQ (j.out.below d j.out.lt);have m:=fQ (m.out.below d (Aj _));have l:=fQ (l.out.below d (Aj _));have p:=fQ (p.out.below d (Aj _));clear d;clear q s t u v x y z B C s0 s1 s2 s3 s4;obtain⟨q,s,t,u,v⟩:=gQ f.out;obtain⟨x,y,z,B,C⟩:=gQ g.out;obtain⟨s0,s1,s2,s3,s4⟩:=gQ j.out;go_wp2_with fail;refine(aZl _ c.outs _ l.out (by omega) (fun A n c h=>by injection h with e1 e2 e3;omega)).mono ?_;rintro G K ⟨rfl,rfl⟩;rw[aq.out];go_wp2_with fail;refine(pX r.code.length _ c.to _ p.out (by omega)).mono ?_;rintro G K ⟨rfl,d⟩;rw[av.out];have k:=fQ (k.out.trans (d.mono k.out.size));have f:=fQ (f.out.below d f.out.lt);have g:=fQ (g.out.below d g.out.lt);have j:=fQ (j.out.below d j.out.lt);have m:=fQ (m.out.below d (Aj _));have l:=fQ (l.out.below d (Aj _));have p:=fQ (p.out.below d (Aj _));clear d;clear q s t u v x y z B C s0 s1 s2 s3 s4;obtain⟨q,s,t,u,v⟩:=gQ f.out;obtain⟨x,y,z,B,C⟩:=gQ g.out;obtain⟨s0,s1,s2,s3,s4⟩:=gQ j.out;go_wp2;go_ret;exact⟨by rw[D.out];rfl,k.out⟩
          | false=>
           have Q:decide ((c.n:Int)<=(most:Int))=true:=(by simp;omega);have R:c.n<=most:=(by omega);have U:((c.args.length:Int) == (i.length:Int))=true:=(by simp;omega);have V:(c.args.length == i.length)=true:=(by simp;omega);have W:((c.outs.length:Int) == (o.length:Int))=true:=(by simp;omega);have X:(c.outs.length == o.length)=true:=(by simp;omega);have g4:decide (a<=(c.to.length:Int))=true:=(by simpa using J);have g5:decide ((c.to.length:Int)<=b)=true:=(by simpa using L);have D:=fQ (show codeOk e r c=false by rw[O.out];simp only[yW,decide_eq_true E,decide_eq_true F,decide_eq_true H,decide_eq_true J,decide_eq_true L,I,M,decide_eq_true P,an,AJ,AQ,AZ]);have S:=fQ (show within r.places c.args=true from I);have Y:=fQ (show within r.places c.outs=true from M);have aq:=fQ (show decide c.outs.Nodup=true from decide_eq_true P);have av:=fQ (show within r.code.length c.to=false from an);clear E F H I M P an;go_wp2_with fail;refine(pX r.places _ c.args _ m.out (by omega)).mono ?_;rintro G K ⟨rfl,d⟩;rw[S.out];have k:=fQ (k.out.trans (d.mono k.out.size));have f:=fQ (f.out.below d f.out.lt);have g:=fQ (g.out.below d g.out.lt);have j:=fQ (j.out.below d j.out.lt);have m:=fQ (m.out.below d (Aj _));have l:=fQ (l.out.below d (Aj _));have p:=fQ (p.out.below d (Aj _));clear d;clear q s t u v x y z B C s0 s1 s2 s3 s4;obtain⟨q,s,t,u,v⟩:=gQ f.out;obtain⟨x,y,z,B,C⟩:=gQ g.out;obtain⟨s0,s1,s2,s3,s4⟩:=gQ j.out;go_wp2_with fail;refine(pX r.places _ c.outs _ l.out (by omega)).mono ?_;rintro G K ⟨rfl,d⟩;rw[Y.out];have k:=fQ (k.out.trans (d.mono k.out.size));have f:=fQ (f.out.below d f.out.lt);have g:=fQ (g.out.below d g.out.lt);have j:=fQ (j.out.below d j.out.lt);have m:=fQ (m.out.below d (Aj _));have l:=fQ (l.out.below d (Aj _));have p:=fQ (p.out.below d (Aj _));clear d;clear q s t u v x y z B C s0 s1 s2 s3 s4;obtain⟨q,s,t,u,v⟩:=gQ f.out;obtain⟨x,y,z,B,C⟩:=gQ g.out;obtain⟨s0,s1,s2,s3,s4⟩:=gQ j.out;go_wp2_with fail;refine(aZl _ c.outs _ l.out (by omega) (fun A n c h=>by injection h with e1 e2 e3;omega)).mono ?_;rintro G K ⟨rfl,rfl⟩;rw[aq.out];go_wp2_with fail;refine(pX r.code.length _ c.to _ p.out (by omega)).mono ?_;rintro G K ⟨rfl,d⟩;rw[av.out];have k:=fQ (k.out.trans (d.mono k.out.size));have f:=fQ (f.out.below d f.out.lt);have g:=fQ (g.out.below d g.out.lt);have j:=fQ (j.out.below d j.out.lt);have m:=fQ (m.out.below d (Aj _));have l:=fQ (l.out.below d (Aj _));have p:=fQ (p.out.below d (Aj _));clear d;clear q s t u v x y z B C s0 s1 s2 s3 s4;obtain⟨q,s,t,u,v⟩:=gQ f.out;obtain⟨x,y,z,B,C⟩:=gQ g.out;obtain⟨s0,s1,s2,s3,s4⟩:=gQ j.out;go_wp2;go_ret;exact⟨by rw[D.out];rfl,k.out⟩
         ·have Q:decide ((c.n:Int)<=(most:Int))=true:=(by simp;omega);have R:c.n<=most:=(by omega);have U:((c.args.length:Int) == (i.length:Int))=true:=(by simp;omega);have V:(c.args.length == i.length)=true:=(by simp;omega);have W:((c.outs.length:Int) == (o.length:Int))=true:=(by simp;omega);have X:(c.outs.length == o.length)=true:=(by simp;omega);have g4:decide (a<=(c.to.length:Int))=true:=(by simpa using J);have g5:decide ((c.to.length:Int)<=b)=true:=(by simpa using L);have D:=fQ (show codeOk e r c=false by rw[O.out];simp only[yW,decide_eq_true E,decide_eq_true F,decide_eq_true H,decide_eq_true J,decide_eq_true L,I,M,decide_eq_false P,AJ,AQ,AZ]);have S:=fQ (show within r.places c.args=true from I);have Y:=fQ (show within r.places c.outs=true from M);have aq:=fQ (show decide c.outs.Nodup=false from decide_eq_false P);clear E F H I M P;go_wp2_with fail;refine(pX r.places _ c.args _ m.out (by omega)).mono ?_;rintro G K ⟨rfl,d⟩;rw[S.out];have k:=fQ (k.out.trans (d.mono k.out.size));have f:=fQ (f.out.below d f.out.lt);have g:=fQ (g.out.below d g.out.lt);have j:=fQ (j.out.below d j.out.lt);have m:=fQ (m.out.below d (Aj _));have l:=fQ (l.out.below d (Aj _));have p:=fQ (p.out.below d (Aj _));clear d;clear q s t u v x y z B C s0 s1 s2 s3 s4;obtain⟨q,s,t,u,v⟩:=gQ f.out;obtain⟨x,y,z,B,C⟩:=gQ g.out;obtain⟨s0,s1,s2,s3,s4⟩:=gQ j.out;go_wp2_with fail;refine(pX r.places _ c.outs _ l.out (by omega)).mono ?_;rintro G K ⟨rfl,d⟩;rw[Y.out];have k:=fQ (k.out.trans (d.mono k.out.size));have f:=fQ (f.out.below d f.out.lt);have g:=fQ (g.out.below d g.out.lt);have j:=fQ (j.out.below d j.out.lt);have m:=fQ (m.out.below d (Aj _));have l:=fQ (l.out.below d (Aj _));have p:=fQ (p.out.below d (Aj _));clear d;clear q s t u v x y z B C s0 s1 s2 s3 s4;obtain⟨q,s,t,u,v⟩:=gQ f.out;obtain⟨x,y,z,B,C⟩:=gQ g.out;obtain⟨s0,s1,s2,s3,s4⟩:=gQ j.out;go_wp2_with fail;refine(aZl _ c.outs _ l.out (by omega) (fun A n c h=>by injection h with e1 e2 e3;omega)).mono ?_;rintro G K ⟨rfl,rfl⟩;rw[aq.out];go_wp2;go_ret;exact⟨by rw[D.out];rfl,k.out⟩
        | false=>
         have Q:decide ((c.n:Int)<=(most:Int))=true:=(by simp;omega);have R:c.n<=most:=(by omega);have U:((c.args.length:Int) == (i.length:Int))=true:=(by simp;omega);have V:(c.args.length == i.length)=true:=(by simp;omega);have W:((c.outs.length:Int) == (o.length:Int))=true:=(by simp;omega);have X:(c.outs.length == o.length)=true:=(by simp;omega);have g4:decide (a<=(c.to.length:Int))=true:=(by simpa using J);have g5:decide ((c.to.length:Int)<=b)=true:=(by simpa using L);have D:=fQ (show codeOk e r c=false by rw[O.out];simp only[yW,decide_eq_true E,decide_eq_true F,decide_eq_true H,decide_eq_true J,decide_eq_true L,I,M,AJ,AQ,AZ]);have S:=fQ (show within r.places c.args=true from I);have Y:=fQ (show within r.places c.outs=false from M);clear E F H I M;go_wp2_with fail;refine(pX r.places _ c.args _ m.out (by omega)).mono ?_;rintro G K ⟨rfl,d⟩;rw[S.out];have k:=fQ (k.out.trans (d.mono k.out.size));have f:=fQ (f.out.below d f.out.lt);have g:=fQ (g.out.below d g.out.lt);have j:=fQ (j.out.below d j.out.lt);have m:=fQ (m.out.below d (Aj _));have l:=fQ (l.out.below d (Aj _));have p:=fQ (p.out.below d (Aj _));clear d;clear q s t u v x y z B C s0 s1 s2 s3 s4;obtain⟨q,s,t,u,v⟩:=gQ f.out;obtain⟨x,y,z,B,C⟩:=gQ g.out;obtain⟨s0,s1,s2,s3,s4⟩:=gQ j.out;go_wp2_with fail;refine(pX r.places _ c.outs _ l.out (by omega)).mono ?_;rintro G K ⟨rfl,d⟩;rw[Y.out];have k:=fQ (k.out.trans (d.mono k.out.size));have f:=fQ (f.out.below d f.out.lt);have g:=fQ (g.out.below d g.out.lt);have j:=fQ (j.out.below d j.out.lt);have m:=fQ (m.out.below d (Aj _));have l:=fQ (l.out.below d (Aj _));have p:=fQ (p.out.below d (Aj _));clear d;clear q s t u v x y z B C s0 s1 s2 s3 s4;obtain⟨q,s,t,u,v⟩:=gQ f.out;obtain⟨x,y,z,B,C⟩:=gQ g.out;obtain⟨s0,s1,s2,s3,s4⟩:=gQ j.out;go_wp2;go_ret;exact⟨by rw[D.out];rfl,k.out⟩
       | false=>
        have Q:decide ((c.n:Int)<=(most:Int))=true:=(by simp;omega);have R:c.n<=most:=(by omega);have U:((c.args.length:Int) == (i.length:Int))=true:=(by simp;omega);have V:(c.args.length == i.length)=true:=(by simp;omega);have W:((c.outs.length:Int) == (o.length:Int))=true:=(by simp;omega);have X:(c.outs.length == o.length)=true:=(by simp;omega);have g4:decide (a<=(c.to.length:Int))=true:=(by simpa using J);have g5:decide ((c.to.length:Int)<=b)=true:=(by simpa using L);have D:=fQ (show codeOk e r c=false by rw[O.out];simp only[yW,decide_eq_true E,decide_eq_true F,decide_eq_true H,decide_eq_true J,decide_eq_true L,I,AJ,AQ,AZ]);have S:=fQ (show within r.places c.args=false from I);clear E F H I;go_wp2_with fail;refine(pX r.places _ c.args _ m.out (by omega)).mono ?_;rintro G K ⟨rfl,d⟩;rw[S.out];have k:=fQ (k.out.trans (d.mono k.out.size));have f:=fQ (f.out.below d f.out.lt);have g:=fQ (g.out.below d g.out.lt);have j:=fQ (j.out.below d j.out.lt);have m:=fQ (m.out.below d (Aj _));have l:=fQ (l.out.below d (Aj _));have p:=fQ (p.out.below d (Aj _));clear d;clear q s t u v x y z B C s0 s1 s2 s3 s4;obtain⟨q,s,t,u,v⟩:=gQ f.out;obtain⟨x,y,z,B,C⟩:=gQ g.out;obtain⟨s0,s1,s2,s3,s4⟩:=gQ j.out;go_wp2;go_ret;exact⟨by rw[D.out];rfl,k.out⟩
      ·have Q:decide ((c.n:Int)<=(most:Int))=true:=(by simp;omega);have R:c.n<=most:=(by omega);have U:((c.args.length:Int) == (i.length:Int))=true:=(by simp;omega);have V:(c.args.length == i.length)=true:=(by simp;omega);have W:((c.outs.length:Int) == (o.length:Int))=true:=(by simp;omega);have X:(c.outs.length == o.length)=true:=(by simp;omega);have g4:decide (a<=(c.to.length:Int))=true:=(by simpa using J);have g5:decide ((c.to.length:Int)<=b)=false:=(by simpa using L);have D:=fQ (show codeOk e r c=false by rw[O.out];simp only[yW,decide_eq_true E,decide_eq_true F,decide_eq_true H,decide_eq_true J,decide_eq_false L,AJ,AQ,AZ]);clear E F H;go_wp2;go_ret;exact⟨by rw[D.out];rfl,k.out⟩
     ·have Q:decide ((c.n:Int)<=(most:Int))=true:=(by simp;omega);have R:c.n<=most:=(by omega);have U:((c.args.length:Int) == (i.length:Int))=true:=(by simp;omega);have V:(c.args.length == i.length)=true:=(by simp;omega);have W:((c.outs.length:Int) == (o.length:Int))=true:=(by simp;omega);have X:(c.outs.length == o.length)=true:=(by simp;omega);have g4:decide (a<=(c.to.length:Int))=false:=(by simpa using J);have D:=fQ (show codeOk e r c=false by rw[O.out];simp only[yW,decide_eq_true E,decide_eq_true F,decide_eq_true H,decide_eq_false J,AJ,AQ,AZ]);clear E F H;go_wp2;go_ret;exact⟨by rw[D.out];rfl,k.out⟩
    ·have Q:decide ((c.n:Int)<=(most:Int))=true:=(by simp;omega);have R:c.n<=most:=(by omega);have U:((c.args.length:Int) == (i.length:Int))=true:=(by simp;omega);have V:(c.args.length == i.length)=true:=(by simp;omega);have W:((c.outs.length:Int) == (o.length:Int))=false:=(by simp;omega);have X:(c.outs.length == o.length)=false:=(by simp;omega);have D:=fQ (show codeOk e r c=false by rw[O.out];simp only[yW,decide_eq_true E,decide_eq_true F,decide_eq_false H,AJ,AQ,AZ]);clear E F H;go_wp2;go_ret;exact⟨by rw[D.out];rfl,k.out⟩
   ·have Q:decide ((c.n:Int)<=(most:Int))=true:=(by simp;omega);have R:c.n<=most:=(by omega);have U:((c.args.length:Int) == (i.length:Int))=false:=(by simp;omega);have V:(c.args.length == i.length)=false:=(by simp;omega);have D:=fQ (show codeOk e r c=false by rw[O.out];simp only[yW,decide_eq_true E,decide_eq_false F,AJ,AQ,AZ]);clear E F;go_wp2;go_ret;exact⟨by rw[D.out];rfl,k.out⟩
  ·have Q:decide ((c.n:Int)<=(most:Int))=false:=(by simp;omega);have R:¬c.n<=most:=(by omega);have D:=fQ (show codeOk e r c=false by rw[O.out];simp only[yW,decide_eq_false E,AJ,AQ,AZ]);clear E;go_wp2;go_ret;exact⟨by rw[D.out];rfl,k.out⟩
theorem al2(w:Ba)(a b:Obj):Bc w.heap.size w ((w.alloc a).alloc b):=((AX _ _).alloc (Aj _) _).alloc (by simp) _
def bYh(c:CodeD)(i:Nat)(w:Ba)(e:Ending)(w':Ba):Prop:=∃ v,e = .returned v/\IR w' v (nextOf c i)/\Bc w.heap.size w w'
theorem dQt(r:RowD)(m:Bb)(i:Nat)(c:CodeD)(w:Ba)(hr:RowV w m r)(hi:r.code[i]? = some c)(s:c.op=274->0<c.to.length):
  Calls fZ 102 #[m,.int .i64 (i:Int)] w (bYh c i w):=by
 obtain⟨vp,vq,m,vs,rfl,u,v,z,e⟩:=hr;obtain⟨Ap,cp,rfl⟩:=u.shape;obtain⟨Aq,cq,rfl⟩:=v.shape;obtain⟨Ar,cr,rfl⟩:=z.shape;obtain⟨Ac,cc,rfl,_⟩:=e.len;have l7:=e.fQb;have ao:i<r.code.length:=(List.getElem?_eq_some_iff.1 hi).1;have ah:(i:Int)<(r.code.length:Int):=(by omega);obtain⟨A,go,p,q,t,rfl,aq,c0,c1,c2,c3,c4,s0,s1,s2,s3⟩:=e.code hi;obtain⟨pA,pc,rfl⟩:=s1.shape;obtain⟨qA,qc,rfl⟩:=s2.shape;obtain⟨tA,tc,rfl⟩:=s3.shape;have ai:A<w.heap.size+1:=(by omega);have aj:A<w.heap.size+1+1:=(by omega);have o:=fQ s3.ir;have B:=fQ s;clear u v z e hi s0 s1 s2 s3 s;obtain⟨op,n,args,outs,to⟩:=c;simp only at *;by_cases f:op=276
 ·subst f;have b:=fQ (show nextOf ⟨276,n,args,outs,to⟩ i = [] by simp[nextOf]);go_in;go_wp2;go_ret;refine⟨_,rfl,?_,al2 _ _ _⟩;rw[b.out];exact IR.nil _
 by_cases g:op=277
 ·subst g;have b:=fQ (show nextOf ⟨277,n,args,outs,to⟩ i = [] by simp[nextOf]);go_in;go_wp2;go_ret;refine⟨_,rfl,?_,al2 _ _ _⟩;rw[b.out];exact IR.nil _
 by_cases h:op=273
 ·subst h;have b:=fQ (show nextOf ⟨273,n,args,outs,to⟩ i=to by simp[nextOf]);go_in;go_wp2;go_ret;refine⟨_,rfl,?_,al2 _ _ _⟩;rw[b.out];exact o.out.below (al2 _ _ _) (Aj _)
 by_cases j:op=275
 ·subst j;have b:=fQ (show nextOf ⟨275,n,args,outs,to⟩ i=to by simp[nextOf]);go_in;go_wp2;go_ret;refine⟨_,rfl,?_,al2 _ _ _⟩;rw[b.out];exact o.out.below (al2 _ _ _) (Aj _)
 by_cases k:op=274
 ·subst k;have C:=B.out rfl;have ar:(0:Int)<(to.length:Int):=(by omega);obtain⟨x,d⟩:∃ x,to[0]? = some x:=⟨_,Az C⟩;obtain⟨tb,t0,rfl,au,D⟩:=o.out.cell d;rw[BW]at D;have al:tb<w.heap.size+1:=(by omega);have an:tb<w.heap.size+1+1:=(by omega)
  have E:=fQ (show to.headD 0=x by cases to with
   | nil=>simp at d
   | cons a l=>simp at d;exact d)
  clear d;have b:=fQ (show nextOf ⟨274,n,args,outs,to⟩ i = [(i:Int)+1,to.headD 0] by simp[nextOf]);go_in;go_wp2;go_ret;refine⟨_,rfl,?_,al3 _ _ _ _⟩;rw[b.out,E.out];exact IR.two (x:=(i:Int)+1) (y:=x) (Blk.newAt _ _ _ (by simp))
 have f276:(op == 276)=false:=(by simpa using f);have f277:(op == 277)=false:=(by simpa using g);have f273:(op == 273)=false:=(by simpa using h);have f275:(op == 275)=false:=(by simpa using j);have f274:(op == 274)=false:=(by simpa using k);have b:=fQ (show nextOf ⟨op,n,args,outs,to⟩ i = [(i:Int)+1] by simp[nextOf,f,g,h,j,k]);clear f g h j k;go_in;go_wp2;go_ret;refine⟨_,rfl,?_,al3 _ _ _ _⟩;rw[b.out];exact IR.one (x:=(i:Int)+1) (Blk.newAt _ _ _ (by simp))
theorem bKm(r:RowD)(m:Bb)(i:Nat)(c:CodeD)(w:Ba)(hr:RowV w m r)(hi:r.code[i]? = some c)(s:c.op=274->0<c.to.length):
  Calls fZ 69 #[m,.int .i64 (i:Int)] w (bYh c i w):=by
 obtain⟨vp,vq,m,vs,rfl,u,v,z,e⟩:=hr;obtain⟨Ap,cp,rfl⟩:=u.shape;obtain⟨Aq,cq,rfl⟩:=v.shape;obtain⟨Ar,cr,rfl⟩:=z.shape;obtain⟨Ac,cc,rfl,_⟩:=e.len;have l7:=e.fQb;have ao:i<r.code.length:=(List.getElem?_eq_some_iff.1 hi).1;have ah:(i:Int)<(r.code.length:Int):=(by omega);obtain⟨A,go,p,q,t,rfl,aq,c0,c1,c2,c3,c4,s0,s1,s2,s3⟩:=e.code hi;obtain⟨pA,pc,rfl⟩:=s1.shape;obtain⟨qA,qc,rfl⟩:=s2.shape;obtain⟨tA,tc,rfl⟩:=s3.shape;have ai:A<w.heap.size+1:=(by omega);have aj:A<w.heap.size+1+1:=(by omega);have o:=fQ s3.ir;have B:=fQ s;clear u v z e hi s0 s1 s2 s3 s;obtain⟨op,n,args,outs,to⟩:=c;simp only at *;by_cases f:op=276
 ·subst f;have b:=fQ (show nextOf ⟨276,n,args,outs,to⟩ i = [] by simp[nextOf]);go_in;go_wp2;go_ret;refine⟨_,rfl,?_,al2 _ _ _⟩;rw[b.out];exact IR.nil _
 by_cases g:op=277
 ·subst g;have b:=fQ (show nextOf ⟨277,n,args,outs,to⟩ i = [] by simp[nextOf]);go_in;go_wp2;go_ret;refine⟨_,rfl,?_,al2 _ _ _⟩;rw[b.out];exact IR.nil _
 by_cases h:op=273
 ·subst h;have b:=fQ (show nextOf ⟨273,n,args,outs,to⟩ i=to by simp[nextOf]);go_in;go_wp2;go_ret;refine⟨_,rfl,?_,al2 _ _ _⟩;rw[b.out];exact o.out.below (al2 _ _ _) (Aj _)
 by_cases j:op=275
 ·subst j;have b:=fQ (show nextOf ⟨275,n,args,outs,to⟩ i=to by simp[nextOf]);go_in;go_wp2;go_ret;refine⟨_,rfl,?_,al2 _ _ _⟩;rw[b.out];exact o.out.below (al2 _ _ _) (Aj _)
 by_cases k:op=274
 ·subst k;have C:=B.out rfl;have ar:(0:Int)<(to.length:Int):=(by omega);obtain⟨x,d⟩:∃ x,to[0]? = some x:=⟨_,Az C⟩;obtain⟨tb,t0,rfl,au,D⟩:=o.out.cell d;rw[BW]at D;have al:tb<w.heap.size+1:=(by omega);have an:tb<w.heap.size+1+1:=(by omega)
  have E:=fQ (show to.headD 0=x by cases to with
   | nil=>simp at d
   | cons a l=>simp at d;exact d)
  clear d;have b:=fQ (show nextOf ⟨274,n,args,outs,to⟩ i = [(i:Int)+1,to.headD 0] by simp[nextOf]);go_in;go_wp2;go_ret;refine⟨_,rfl,?_,al3 _ _ _ _⟩;rw[b.out,E.out];exact IR.two (x:=(i:Int)+1) (y:=x) (Blk.newAt _ _ _ (by simp))
 have f276:(op == 276)=false:=(by simpa using f);have f277:(op == 277)=false:=(by simpa using g);have f273:(op == 273)=false:=(by simpa using h);have f275:(op == 275)=false:=(by simpa using j);have f274:(op == 274)=false:=(by simpa using k);have b:=fQ (show nextOf ⟨op,n,args,outs,to⟩ i = [(i:Int)+1] by simp[nextOf,f,g,h,j,k]);clear f g h j k;go_in;go_wp2;go_ret;refine⟨_,rfl,?_,al3 _ _ _ _⟩;rw[b.out];exact IR.one (x:=(i:Int)+1) (Blk.newAt _ _ _ (by simp))
theorem cKj(e:EnvD)(r:RowD)(c:CodeD)(f g:Nat)(ve x h:Bb)(i j:Array Bb)(w:Ba)(he:EnvV w (.agg i) e)(hr:RowV w (.agg j) r)(hc:CodeV w h c)(k:e.muts.length=e.globals.length)
  (a:Blk w f 26 i) (b:Blk w g 43 j) :
  Calls fZ 73 #[h,.pointer (some ⟨f,0,none⟩),.pointer (some ⟨g,0,none⟩)] w fun l w'=>l = .returned (.bool (!codeOk e r c))/\Bc w.heap.size w w':=by
 have y:=fQ he;have z:=fQ hr;have A:=fQ hc;have B:=fQ k;obtain⟨aj,vb,vd,d,h1,h2,C⟩:=he;obtain⟨As,cs,rfl,_⟩:=h1.len;obtain⟨Ag,cg,rfl⟩:=h2.shape;obtain⟨Am,cm,rfl,_⟩:=C;obtain⟨vp,vq,x,vs,e2,m,o,p,q⟩:=hr;obtain⟨Ap,cp,rfl⟩:=m.shape;obtain⟨Aq,cq,rfl⟩:=o.shape;obtain⟨Ar,cr,rfl⟩:=p.shape;obtain⟨Ac,cc,rfl,_⟩:=q.len;obtain⟨v2,v3,v4,rfl,D,s,t,u⟩:=hc;obtain⟨E,F,rfl⟩:=s.shape;obtain⟨G,H,rfl⟩:=t.shape;obtain⟨I,J,rfl⟩:=u.shape;injection d with d;injection e2 with e2;subst d;subst e2;obtain⟨r0,r1,r2,r3,r4⟩:=gQ b;obtain⟨d0,d1,d2,d3,d4⟩:=gQ a;have ak:=b.lt;have al:=a.lt;clear h1 h2 m o p q s t u a b k D;go_in;go_wp2_with fail;have B0:=fQ (show Bc w.heap.size w (w.alloc (.cells #[.int .i64 c.op,.int .u64 (c.n:Int),.slice E c.args.length F,.slice G c.outs.length H,.slice I c.to.length J] 52))from(AX _ _).alloc (Aj _) _);refine(bZd e r c _ _ _ _ (y.out.below B0.out (Aj _)) (z.out.below B0.out (Aj _)) (A.out.below B0.out (Aj _)) B.out).mono ?_;rintro l w1 ⟨rfl,v⟩;have K:=fQ (B0.out.trans (v.mono B0.out.size));clear v;go_wp2;go_ret;exact⟨rfl,K.out⟩
def edges(r:RowD)(i:Nat):List Int:=match r.code[i]? with
 | some c=>if c.op=258 then[]else nextOf c i
 | none=>[]
theorem bXa{r:RowD}{c:CodeD}(h:r.code[i]? = some c)(hc:c.op≠258):edges r i=nextOf c i:=by simp[edges,h,hc]
theorem bXu{r:RowD}{c:CodeD}(h:r.code[i]? = some c)(hc:c.op=258):edges r i = []:=by simp[edges,h,hc]
def DoneL(r:RowD)(D:List Nat):Prop:=∀ p i,D[p]? = some i->∀ k:Nat,(k:Int)∈edges r i->k∈D.take p
theorem DoneL.nil(r:RowD):DoneL r []:=fun p i h=>by simp at h
theorem DoneL.push{r:RowD}(h:DoneL r D)(b:∀ k:Nat,(k:Int)∈edges r i->k∈D):DoneL r (D ++ [i]):=by
 intro p j hj k a;by_cases hp:p<D.length
 ·rw[Ax hp]at hj;rw[AW (by omega)];exact h p j hj k a
 ·rw[Ak (by omega)]at hj
  have c:p - D.length=0:=by
   have:=(List.getElem?_eq_some_iff.1 hj).1;simp at this;omega
  rw[c]at hj;simp at hj;subst hj;have d:p=D.length:=(by omega);rw[d,AW (Aj _),AY (Aj _)];exact b k a
theorem bWr{p:Nat}(h:k∈D.take p):D.idxOf k<p:=by
 induction D generalizing p with
 | nil=>simp at h
 | cons a D b=>
  cases p with
  | zero=>simp at h
  | succ p=>
   rw[List.take_succ_cons]at h;rw[List.idxOf_cons];by_cases e:a=k
   ·subst e;simp
   ·have c:k∈D.take p:=by
     rcases List.mem_cons.1 h with h | h
     ·exact absurd h.symm e
     ·exact h
    have:=b c;have e':(a == k)=false:=(by simp[e]);rw[e'];simp;exact this
theorem DoneL.fXi{r:RowD}(h:DoneL r D)(a:∀ i,i<r.code.length->i∈D):Ranked r:=by
 refine⟨fun i=>D.idxOf i,fun i c k hi hc b=>?_⟩;have d:=a i (List.getElem?_eq_some_iff.1 hi).1;have e:D.idxOf i<D.length:=List.idxOf_lt_length_iff.2 d;have hg:D[D.idxOf i]? = some i:=(by rw[Az e];simp);exact bWr (h _ i hg k (by rw[bXa hi hc];exact b))
theorem bXv{r:RowD}{S:Nat->Prop}(b:∃ i,S i)(h:∀ i,S i->∃ k:Nat,(k:Int)∈edges r i/\S k):¬Ranked r:=by
 rintro⟨rk,hr⟩
 have key:∀ m i,rk i=m->S i->False:=by
  intro m
  induction m using Nat.strongRecOn with
  | _ m d=>
   intro i hm hs;obtain⟨k,a,e⟩:=h i hs;unfold edges at a
   split at a
   ·rename_i c hc
    split at a
    ·simp at a
    ·rename_i f;have:=hr i c k hc f a;exact d (rk k) (by omega) k rfl e
   ·simp at a
 obtain⟨i,hi⟩:=b;exact key _ i rfl hi
abbrev Stk:=List (Nat×List Int)
def ints'(e:Nat×List Int):List Int:=(e.1:Int) :: e.2
structure RInv (r:RowD) (st:List Int) (stk:Stk) (D:List Nat):Prop where
 len:st.length=r.code.length
 done:DoneL r D
 two:∀ i:Nat,st[i]? = some 2↔i∈D
 one:∀ i:Nat,st[i]? = some 1↔i∈stk.map (·.1)
 vals:∀ (i:Nat) v,st[i]? = some v->v=0\/v=1\/v=2
 nod:(stk.map (·.1)).Nodup
 ent:∀ (j:Nat) e,stk[j]? = some e->∃ proc,edges r e.1=e.2++proc/\∀ x∈proc,(∃ k:Nat,x=k/\k∈D)\/(∃ e',stk[j+1]? = some e'/\x=(e'.1:Int))
 lead:∀ (j:Nat) e e',stk[j]? = some e->stk[j+1]? = some e'->(e'.1:Int)∈edges r e.1
theorem RInv.lt{r:RowD}{stk:Stk}(h:RInv r st stk D){e:Nat×List Int}(he:e∈stk):e.1<r.code.length:=by
 have:=(h.one e.1).2 (List.mem_map.2 ⟨e,he,rfl⟩);rw[<-h.len];exact(List.getElem?_eq_some_iff.1 this).1
theorem RInv.small{r:RowD}{stk:Stk}(h:RInv r st stk D):stk.length<=r.code.length:=by
 have h1:(stk.map (·.1)).length<=(List.range r.code.length).length:=
  List.Nodup.length_le_of_subset h.nod fun x a=>by
   obtain⟨e,he,rfl⟩:=List.mem_map.1 a;exact List.mem_range.2 (h.lt he)
 simpa using h1
theorem RInv.start{r:RowD}:RInv r (AK r.code.length 0) [] [] where
 len:=by simp
 done:=DoneL.nil r
 two i:=⟨fun h=>by
  obtain⟨a,h⟩:=List.getElem?_eq_some_iff.1 h
  simp at h,fun h=>by simp at h⟩
 one i:=⟨fun h=>by
  obtain⟨a,h⟩:=List.getElem?_eq_some_iff.1 h
  simp at h,fun h=>by simp at h⟩
 vals i v h:=by
  obtain⟨a,h⟩:=List.getElem?_eq_some_iff.1 h;simp at h;omega
 nod:=by simp
 ent j e h:=by simp at h
 lead j e e' h:=by simp at h
theorem RInv.open{r:RowD}{S:Stk}(h:RInv r st S D)(g:st[k]? = some 0)(o:∀ e,S[S.length - 1]? = some e->(k:Int)∈edges r e.1)
  : RInv r (st.set k 1) (S ++ [(k,edges r k)]) D:=by
 have l:=(List.getElem?_eq_some_iff.1 g).1
 have hn:k ∉ S.map (·.1):=fun p=>by have:=(h.one k).2 p;rw[g]at this;injection this with this;omega
 refine { len:=by simp[h.len],done:=h.done,two:=fun i=>?_,one:=fun i=>?_,vals:=fun i v d=>?_,nod:=?_,ent:=fun j e he=>?_,lead:=fun j e e' he c=>?_ }
 ·by_cases e:k=i
  ·subst e;rw[Aw l];constructor
   ·intro e;injection e with e;omega
   ·intro hd;have:=(h.two k).2 hd;rw[g]at this;injection this with this;omega
  ·rw[Ay e];exact h.two i
 ·rw[Bk,Bz];by_cases e:k=i
  ·subst e;rw[Aw l];simp
  ·rw[Ay e,h.one i];constructor
   ·exact .inl
   ·rintro(h | h)
    ·exact h
    ·simp at h;exact absurd h.symm e
 ·by_cases e:k=i
  ·subst e;rw[Aw l]at d;injection d with d;omega
  ·rw[Ay e]at d;exact h.vals i v d
 ·rw[Bk,Ah];refine⟨h.nod,by simp,fun a ha b m e=>?_⟩;simp at m;subst m;subst e;exact hn ha
 ·by_cases hj:j<S.length
  ·rw[Ax hj]at he;obtain⟨proc,h1,h2⟩:=h.ent j e he;refine⟨proc,h1,fun x q=>?_⟩;rcases h2 x q with f | ⟨e',f,s⟩
   ·exact .inl f
   ·exact .inr ⟨e',by rw[Ax (List.getElem?_eq_some_iff.1 f).1];exact f,s⟩
  ·rw[Ak (by omega)]at he
   have t:j - S.length=0:=by
    have:=(List.getElem?_eq_some_iff.1 he).1;simp at this;omega
   rw[t]at he;simp at he;subst he;exact⟨[],by simp,by simp⟩
 ·by_cases hj:j+1<S.length
  ·rw[Ax (by omega)]at he;rw[Ax hj]at c;exact h.lead j e e' he c
  ·have n:j+1=S.length:=by
    have:=(List.getElem?_eq_some_iff.1 c).1;simp at this;omega
   rw[Ax (by omega)]at he;rw[Ak (by omega),n,Aa]at c;simp at c;subst c;exact o e (by rw[<-n];simpa using he)
theorem RInv.fresh{r:RowD}{S:Stk}{rest:List Int}(h:RInv r st (S ++ [(t,rest ++ [(k:Int)])]) D)(l:st[k]? = some 0)
  : RInv r (st.set k 1) (S ++ [(t,rest)] ++ [(k,edges r k)]) D:=by
 have hm:(S ++ [(t,rest)]).map (·.1)=(S ++ [(t,rest ++ [(k:Int)])]).map (·.1):=by simp
 have m:(k:Int)∈edges r t:=by
  have d:(S ++ [(t,rest ++ [(k:Int)])])[S.length]? = some (t,rest ++ [(k:Int)]):=(by simp);obtain⟨proc,h1,h2⟩:=h.ent _ _ d;rw[h1];simp
 have b:=h.open l (fun e he=>by
  have:(S ++ [(t,rest ++ [(k:Int)])]).length - 1=S.length:=(by simp);rw[this]at he;simp at he;subst he
  exact m)
 refine { len:=b.len,done:=b.done,two:=b.two,one:=fun i=>?_,vals:=b.vals,nod:=?_,ent:=fun j e he=>?_,lead:=fun j e e' he n=>?_ }
 ·rw[b.one i];simp
 ·have:=b.nod;simpa using this
 ·by_cases hj:j<S.length
  ·have d:(S ++ [(t,rest ++ [(k:Int)])] ++ [(k,edges r k)])[j]? = some e:=by
    rw[AV,Ax hj];rw[AV,Ax hj]at he;exact he
   obtain⟨proc,h1,h2⟩:=b.ent j e d;refine⟨proc,h1,fun x c=>?_⟩;rcases h2 x c with a | ⟨e',a,f⟩
   ·exact .inl a
   ·right
    by_cases o:j+1<S.length
    ·refine⟨e',?_,f⟩;rw[AV,Ax o]at a ⊢;exact a
    ·have g:j+1=S.length:=(by omega);rw[AV,Ak (by omega),g,Aa]at a;simp at a;subst a;refine⟨(t,rest),?_,f⟩;rw[AV,Ak (by omega),g,Aa];simp
  ·by_cases p:j=S.length
   ·subst p;rw[AV,Ak (Aj _),Aa]at he;simp at he;subst he;have d:(S ++ [(t,rest ++ [(k:Int)])])[S.length]? = some (t,rest ++ [(k:Int)]):=(by simp);obtain⟨proc,h1,h2⟩:=h.ent _ _ d;refine⟨(k:Int) :: proc,by rw[h1];simp,fun x c=>?_⟩;rcases List.mem_cons.1 c with c | c
    ·right
     refine⟨(k,edges r k),?_,c⟩;rw[AV,Ak (by omega)];simp
    ·rcases h2 x c with a | ⟨e',a,f⟩
     ·exact .inl a
     ·simp at a
   ·have s:j=S.length+1:=by
     have:=(List.getElem?_eq_some_iff.1 he).1;simp at this;omega
    subst s;rw[AV,Ak (by omega)]at he;simp at he;subst he;exact⟨[],by simp,by simp⟩
 ·have m1:(S ++ [(t,rest)] ++ [(k,edges r k)]).map (·.1)=(S ++ [(t,rest ++ [(k:Int)])] ++ [(k,edges r k)]).map (·.1):=by simp
  have q:∀ (j:Nat) e,(S ++ [(t,rest)] ++ [(k,edges r k)])[j]? = some e->∃ e2,(S ++ [(t,rest ++ [(k:Int)])] ++ [(k,edges r k)])[j]? = some e2/\e2.1=e.1:=by
   intro j e he
   have h1:((S ++ [(t,rest)] ++ [(k,edges r k)]).map (·.1))[j]? = some e.1:=by rw[Ae,he];rfl
   rw[m1,Ae,Bj]at h1;exact h1
  obtain⟨e2,u,v⟩:=q j e he;obtain⟨w,y,z⟩:=q (j+1) e' n;have:=b.lead j e2 w u y
  rwa[v,z]at this
theorem RInv.skip{r:RowD}{S:Stk}{rest:List Int}(h:RInv r st (S ++ [(t,rest ++ [(k:Int)])]) D)(g:st[k]? = some 2)
  : RInv r st (S ++ [(t,rest)]) D:=by
 refine { len:=h.len,done:=h.done,two:=h.two,one:=fun i=>?_,vals:=h.vals,nod:=?_,ent:=fun j e he=>?_,lead:=fun j e e' he l=>?_ }
 ·rw[h.one i];simp
 ·have:=h.nod;simpa using this
 ·by_cases hj:j<S.length
  ·have c:(S ++ [(t,rest ++ [(k:Int)])])[j]? = some e:=by
    rw[Ax hj]at he ⊢;exact he
   obtain⟨proc,h1,h2⟩:=h.ent j e c;refine⟨proc,h1,fun x b=>?_⟩;rcases h2 x b with a | ⟨e',a,d⟩
   ·exact .inl a
   ·right
    by_cases m:j+1<S.length
    ·refine⟨e',?_,d⟩;rw[Ax m]at a ⊢;exact a
    ·have f:j+1=S.length:=(by omega);rw[Ak (by omega),f,Aa]at a;simp at a;subst a;refine⟨(t,rest),?_,d⟩;rw[Ak (by omega),f,Aa];simp
  ·have n:j=S.length:=by
    have:=(List.getElem?_eq_some_iff.1 he).1;simp at this;omega
   subst n;rw[Ak (Aj _),Aa]at he;simp at he;subst he;have c:(S ++ [(t,rest ++ [(k:Int)])])[S.length]? = some (t,rest ++ [(k:Int)]):=(by simp);obtain⟨proc,h1,h2⟩:=h.ent _ _ c;refine⟨(k:Int) :: proc,by rw[h1];simp,fun x b=>?_⟩;rcases List.mem_cons.1 b with b | b
   ·exact .inl ⟨k,b,(h.two k).1 g⟩
   ·rcases h2 x b with a | ⟨e',a,d⟩
    ·exact .inl a
    ·simp at a
 ·have m1:(S ++ [(t,rest)]).map (·.1)=(S ++ [(t,rest ++ [(k:Int)])]).map (·.1):=by simp
  have q:∀ (j:Nat) e,(S ++ [(t,rest)])[j]? = some e->∃ e2,(S ++ [(t,rest ++ [(k:Int)])])[j]? = some e2/\e2.1=e.1:=by
   intro j e he
   have h1:((S ++ [(t,rest)]).map (·.1))[j]? = some e.1:=by rw[Ae,he];rfl
   rw[m1,Ae,Bj]at h1;exact h1
  obtain⟨e2,o,p⟩:=q j e he;obtain⟨s,u,v⟩:=q (j+1) e' l;have:=h.lead j e2 s o u
  rwa[p,v]at this
theorem RInv.pop{r:RowD}{S:Stk}(h:RInv r st (S ++ [(t,[])]) D):RInv r (st.set t 2) S (D ++ [t]):=by
 have o:st[t]? = some 1:=(h.one t).2 (by simp);have d:=(List.getElem?_eq_some_iff.1 o).1;have f:=h.nod;rw[Bk,Ah]at f
 have p:t ∉ S.map (·.1):=fun g=>f.2.2 t g t (by simp) rfl
 have q:DoneL r (D ++ [t]):=by
  refine h.done.push fun k m=>?_;have l:(S ++ [(t,([]:List Int))])[S.length]? = some (t,[]):=(by simp);obtain⟨proc,h1,h2⟩:=h.ent _ _ l;simp only[BJ]at h1;rw[h1]at m;rcases h2 _ m with⟨k',e,hd⟩ | ⟨e',a,_⟩
  ·have:k=k':=(by omega);rw[this];exact hd
  ·simp at a
 refine { len:=by simp[h.len],done:=q,two:=fun i=>?_,one:=fun i=>?_,vals:=fun i v b=>?_,nod:=f.1,ent:=fun j e he=>?_,lead:=fun j e e' he n=>?_ }
 ·rw[Bz];by_cases e:t=i
  ·subst e;rw[Aw d];simp
  ·rw[Ay e,h.two i];constructor
   ·exact .inl
   ·rintro(h | h)
    ·exact h
    ·simp at h;exact absurd h.symm e
 ·by_cases e:t=i
  ·subst e;rw[Aw d];constructor
   ·intro e;injection e with e;omega
   ·intro g;exact absurd g p
  ·rw[Ay e,h.one i,Bk,Bz];constructor
   ·rintro(h | h)
    ·exact h
    ·simp at h;exact absurd h.symm e
   ·exact .inl
 ·by_cases e:t=i
  ·subst e;rw[Aw d]at b;injection b with b;omega
  ·rw[Ay e]at b;exact h.vals i v b
 ·have hj:j<S.length:=(List.getElem?_eq_some_iff.1 he).1;have l:(S ++ [(t,([]:List Int))])[j]? = some e:=(by rw[Ax hj];exact he);obtain⟨proc,h1,h2⟩:=h.ent j e l;refine⟨proc,h1,fun x s=>?_⟩;rcases h2 x s with⟨k,a,c⟩ | ⟨e',a,c⟩
  ·exact .inl ⟨k,a,by simp[c]⟩
  ·by_cases u:j+1<S.length
   ·rw[Ax u]at a;exact .inr ⟨e',a,c⟩
   ·have w:j+1=S.length:=(by omega);rw[Ak (by omega),w,Aa]at a;simp at a;subst a;exact .inl ⟨t,c,by simp⟩
 ·refine h.lead j e e' ?_ ?_
  ·rw[Ax (List.getElem?_eq_some_iff.1 he).1];exact he
  ·rw[Ax (List.getElem?_eq_some_iff.1 n).1];exact n
theorem RInv.fXj{r:RowD}{S:Stk}{rest:List Int}(h:RInv r st (S ++ [(t,rest ++ [(k:Int)])]) D)(g:st[k]? = some 1):¬Ranked r:=by
 have l:=(h.one k).1 g;obtain⟨p,hp⟩:=List.mem_iff_getElem?.1 l;rw[Ae,Bj]at hp;obtain⟨a,b,c⟩:=hp;refine bXv (S:=fun i=>∃ j e,p<=j/\(S ++ [(t,rest ++ [(k:Int)])])[j]? = some e/\e.1=i) ⟨k,p,a,Aj _,b,c⟩ ?_;rintro i ⟨j,e,hj,he,rfl⟩;by_cases d:j+1<(S ++ [(t,rest ++ [(k:Int)])]).length
 ·have f:=Az d;exact⟨_,h.lead j e _ he f,j+1,_,by omega,f,rfl⟩
 ·have m:j=S.length:=by
   have:=(List.getElem?_eq_some_iff.1 he).1;simp at this d;omega
  subst m;obtain⟨proc,h1,h2⟩:=h.ent _ _ he;simp at he;subst he;exact⟨k,by rw[h1];simp,p,a,Aj _,b,c⟩
theorem nV(w:Ba)(b o:Nat)(u:Bb):w.grownBy (w.setCell ⟨b,o,none⟩ u) (some b):=
 ⟨rfl,rfl,rfl,by simp,fun k _ a=>heap_setCell_other w ⟨b,o,none⟩ k u (fun e=>a (by simp[e]))⟩
theorem rQ{w':Ba}(h:Bc w.heap.size w w'):w.grownBy w' none:=⟨h.os,h.tape,h.output,h.size,fun k a _=>h.block k a⟩
theorem fV{g:Nat}{e:TypeId}{cs:Array Bb}(h:Blk w g e cs)(o:Nat)(u:Bb):Blk (w.setCell ⟨g,o,none⟩ u) g e (cs.setIfInBounds o u):=heap_setCell_same w g o cs e u h
theorem zX:(fZ.info? 23).map (fun i=>(i.zero,i.size,i.bytes))=some (some (.slice none 0 0),1,24):=by kernel_rfl
def EB(w:Ba)(gS:Nat)(v:Bb)(l:List Int):Prop:=∃ g c cur,v = .slice (some ⟨g,0,none⟩) l.length c/\Blk w g 3 cur/\g≠gS/\l.length<=c/\cur.toList.take l.length=i64s l
theorem EB.of(h:w.ownsRow base 3 1 v l.length (i64s l))(hg:gS<base)(hl:0<l.length):EB w gS v l:=by
 rcases h.2 with⟨h1,h2⟩ | ⟨g,cap,cur,h1,h2,a,b,_,_,c⟩
 ·omega
 ·exact⟨g,cap,cur,h1,a,by omega,b,by simpa using c⟩
theorem EB.grown{w w':Ba}{gS:Nat}{v:Bb}{l:List Int}{r:Option Nat}(h:EB w gS v l)(hg:w.grownBy w' r)(hr:∀ g cs,Blk w g 3 cs->g≠gS->r≠some g):EB w' gS v l:=by
 obtain⟨g,c,cur,e,a,b,d⟩:=h;exact⟨g,c,cur,e,a.grown hg (hr g cur a b),b,d⟩
structure RM (w:Ba) (base bR bS bK gS:Nat) (rv:Array Bb) (st:List Int) (stk:Stk) (v:Bb) (vs:List Bb):Prop where
 r:Blk w bR 43 rv
 s:Blk w bS 23 #[.slice (some ⟨gS,0,none⟩) st.length st.length]
 t:Blk w gS 3 (i64s st).toArray
 k:Blk w bK 44 #[v]
 own:w.ownsRow base 23 1 v stk.length vs
 ent:∀ (j:Nat) u e,vs[j]? = some u->stk[j]? = some e->EB w gS u (ints' e)
 lR:base<=bR
 lS:base<=bS
 lT:base<=gS
 lK:base<=bK
 o1:v.ownBlock≠some bS
theorem blk_ne{a b:Nat}{s t:TypeId}{c d:Array Bb}(h:Blk w a s c)(k:Blk w b t d)(f:s≠t):a≠b:=by
 intro e;subst e;have:=h.symm.trans k;injection this with this;injection this with _ h2;exact f h2
theorem own_ne{n b size:Nat}{s t:TypeId}{xs:List Bb}{d:Array Bb}(h:w.ownsRow base s size v n xs)(k:Blk w b t d)(a:s≠t):v.ownBlock≠some b:=by
 rcases h.2 with⟨h1,_⟩ | ⟨g,cap,cur,h1,h2,c,_⟩
 ·subst h1;simp[Bq]
 ·subst h1;intro e;injection e with e;subst e;exact blk_ne (show Blk w g s cur from c) k a rfl
theorem RM.fQf{rv:Array Bb}{stk:Stk}{vs:List Bb}(h:RM w base bR bS bK gS rv st stk v vs):base<=w.heap.size:=Nat.le_of_lt (Nat.lt_of_le_of_lt h.lR h.r.lt)
theorem RM.grown{w w':Ba}{base bR bS bK gS:Nat}{rv:Array Bb}{st:List Int}{stk:Stk}{v:Bb}{vs:List Bb}(h:RM w base bR bS bK gS rv st stk v vs)(a:Bc w.heap.size w w'):RM w' base bR bS bK gS rv st stk v vs:=
  { h with r:=h.r.below a h.r.lt,s:=h.s.below a h.s.lt,t:=h.t.below a h.t.lt,k:=h.k.below a h.k.lt,own:=nK h.own a (Aj _),
           ent:=fun j u e h1 h2=>(h.ent j u e h1 h2).grown (rQ a) (fun _ _ _ _=>by simp) }
theorem RM.put{rv:Array Bb}{stk:Stk}{vs:List Bb}(h:RM w base bR bS bK gS rv st stk v vs)(i:Nat)(x:Int):RM (w.setCell ⟨gS,i,none⟩ (.int .i64 x)) base bR bS bK gS rv (st.set i x) stk v vs:=by
 have hn:=own_ne h.own h.t (by decide);refine { h with r:=h.r.grown (nV w gS i _) ?_,s:=?_,t:=?_,k:=h.k.grown (nV w gS i _) ?_,own:=gY h.own hn,ent:=fun j u e h1 h2=>(h.ent j u e h1 h2).grown (nV w gS i _) (fun g cs _ hg e=>hg (by injection e with e;exact e.symm)) }
 ·intro e;injection e with e;exact blk_ne h.t h.r (by decide) e
 ·rw[List.length_set];exact h.s.grown (nV w gS i _) (fun e=>by injection e with e;exact blk_ne h.t h.s (by decide) e)
 ·have:=fV h.t i (.int .i64 x)
  have a:(i64s st).toArray.setIfInBounds i (.int .i64 x)=(i64s (st.set i x)).toArray:=by
   simp[i64s,List.map_set]
  rwa[a]at this
 ·intro e;injection e with e;exact blk_ne h.t h.k (by decide) e
theorem RM.push{w':Ba}{rv:Array Bb}{stk:Stk}{a u:Bb}{vs:List Bb}{e:Nat×List Int}(h:RM w base bR bS bK gS rv st stk v vs)(n:EB w gS u (ints' e))
  (hg:w.grownBy w' v.ownBlock) (l:w'.ownsRow base 23 1 a (stk.length+1) (vs ++ [u])) (o:a.ownBlock=v.ownBlock\/a.ownBlock=some w.heap.size) :
  RM (w'.setCell ⟨bK,0,none⟩ a) base bR bS bK gS rv st (stk ++ [e]) a (vs ++ [u]):=by
 have hn:∀ b t c,Blk w b t c->t≠23->v.ownBlock≠some b:=fun b t c f i=>own_ne h.own f (fun e=>i e.symm);have hr:=h.r.grown hg (hn _ _ _ h.r (by decide));have hs:=h.s.grown hg h.o1;have i:=h.t.grown hg (hn _ _ _ h.t (by decide));have d:=h.k.grown hg (hn _ _ _ h.k (by decide));have hlen:vs.length=stk.length:=(by have:=h.own.1;simpa using this);have gk:=nV w' bK 0 a;refine { r:=hr.grown gk ?_,s:=hs.grown gk ?_,t:=i.grown gk ?_,k:=?_,own:=?_,ent:=fun j x y h1 h2=>?_,lR:=h.lR,lS:=h.lS,lT:=h.lT,lK:=h.lK,o1:=?_ }
 ·intro e;injection e with e;exact blk_ne d hr (by decide) e
 ·intro e;injection e with e;exact blk_ne d hs (by decide) e
 ·intro e;injection e with e;exact blk_ne d i (by decide) e
 ·have:=fV d 0 a
  simpa using this
 ·have:a.ownBlock≠some bK:=own_ne l d (by decide);have h2:=gY (k:=0) (u:=a) l this
  simpa using h2
 ·have key:∀ x y,EB w gS x y->EB (w'.setCell ⟨bK,0,none⟩ a) gS x y:=by
   intro x y p;refine(p.grown hg (fun g cs f _=>hn _ _ _ f (by decide))).grown gk (fun g cs f _ e=>?_);injection e with e;exact blk_ne d f (by decide) e
  by_cases hj:j<stk.length
  ·rw[Ax (by omega)]at h1;rw[Ax hj]at h2;exact key _ _ (h.ent j x y h1 h2)
  ·rw[Ak (by omega)]at h1 h2
   have m:j - stk.length=0:=by
    have:=(List.getElem?_eq_some_iff.1 h2).1;simp at this;omega
   rw[hlen,m]at h1;rw[m]at h2;simp at h1 h2;subst h1;subst h2;exact key _ _ n
 ·rcases o with e | e
  ·rw[e];exact h.o1
  ·rw[e];intro e';injection e' with e';have:=h.s.lt;omega
def eJk(r:RowD)(base bR bS bK gS:Nat)(rv:Array Bb)(st:List Int)(stk:Stk)(i:Nat)(w:Ba)(a:Ending)(w':Ba):Prop:=
 (st[i]? = some 0/\∃ b vs',a = .returned (.bool false)/\RM w' base bR bS bK gS rv (st.set i 1) (stk ++ [(i,edges r i)]) b vs'/\Bc base w w') \/
 (∃ x,st[i]? = some x/\x≠0/\a = .returned (.bool (x == 1))/\w=w')
theorem bJf(h:Blk w gS 3 (i64s st).toArray)(a:st[i]? = some x):w.cell? ⟨gS,i,none⟩=some (.int .i64 x):=by
 rw[h.cell];simp[i64s,a]
theorem aWo(r:RowD)(base bR bS bK gS:Nat)(rv:Array Bb)(st:List Int)(stk:Stk)(v:Bb)(vs:List Bb)(i:Nat)(c:CodeD)(w0 w:Ba)(h:RM w base bR bS bK gS rv st stk v vs)
  (hr:RowV w0 (.agg rv) r) (av:w0.heap.size<=base) (J:Bc base w0 w) (hi:r.code[i]? = some c) (hl:st.length=r.code.length) (ak:c.op=274->0<c.to.length) (l:(nextOf c i).length<=66) (aw:stk.length<=4096) (hcl:r.code.length<=4096) :
  Calls fZ 101 #[.int .i64 (i:Int),.pointer (some ⟨bS,0,none⟩),.pointer (some ⟨bR,0,none⟩),.pointer (some ⟨bK,0,none⟩)] w (eJk r base bR bS bK gS rv st stk i w):=by
 have aM:i<r.code.length:=(List.getElem?_eq_some_iff.1 hi).1;obtain⟨x,K⟩:∃ x,st[i]? = some x:=⟨_,Az (by omega)⟩;have cS:=h.s.cell 0;simp at cS;have cT:=bJf h.t K;have L:=fQ K;have a:=fQ h;obtain⟨n,hn⟩:=fX st.length;rw[hn]at cS;have aN:i<n:=(by omega);have ax:(i:Int)<(n:Int):=(by omega);have HN:=fQ hn;have HL:=fQ hl;clear h K hn hl;by_cases E:x=0
 ·subst E;have HR:=fQ hr;obtain⟨vp,vq,vr,aO,M,h4,h5,h6,O⟩:=hr;injection M with M;subst M;obtain⟨Ap,cp,rfl⟩:=h4.shape;obtain⟨Aq,cq,rfl⟩:=h5.shape;obtain⟨Ar,cr,rfl⟩:=h6.shape;obtain⟨Ac,cc,rfl,_⟩:=O.len;obtain⟨B,go,p,q,t,rfl,aP,c0,_⟩:=O.code hi;have c0:=(J.cell (p:=⟨B,go+i*5,none⟩) (by show B<base;omega)).trans c0;obtain⟨r0,r1,r2,r3,r4⟩:=gQ a.out.r;have ay:(i:Int)<(r.code.length:Int):=(by omega);have n1:bR≠gS:=fun e=>blk_ne a.out.t a.out.r (by decide) e.symm;have n2:gS≠bR:=fun e=>n1 e.symm;have n3:bS≠gS:=fun e=>blk_ne a.out.t a.out.s (by decide) e.symm;have n4:gS≠bS:=fun e=>n3 e.symm;have n5:B≠gS:=(by have:=a.out.lT;omega);have n6:gS≠B:=fun e=>n5 e.symm;have s1:=a.out.r.lt;have s2:=a.out.s.lt;have s3:=a.out.t.lt;have s4:=a.out.k.lt;have s5:B<w.heap.size:=(by have:=a.out.fQf;omega);have z0:=frz a.out.t i;have n7:bK≠gS:=fun e=>blk_ne a.out.t a.out.k (by decide) e.symm;have n8:gS≠bK:=fun e=>n7 e.symm;have P:=fQ (a.out.put i 1);obtain⟨Av,cv,rfl,_⟩:=fW a.out.own;have Q:=a.out.k.cell 0;simp at Q;obtain⟨m,F⟩:=fX stk.length;rw[F]at Q;have aQ:m<=4096:=(by omega);have b:=fQ F;have R:=own_ne a.out.own a.out.k (show(23:Nat)≠44 by decide);rw[F]at R;have NK:=fQ R;clear F aw R;have az:=fQ J;have aA:=fQ ak;have aB:=fQ l;have S:=fQ hi;clear h4 h5 h6 O J ak l hi;by_cases y:c.op=258
  ·have aC:(c.op != 258)=false:=(by simp[y]);have T:=fQ (bXu S.out y);clear y;go_in;have P2:=fQ (P.out.grown ((AX _ _).alloc (Aj _) (.cells #[.int .i64 (i:Int)] 3)));have d:=fQ (P2.out.grown ((AX _ _).alloc (Aj _) (.cells #[.slice (some ⟨w.heap.size,0,none⟩) 1 1] 23)));have B3:=fQ (show Bc base w _ from(((AX base w).setCell (p:=⟨gS,i,none⟩) a.out.lT (.int .i64 1)).alloc (by simp;exact a.out.fQf) (.cells #[.int .i64 (i:Int)] 3)).alloc (by simp;have:=a.out.fQf;omega) (.cells #[.slice (some ⟨w.heap.size,0,none⟩) 1 1] 23))
   have U:=fQ (show EB (((w.setCell ⟨gS,i,none⟩ (.int .i64 1)).alloc (.cells #[.int .i64 (i:Int)] 3)).alloc (.cells #[.slice (some ⟨w.heap.size,0,none⟩) 1 1] 23)) gS (.slice (some ⟨w.heap.size,0,none⟩) 1 1) (ints' (i,edges r i)) by
    rw[T.out]
    exact⟨w.heap.size,1,#[.int .i64 (i:Int)],rfl,(Blk.newAt (w.setCell ⟨gS,i,none⟩ (.int .i64 1)) _ _ (by simp)).alloc _,by omega,by simp[ints'],rfl⟩)
   go_wp2_with (at_builtin;refine jY _ rfl (.tmp 29) (.tmp 31) 44 rfl base 23 (.slice none 0 0) 1 24 underlying44 zX rfl (by omega) (.slice Av m cv) m vs rfl (by rw[<-b.out];exact d.out.own) (some ⟨w.heap.size+1,0,none⟩) 1 1 [.slice (some ⟨w.heap.size,0,none⟩) 1 1] rfl (Blk.fQc (cs:=#[.slice (some ⟨w.heap.size,0,none⟩) 1 1]) (Blk.newAt _ _ _ (by simp)) rfl) (by intro u f;obtain rfl:=List.mem_singleton.1 f;rfl) (by unfold maxLen;omega) (by omega) (by have:=d.out.fQf;exact this) ?_);rintro v1 w1 h1 h2 C _;obtain⟨V,c1,W,_⟩:=fW h1;subst W;have g:=d.out.k.grown h2 NK.out;have X:=g.cell 0;simp at X;have kz:=frz g 0;have kl:=g.lt;have f:=U;have hp:=d.out.push (e:=(i,edges r i)) f.out (by rw[b.out]at *;exact h2) (by rw[b.out];exact h1) (by rw[b.out];simpa using C);have Y:=fQ hp;have D:=iK B3.out h2 (by have:=d.out.fQf;exact this) (fun k Z=>(d.out.own.lt k (by rw[b.out];exact Z)).1);have aj:=fQ (D.setCell (p:=⟨bK,0,none⟩) d.out.lK (.slice V (m+1) c1));clear h1 h2 C g hp D f;go_wp2;go_ret;exact .inl ⟨L.out,_,_,rfl,Y.out,aj.out⟩
  ·have aC:(c.op != 258)=true:=(by simp[y]);have T:=fQ (bXa S.out y);clear y;go_in;have P2:=fQ (P.out.grown ((AX _ _).alloc (Aj _) (.cells #[.int .i64 (i:Int)] 3)));have B2:=fQ (show Bc base w _ from((AX base w).setCell (p:=⟨gS,i,none⟩) a.out.lT (.int .i64 1)).alloc (by simp;exact a.out.fQf) (.cells #[.int .i64 (i:Int)] 3));have L2:=fQ (Blk.newAt (w.setCell ⟨gS,i,none⟩ (.int .i64 1)) (N:=w.heap.size) 3 #[.int .i64 (i:Int)] (by simp));have aD:=fQ (HR.out.below (az.out.trans B2.out) av);have D0:=fQ (show Bc w.heap.size (w.setCell ⟨gS,i,none⟩ (.int .i64 1)) ((w.setCell ⟨gS,i,none⟩ (.int .i64 1)).alloc (.cells #[.int .i64 (i:Int)] 3))from(AX _ _).alloc (by simp) _);go_wp2_with fail;refine(dQt r _ i c _ aD.out S.out aA.out).mono ?_;rintro en w2 ⟨vn,rfl,al,G⟩;obtain⟨An,cn,rfl⟩:=al.shape;obtain⟨A',c',e',an⟩:=al;injection e' with e1 e2 e3;subst e1;subst e3;have ao:=fQ an;have L3:=fQ (L2.out.below G L2.out.lt);have D2:=fQ (D0.out.trans (G.mono (by simp)));have aE:w.heap.size<=w2.heap.size:=(by have:=G.size;simp at this;omega);have aF:=aB.out;obtain⟨j,l⟩:=fX ((nextOf c i).length);rw[l]at aF;rw[l]at ao ⊢;have aG:=fQ l;clear G an l;go_wp2_with (at_builtin;refine aXd _ rfl (.tmp 24) (.tmp 27) 23 rfl w.heap.size 3 (.int .i64 0) 8 underlying23 oK rfl (.slice (some ⟨w.heap.size,0,none⟩) 1 1) 1 [.int .i64 (i:Int)] rfl (Blk.own (n:=1) (cs:=#[.int .i64 (i:Int)]) L3.out (Aj _) rfl (by unfold maxLen;omega)) An j cn (i64s (nextOf c i)) rfl ao.out (aVe _) (by unfold maxLen;omega) (by omega) aE ?_);rintro v3 H I aq;obtain⟨z,A,aH,_⟩:=fW I;subst aH;have D3:=fQ (D2.out.trans aq);have d:=fQ (P.out.grown (by simpa using D3.out));have ar:Bc base w H:=((AX base w).setCell (p:=⟨gS,i,none⟩) a.out.lT (.int .i64 1)).trans (D3.out.mono a.out.fQf)
   have PE:=fQ (show EB H gS (.slice z (1+j) A) (ints' (i,edges r i)) by
    rw[T.out];have e:(1+j)=(ints' (i,nextOf c i)).length:=(by simp[ints',aG.out];omega);rw[e];rw[e]at I
    exact EB.of I a.out.t.lt (by simp[ints']))
   have aI:=D3.out.size;simp at aI;have aJ:=d.out.fQf;have au:=d.out.k.cell 0;simp at au;rw[b.out]at au;have aK:=fQ ar;have o:=fQ (d.out.grown ((AX _ _).alloc (Aj _) (.cells #[.slice z (1+j) A] 23)));have B4:=fQ (aK.out.alloc aJ (.cells #[.slice z (1+j) A] 23));have U:=fQ (PE.out.grown (World.grownBy_alloc H (.cells #[.slice z (1+j) A] 23) none) (fun _ _ _ _=>by simp));clear I aq ar Q;go_wp2_with (at_builtin;refine jY _ rfl (.tmp 29) (.tmp 31) 44 rfl base 23 (.slice none 0 0) 1 24 underlying44 zX rfl (by omega) (.slice Av m cv) m vs rfl (by rw[<-b.out];exact o.out.own) (some ⟨H.heap.size,0,none⟩) 1 1 [.slice z (1+j) A] rfl (Blk.fQc (cs:=#[.slice z (1+j) A]) (Blk.newAt _ _ _ (by simp)) rfl) (by intro u f;obtain rfl:=List.mem_singleton.1 f;rfl) (by unfold maxLen;omega) (by omega) (by have:=o.out.fQf;exact this) ?_);rintro v1 w1 h1 h2 C _;obtain⟨V,c1,W,_⟩:=fW h1;subst W;have g:=o.out.k.grown h2 NK.out;have X:=g.cell 0;simp at X;have kz:=frz g 0;have kl:=g.lt;have f:=U;have hp:=o.out.push (e:=(i,edges r i)) f.out (by rw[b.out]at *;exact h2) (by rw[b.out];exact h1) (by rw[b.out];simpa using C);have Y:=fQ hp;have D:=iK B4.out h2 (by have:=o.out.fQf;exact this) (fun k Z=>(o.out.own.lt k (by rw[b.out];exact Z)).1);have aj:=fQ (D.setCell (p:=⟨bK,0,none⟩) o.out.lK (.slice V (m+1) c1));clear h1 h2 C g hp D f;go_wp2;go_ret;exact .inl ⟨L.out,_,_,rfl,Y.out,aj.out⟩
 ·have aR:(x == 0)=false:=(by simpa using E);have aL:=fQ E;clear E;go_in;go_wp2;go_ret;exact .inr ⟨x,L.out,aL.out,rfl,rfl⟩
theorem RM.top{rv:Array Bb}{S:Stk}{e:Nat×List Int}{vs:List Bb}(h:RM w base bR bS bK gS rv st (S ++ [e]) v vs):
  ∃ gk d g c,v = .slice (some ⟨gk,0,none⟩) (S.length+1) d/\S.length+1<=d/\gk<w.heap.size/\base<=gk/\gk≠bS/\gk≠bR/\gk≠gS/\gk≠bK/\g≠gk/\w.cell? ⟨gk,S.length,none⟩=some (.slice (some ⟨g,0,none⟩) (e.2.length+1) c)/\w.frozen? ⟨gk,S.length,none⟩=false/\e.2.length+1<=c /\
   Src w (some ⟨g,0,none⟩) (e.2.length+1) (i64s (ints' e))/\vs.length=S.length+1/\g<w.heap.size/\g≠gS/\g≠bS/\g≠bK/\g≠bR:=by
 have a:=h.own;have n:(S ++ [e]).length=S.length+1:=(by simp);rw[n]at a;obtain⟨gk,d,rfl,o,p,hc⟩:=mW a (by omega);have hlen:vs.length=S.length+1:=(by have:=a.1;simpa using this);have hcell:=a.cellAt S.length (by omega);have i:vs[S.length]? = some (vs[S.length]'(by omega)):=Az (by omega);obtain⟨g,c,cur,j,b,q,l,m⟩:=h.ent S.length _ e i (by simp)
 have f:∃ c',Src w (some ⟨g,0,none⟩) (ints' e).length (i64s (ints' e)):=⟨c,by
  have u:(ints' e).length<=cur.size:=by
   have:=congrArg List.length m;rw[Bx,bQw]at this;simp at this;omega
  have:=b.src (ints' e).length u
  rwa[m]at this⟩
 obtain⟨_,f⟩:=f;have x:(ints' e).length=e.2.length+1:=(by simp[ints']);rw[x]at j l f;have q1:=own_ne a h.r (by decide);have y:=own_ne a h.t (by decide);have z:=own_ne a h.k (by decide);have A:=h.o1;have B:=own_ne a b (by decide);rw[i,j]at hcell;exact⟨gk,d,g,c,rfl,hc,o,p,fun e=>A (by rw[e];rfl),fun e=>q1 (by rw[e];rfl),fun e=>y (by rw[e];rfl),fun e=>z (by rw[e];rfl),fun e=>B (by rw[<-e];rfl),hcell,a.frozenAt _,l,f,hlen,b.lt,q,blk_ne b h.s (by decide),blk_ne b h.k (by decide),blk_ne b h.r (by decide)⟩
theorem RM.drew{w:Ba}{base bR bS bK gS:Nat}{rv:Array Bb}{st:List Int}{stk:Stk}{v:Bb}{vs:List Bb}(h:RM w base bR bS bK gS rv st stk v vs):RM w.drew base bR bS bK gS rv st stk v vs:=
 { r:=h.r,s:=h.s,t:=h.t,k:=h.k,own:=h.own,ent:=fun j u e h1 h2=>h.ent j u e h1 h2,lR:=h.lR,lS:=h.lS,lT:=h.lT,lK:=h.lK,o1:=h.o1 }
theorem RM.pop{gk a:Nat}{rv:Array Bb}{S:Stk}{e:Nat×List Int}{vs:List Bb}(h:RM w base bR bS bK gS rv st (S ++ [e]) (.slice (some ⟨gk,0,none⟩) (S.length+1) a) vs):
  RM (w.setCell ⟨bK,0,none⟩ (.slice (some ⟨gk,0,none⟩) S.length a)) base bR bS bK gS rv st S (.slice (some ⟨gk,0,none⟩) S.length a) (vs.take S.length):=by
 have b:=nV w bK 0 (.slice (some ⟨gk,0,none⟩) S.length a);have f:(S ++ [e]).length=S.length+1:=(by simp);have c:=h.own;rw[f]at c;have hq:(Value.slice (some ⟨gk,0,none⟩) S.length a).ownBlock≠some bK:=(by have:=own_ne c h.k (by decide);exact this);have d:=bQx (k:=S.length) c (by omega) (by simp);rw[Bv]at d;refine { h with r:=h.r.grown b ?_,s:=h.s.grown b ?_,t:=h.t.grown b ?_,k:=?_,own:=gY d hq,ent:=fun j x y h1 h2=>?_,o1:=h.o1 }
 ·intro e;injection e with e;exact blk_ne h.k h.r (by decide) e
 ·intro e;injection e with e;exact blk_ne h.k h.s (by decide) e
 ·intro e;injection e with e;exact blk_ne h.k h.t (by decide) e
 ·have:=fV h.k 0 (.slice (some ⟨gk,0,none⟩) S.length a)
  simpa using this
 ·have hj:j<S.length:=(List.getElem?_eq_some_iff.1 h2).1;rw[List.getElem?_take,if_pos hj]at h1;refine(h.ent j x y h1 (by rw[Ax hj];exact h2)).grown b (fun g cs i _ e=>?_);injection e with e;exact blk_ne h.k i (by decide) e
theorem RM.shrink{gk m g c:Nat}{rest:List Int}{rv:Array Bb}{S:Stk}{vs:List Bb}(h:RM w base bR bS bK gS rv st (S ++ [(t,rest ++ [x])]) (.slice (some ⟨gk,0,none⟩) (S.length+1) m) vs)
  (hcell:w.cell? ⟨gk,S.length,none⟩=some (.slice (some ⟨g,0,none⟩) ((rest ++ [x]).length+1) c)) :
  RM (w.setCell ⟨gk,S.length,none⟩ (.slice (some ⟨g,0,none⟩) (rest.length+1) c)) base bR bS bK gS rv st (S ++ [(t,rest)]) (.slice (some ⟨gk,0,none⟩) (S.length+1) m) (vs.set S.length (.slice (some ⟨g,0,none⟩) (rest.length+1) c)):=by
 have n:∀ e:Nat×List Int,(S ++ [e]).length=S.length+1:=fun e=>by simp
 have a:=h.own;rw[n]at a;obtain⟨q,b⟩:=a.stored S.length (.slice (some ⟨g,0,none⟩) (rest.length+1) c);have hlen:vs.length=S.length+1:=(by have:=a.1;simpa using this);have n1:=own_ne a h.r (by decide);have n2:=own_ne a h.t (by decide);have v:=own_ne a h.k (by decide);refine { h with r:=h.r.grown b n1,s:=h.s.grown b h.o1,t:=h.t.grown b n2,k:=h.k.grown b v,own:=by rw[n];exact q,ent:=fun j y e h1 h2=>?_ };have o:∀ u l,EB w gS u l->EB (w.setCell ⟨gk,S.length,none⟩ (.slice (some ⟨g,0,none⟩) (rest.length+1) c)) gS u l:=fun u l f=>f.grown b (fun z cs A _=>own_ne a A (by decide));by_cases hj:j<S.length
 ·rw[Ay (by omega)]at h1;rw[Ax hj]at h2;exact o _ _ (h.ent j y e h1 (by rw[Ax hj];exact h2))
 ·have B:j=S.length:=by
   have:=(List.getElem?_eq_some_iff.1 h2).1;simp at this;omega
  subst B;rw[Aw (by omega)]at h1;simp at h1 h2;subst h1;subst h2;have f:vs[S.length]? = some (vs[S.length]'(by omega)):=Az (by omega);have p:=h.ent S.length _ (t,rest ++ [x]) f (by simp);have i:=a.cellAt S.length (by omega);rw[hcell,f]at i;injection i with i;rw[<-i]at p;obtain⟨z,c',cur,C,e2,D,E,F⟩:=p;injection C with d a2 G;injection d with d;injection d with d;subst d;subst G;refine o _ _ ⟨g,c,cur,by simp[ints'],e2,D,by simp[ints']at E ⊢;omega,?_⟩;have:=congrArg (List.take (rest.length+1)) F;rw[List.take_take,bJz]at this;have q1:min (rest.length+1) (ints' (t,rest ++ [x])).length=(ints' (t,rest)).length:=(by simp[ints']);have H:(ints' (t,rest ++ [x])).take (rest.length+1)=ints' (t,rest):=(by simp[ints']);rw[q1,H]at this;exact this
def muS(st:List Int)(stk:Stk):Nat:=70*st.count 0+(stk.map fun e=>e.2.length+1).sum
theorem dQa{y:Int}(h:st[k]? = some x)(a:x≠0)(b:y≠0):(st.set k y).count 0=st.count 0:=by
 obtain⟨c,e⟩:=List.getElem?_eq_some_iff.1 h;rw[BY c,e];simp[a,b]
theorem cXc{y:Int}(h:st[k]? = some 0)(a:y≠0):(st.set k y).count 0+1=st.count 0:=by
 obtain⟨b,e⟩:=List.getElem?_eq_some_iff.1 h;have hp:0<st.count 0:=List.count_pos_iff.2 (BZ h);rw[BY b,e];simp[a];omega
theorem dQb{S:Stk}(h:st[t]? = some 1):muS (st.set t 2) S<muS st (S ++ [(t,[])]):=by
 unfold muS;rw[dQa h (by decide) (by decide)];simp
theorem cZi{S:Stk}{rest:List Int}:muS st (S ++ [(t,rest)])<muS st (S ++ [(t,rest ++ [x])]):=by
 unfold muS;simp
theorem bWs{S:Stk}{rest:List Int}(h:st[k]? = some 0)(hl:l.length<=66):muS (st.set k 1) (S ++ [(t,rest)] ++ [(k,l)])<muS st (S ++ [(t,rest ++ [x])]):=by
 unfold muS;have:=cXc (y:=1) h (by decide);simp;omega
theorem aWe(z:Bb)(k:Nat):Builtin.zeroCells #[z] k=(AK k z).toArray:=by
 apply Array.ext';simp only[Builtin.zeroCells,List.size_toArray,Bw,BQ,By,Bv,Nat.mod_one];apply List.ext_getElem?;intro i;by_cases h:i<k
 ·simp[h]
 ·simp[h]
theorem aJr{P:Program}{ops:Array Oper}{rest:List Oper}{o:Oper}{a:Act}{Q:Exit->Act->Ba->Prop}(w:Ba)(M:o.guard=none)(s x:Operand)(t tn:TypeId)
  (E:o.op = .call { callee:=.builtin .append,args:=#[s,x],argTypes:=#[t,tn] })
  (base:Nat) (e:TypeId) (z:Bb) (bytes:Nat) (r:IntKind) (l:P.underlying t=some (.slice e)) (m:P.underlying tn=some (.int r)) (hinfo:(P.info? e).map (fun i=>(i.zero,i.size,i.bytes))=some (some z,1,bytes)) (y:z.cells=#[z]) (N:z.oneCell'=true)
  (v:Bb) (n:Nat) (xs:List Bb) (hs:a.eval s=v) (b:w.ownsRow base e 1 v n xs)
  (p:IntKind) (k:Nat) (K:Int) (A:K=(k:Int)) (B:a.eval x = .int p K) (F:n+k<=maxLen) (hbytes:(n+k)*bytes<=140737488355328) (hbase:base<=w.heap.size)
  (h:∀ c w',w'.ownsRow base e 1 c (n+k) (xs++AK k z)->Bc base w w'->wpList P ops Q rest (a.put o.dst c) w'):wpList P ops Q (o :: rest) a w:=by
 subst A;obtain⟨i,hi,hz,hsz,q⟩:=info_parts hinfo;have ai:n+k<=9223372036854775807:=(by simp only[maxLen]at F;omega);have O:IntKind.i64.wrap (k:Int)=k:=(by rw[IntKind.wrap_i64];omega);have aA:k*bytes<=140737488355328:=Nat.le_trans (Nat.mul_le_mul_right _ (by omega)) hbytes;have R:¬(281474976710656<(k:Int)*(bytes:Int)):=(by rw[<-Int.natCast_mul];omega);have S:¬((k:Int)<0):=(by omega);have hlen:xs.length=n:=(by simpa using b.1)
 have key:∃ c w',(Builtin.append_ #[t,tn] o.type #[v,.int p k]).run P w = .ok c w'/\w'.ownsRow base e 1 c (n+k) (xs++AK k z)/\w.grownBy w' v.ownBlock:=by
  have grown:∀ (old:Nat),old<n+k->∀ (row:Option Nat),
    (w.drew.alloc (.cells (xs.toArray++Builtin.zeroCells z.cells k++Builtin.zeroCells z.cells (grownCap w (n+k) old e - (n+k))) e)).ownsRow base e 1
     (.slice (some ⟨w.heap.size,0,none⟩) (n+k) (grownCap w (n+k) old e)) (n+k) (xs++AK k z) /\
    w.grownBy (w.drew.alloc (.cells (xs.toArray++Builtin.zeroCells z.cells k++Builtin.zeroCells z.cells (grownCap w (n+k) old e - (n+k))) e)) row:=by
   intro old E row;have T:=grownCap_ge w (n+k) old e;have C:grownCap w (n+k) old e<=maxLen:=grownCap_le_maxLen w (n+k) old e F;refine⟨⟨by simp[hlen],.inr ⟨w.heap.size,_,_,rfl,hbase,heap_alloc_new w.drew _,T,C,?_,?_⟩⟩,⟨rfl,rfl,rfl,by simp,fun k d _=>Below.heap_alloc w.drew _ k d⟩⟩
   ·rw[y];simp[size_zeroCells,hlen];omega
   ·rw[y,aWe];simp only[Array.toList_append,Bv];rw[AW (by simp[hlen])];rw[AY (by simp[hlen])]
  rcases Nat.eq_zero_or_pos k with rfl | d
  ·have G:IntKind.i64.wrap 0=0:=(by rw[IntKind.wrap_i64];omega);refine⟨v,w,?_,by simpa using b,World.grownBy.refl w _⟩;rcases b.2 with⟨rfl,rfl⟩ | ⟨g,cap,cur,rfl,_,_,H,_⟩
   ·simp[Builtin.append_,run_underlying l,run_underlying m,sizeOf,typeInfo,hi,asInt,asIntOf,G]
   ·simp[Builtin.append_,run_underlying l,run_underlying m,sizeOf,typeInfo,hi,asInt,asIntOf,G,H,storeCells]
  ·rcases b.2 with⟨rfl,rfl⟩ | ⟨g,cap,cur,rfl,U,hg,H,C,aB,I⟩
   ·have B:xs = []:=List.eq_nil_of_length_eq_zero hlen;subst B;have hr:=Lib.run_append_nil_zeros (P:=P) w t tn o.type e i z p r l m hi hz k d (by omega) (by omega) (by rw[q];omega);have f:=grown 0 (by omega) (Bq (.slice none 0 0));simp only[By,BJ,Array.empty_append]at f ⊢;exact⟨_,_,hr,f.1,f.2⟩
   ·by_cases J:n+k<=cap
    ·have L:=run_storeCells_at P g n e (AK k z) 0 cur w hg (by simp;omega) (fun u D=>by rw[List.eq_of_mem_replicate D];exact N);simp only[BW]at L;have V:k≠0:=(by omega);refine⟨.slice (some ⟨g,0,none⟩) (n+k) cap,_,?_,⟨by simp[hlen],.inr ⟨g,cap,_,rfl,U,setRow_heap w g cur (cur.toList.take n++AK k z++cur.toList.drop (n+(AK k z).length)).toArray e _ hg,J,C,?_,?_⟩⟩,⟨rfl,rfl,rfl,by simp,fun k _ d=>setRow_other w g k _ (fun e=>d (by simp[Bq,e]))⟩⟩
     ·simp[Builtin.append_,run_underlying l,run_underlying m,sizeOf,typeInfo,zeroValue,hi,hz,hsz,q,asInt,asIntOf,O,S,V,R,J,Addr.add_lit,y,aWe,L]
     ·simp;omega
     ·rw[Bv]at I;rw[I];simp only[Bv];rw[AW (by simp[hlen])];rw[AY (by simp[hlen])]
    ·have holds:∀ j u,xs[j]? = some u->w.drew.cell? ((⟨g,0,none⟩:Addr).add j)=some u:=fun j u D=>by simpa using b.cells (g:=g) rfl j u D
     have hf:=run_firstCells_some (P:=P) w.drew i.size n ⟨g,0,none⟩ n cap xs (by rw[hsz];exact b.1) holds;have hr:=Lib.run_append_grow_zeros (P:=P) w t tn o.type e i z p r l m hi hz (some ⟨g,0,none⟩) n cap xs hf k d (by omega) (by omega) (by omega) (by rw[q];omega) (by rw[q];exact growslice_fits (by omega) hbytes);have f:=grown cap (by omega) (Bq (.slice (some ⟨g,0,none⟩) n cap));exact⟨_,_,hr,f.1,f.2⟩
 obtain⟨c,w',W,h2,X⟩:=key;refine wpList_plain M fun K A=>?_;unfold Oper.wp execOp;simp only[E,resolve,invoke,builtin,Sem.run_bind,Sem.run_pure,Result.andThen_ok,List.map_toArray,List.map_cons,List.map_nil,hs,B,W];exact A _ _ (h c w' h2 (aZw (AX _ _) X b (Aj _) hbase))
structure FlowOk (r:RowD):Prop where
 n1:1<=r.code.length
 n2:r.code.length<=4096
 to:∀ (i:Nat) c,r.code[i]? = some c->(∀ x∈nextOf c i,0<=x/\x<r.code.length)/\(c.op=274->0<c.to.length)/\(nextOf c i).length<=66
theorem FlowOk.edges{r:RowD}(h:FlowOk r){i:Nat}{x:Int}(a:x∈edges r i):∃ k:Nat,x=k/\k<r.code.length:=by
 unfold _root_.Go.Proofs.YtabibkpfgmolkaaGreat.edges at a
 split at a
 ·rename_i c hc
  split at a
  ·simp at a
  ·have:=(h.to i c hc).1 x a;exact⟨x.toNat,by omega,by omega⟩
 ·simp at a
theorem aJz{r:RowD}(h:FlowOk r)(i:Nat):(edges r i).length<=66:=by
 unfold _root_.Go.Proofs.YtabibkpfgmolkaaGreat.edges
 split
 ·rename_i c hc
  split
  ·simp
  ·exact(h.to i c hc).2.2
 ·simp
theorem RInv.rest{r:RowD}{stk:Stk}(h:RInv r st stk D){e:Nat×List Int}(he:e∈stk)(a:x∈e.2):x∈edges r e.1:=by
 obtain⟨j,hj⟩:=List.mem_iff_getElem?.1 he;obtain⟨proc,h1,_⟩:=h.ent j e hj;rw[h1];simp[a]
def dXm(r:RowD)(w:Ba)(a:Ending)(w':Ba):Prop:=∃ b:Bool,a = .returned (.bool b)/\(b=true↔¬Ranked r)/\Bc w.heap.size w w'
def aYq(r:RowD)(base bR bS bK gS:Nat)(rv:Array Bb)(w0:Ba)(k:Nat)(stk:Stk)(st:List Int)(D:List Nat)(v:Bb)(vs:List Bb)(wr:Ba):Prop:=
 RM wr base bR bS bK gS rv st stk v vs/\RInv r st stk D/\(∀ j,j<k->j∈D)/\Bc base w0 wr
theorem dXn(r:RowD)(vr:Bb)(w:Ba)(hr:RowV w vr r)(hf:FlowOk r):Calls fZ 75 #[vr] w (dXm r w):=by
 have HR:=fQ hr;have f:=fQ hf;have aO:=hf.n2;obtain⟨vp,vq,vr,vs,rfl,h4,h5,h6,h7⟩:=hr;obtain⟨Ap,cp,rfl⟩:=h4.shape;obtain⟨Aq,cq,rfl⟩:=h5.shape;obtain⟨Ar,cr,rfl⟩:=h6.shape;obtain⟨Ac,cc,rfl,_⟩:=h7.len;obtain⟨n,hn⟩:=fX r.code.length;rw[hn]at HR aO ⊢;have d:=fQ hn;have aP:=vZ (P:=fZ) 23 3 (.int .i64 0) 8 underlying23 oK rfl n (by omega) (by omega);clear h4 h5 h6 h7 hf hn;go_in;go_wp2;clear aP;obtain⟨rv,aw⟩:∃ rv:Array Bb,rv=#[.slice Ap r.sig.inn.length cp,.slice Aq r.sig.out.length cq,.int .i64 r.places,.slice Ar r.params.length cr,.slice Ac n cc]:=⟨_,rfl⟩;have aV:=fQ aw;have aK:Bc w.heap.size w ((((w.alloc (.cells rv 43)).alloc (.cells (BX n (.int .i64 0)) 3)).alloc (.cells #[.slice (some ⟨w.heap.size+1,0,none⟩) n n] 23)).alloc (.cells #[.slice none 0 0] 44)):=al4 _ _ _ _ _
 have aL:aYq r w.heap.size w.heap.size (w.heap.size+1+1) (w.heap.size+1+1+1) (w.heap.size+1) rv w 0 [] (AK n 0) [] (.slice none 0 0) [] ((((w.alloc (.cells rv 43)).alloc (.cells (BX n (.int .i64 0)) 3)).alloc (.cells #[.slice (some ⟨w.heap.size+1,0,none⟩) n n] 23)).alloc (.cells #[.slice none 0 0] 44)):=by
  refine⟨{ r:=?_,s:=?_,t:=?_,k:=?_,own:=World.ownsRow_nil _ _ _ _,ent:=?_,lR:=by omega,lS:=by omega,lT:=by omega,lK:=by omega,o1:=by simp[Bq] },?_,(fun j hj=>by omega),aK⟩
  ·exact(((Blk.new w _ _).alloc _).alloc _).alloc _
  ·rw[List.length_replicate];exact(at3 _ _ _ _ _).alloc _
  ·have e:(i64s (AK n 0)).toArray=BX n (.int .i64 0):=(by simp[i64s]);rw[e];exact((Blk.newAt _ _ _ (by simp)).alloc _).alloc _
  ·exact at4 _ _ _ _ _ _
  ·intro j u e h;simp at h
  ·have:=RInv.start (r:=r)
   rwa[d.out]at this
 have aM:=fQ aL;clear aL aK;rw[<-aw]at HR ⊢;clear aw;go_loopw [18] (fun i wr=>∃ (k:Nat) (st:List Int) (D:List Nat) (v:Bb) (vs:List Bb),k<=n/\i = .int .i64 k/\Hid (aYq r w.heap.size w.heap.size (w.heap.size+1+1) (w.heap.size+1+1+1) (w.heap.size+1) rv w k [] st D v vs wr)) (fun i _=>n - (intOf i).toNat)
 case atStart=>exact⟨0,_,_,_,_,by omega,rfl,aM⟩
 case round=>
  clear aM;obtain⟨wo,rfl⟩:∃ wo:Ba,wo=wr:=⟨_,rfl⟩;obtain⟨k,st,D,v,vs,hk,rfl,IM⟩:=hrel;by_cases av:k<n
  ·have ax:decide ((k:Int)<n)=true:=(by simp;omega);have aQ:(k:Int)<n:=(by omega);obtain⟨c,hc⟩:∃ c,r.code[k]? = some c:=⟨_,Az (by rw[d.out];exact av)⟩;have HC:=fQ hc;clear hc;go_wp2_with fail;refine(aWo r _ _ _ _ _ rv st [] v vs k c w _ IM.out.1 HR.out (Aj _) IM.out.2.2.2 HC.out IM.out.2.1.len (f.out.to k c HC.out).2.1 (f.out.to k c HC.out).2.2 (by simp) (by rw[d.out];omega)).mono ?_;rintro en w1 (⟨J,v',aR,rfl,B,hb⟩ | ⟨x,o,aN,rfl,rfl⟩)
   ·have K:=fQ (show aYq r w.heap.size w.heap.size (w.heap.size+1+1) (w.heap.size+1+1+1) (w.heap.size+1) rv w k [(k,edges r k)] (st.set k 1) D v' aR w1 from⟨by simpa using B,by simpa using IM.out.2.1.open J (fun e he=>by simp at he),IM.out.2.2.1,IM.out.2.2.2.trans hb⟩);have L:=fQ (show(st.set k 1)[k]? ≠ some 0 by rw[Aw (by rw[IM.out.2.1.len,d.out];exact av)];simp);obtain⟨ay,M⟩:=fX (st.set k 1);obtain⟨N,ad⟩:∃ N:Stk,[(k,edges r k)]=N:=⟨_,rfl⟩;rw[M,ad]at K;rw[M]at L;clear B hb J M ad IM;go_wp2;go_loopg [] (muS ay N) (fun g wi=>∃ (stk:Stk) (st:List Int) (D:List Nat) (v:Bb) (vs:List Bb),Hid (aYq r w.heap.size w.heap.size (w.heap.size+1+1) (w.heap.size+1+1+1) (w.heap.size+1) rv w k stk st D v vs wi)/\Hid (st[k]? ≠ some 0)/\Hid (muS st stk=g))
    case atStart=>exact⟨_,_,_,_,_,K,L,fQ rfl⟩
    case round=>
     clear K L;obtain⟨stk,st,D,v,vs,a,C,O⟩:=hrel;have Q:=a.out.2.1.len;rw[d.out]at Q;have E:=fQ Q;clear Q;rcases Ab stk with rfl | ⟨S,e,rfl⟩
     ·obtain⟨Av,F,hv,_⟩:=fW a.out.1.own;subst hv;have G:=a.out.1.k.cell 0;simp at G;have sK:=a.out.1.k.lt;go_wp2;refine⟨⟨k+1,st,D,_,vs,by omega,by simp,fQ ⟨a.out.1,a.out.2.1,fun j hj=>?_,a.out.2.2.2⟩⟩,by simp[intOf];omega⟩;by_cases az:j=k
      ·subst az;obtain⟨x,o⟩:∃ x,st[j]? = some x:=⟨_,Az (by rw[E.out];exact av)⟩;rcases a.out.2.1.vals j x o with h | h | h
       ·subst h;exact absurd o C.out
       ·subst h;have:=(a.out.2.1.one j).1 o;simp at this
       ·subst h;exact(a.out.2.1.two j).1 o
      ·exact a.out.2.2.1 j (by omega)
     ·rw[Ad]at *;obtain⟨t,rest⟩:=e;obtain⟨gk,F,g,c,rfl,f1,f2,f3,f4,f5,f6,f7,f8,q,f10,f11,f12,f13,f14,f15,f16,f17,f18⟩:=a.out.1.top;have G:=a.out.1.k.cell 0;have cS:=a.out.1.s.cell 0;simp at G cS;rw[E.out]at cS;have sK:=a.out.1.k.lt;have sS:=a.out.1.s.lt;have sT:=a.out.1.t.lt;have zK:=frz a.out.1.k 0;have aA:t<n:=(by have:=a.out.2.1.lt (e:=(t,rest)) (by simp);rw[d.out]at this;exact this);have aB:(t:Int)<(n:Int):=(by omega);have R:st[t]? = some 1:=(a.out.2.1.one t).2 (by simp);have cT:=bJf a.out.1.t R;have zT:=frz a.out.1.t t;obtain⟨m,B⟩:=fX S.length;have F9:=fQ q;rw[B]at f1 q f10 G;have aS:m+1<=4096:=(by have:=a.out.2.1.small;rw[d.out]at this;simp at this;omega);have T:=fQ B;have aC:=fQ R;have an:=fQ f12;have q1:gk≠w.heap.size+1:=f6;have aT:m<F:=(by omega);have aD:(m:Int)<(F:Int):=(by omega);have aE:(m:Int)+1<=(F:Int):=(by omega);clear B R f12 f13;rcases Ab rest with rfl | ⟨b,x,rfl⟩
      ·have H:=an.out.at_ (k:=0) (by simp);simp[i64s,ints']at H;simp at q f11;go_wp2_with fail;go_region;have P1:=fQ (a.out.1.put t 2);go_wp2;go_roundg (muS (st.set t 2) S)
       case measure=>rw[<-O.out];exact dQb aC.out
       case rel=>
        have ao:=P1.out.pop;rw[T.out]at ao;refine⟨S,st.set t 2,D ++ [t],_,_,fQ ⟨ao.drew,a.out.2.1.pop,fun j hj=>BK _ (a.out.2.2.1 j hj),(((a.out.2.2.2).setCell (p:=⟨w.heap.size+1,t,none⟩) a.out.1.lT _).setCell (p:=⟨w.heap.size+1+1+1,0,none⟩) a.out.1.lK _).drew⟩,fQ ?_,fQ rfl⟩;by_cases e:t=k
        ·subst e;rw[Aw (by rw[E.out];exact aA)];simp
        ·rw[Ay e];exact C.out
      ·rw[Ad]at *;have H:=an.out.at_ (k:=b.length+1) (by simp);have e2:(i64s (ints' (t,b ++ [x])))[b.length+1]? = some (.int .i64 x):=(by simp[i64s,ints']);rw[Az (by simp[i64s,ints'])]at e2;injection e2 with e2;rw[e2,By]at H;simp only[BV,Bw,BQ]at q f11;obtain⟨l,U⟩:=fX b.length;rw[U]at H q f11
       have hle:l<=66:=by
        have h1:=aJz f.out t;obtain⟨proc,h2,_⟩:=a.out.2.1.ent S.length (t,b ++ [x]) (by simp);rw[h2]at h1;simp at h1;omega
       obtain⟨y,Z,V⟩:=f.out.edges (a.out.2.1.rest (e:=(t,b ++ [x])) (by simp) (x:=x) (by simp));subst Z;rw[d.out]at V;have aF:=fQ U;clear U e2;obtain⟨A,aq⟩:∃ A,r.code[y]? = some A:=⟨_,Az (by rw[d.out];exact V)⟩;have W:=fQ aq;have X:=fQ (a.out.1.shrink F9.out);rw[T.out,aF.out]at X;have I:=fQ ((a.out.2.2.2).setCell (p:=⟨gk,m,none⟩) f3 (.slice (some ⟨g,0,none⟩) (l+1) c));clear aq;go_wp2_with fail;refine(aWo r _ _ _ _ _ rv st (S ++ [(t,b)]) _ _ y A w _ X.out HR.out (Aj _) I.out W.out a.out.2.1.len (f.out.to y A W.out).2.1 (f.out.to y A W.out).2.2 (by simp[T.out];omega) (by rw[d.out];omega)).mono ?_;rintro en w3 (⟨J,v3,aU,rfl,ar,au⟩ | ⟨z,hz,Y,rfl,rfl⟩)
       ·have aG:=fQ ar;have aH:=fQ (I.out.trans au);have H0:=fQ J;clear ar au J;go_wp2;go_roundg (muS (st.set y 1) (S ++ [(t,b)] ++ [(y,edges r y)]))
        case measure=>rw[<-O.out];exact bWs H0.out (aJz f.out y)
        case rel=>
         refine⟨_,_,D,_,_,fQ ⟨aG.out,a.out.2.1.fresh H0.out,a.out.2.2.1,aH.out⟩,fQ ?_,fQ rfl⟩;by_cases e:y=k
         ·subst e;rw[Aw (by rw[E.out];exact V)];simp
         ·rw[Ay e];exact C.out
       ·rcases a.out.2.1.vals y z hz with h | h | h
        ·exact absurd h Y
        ·subst h;have aI:=fQ (a.out.2.1.fXj hz);rw[show((1:Int) == 1)=true from rfl];clear hz Y;go_wp2;go_ret;exact⟨true,rfl,⟨(fun _=>aI.out),(fun _=>rfl)⟩,I.out⟩
        ·subst h;have aJ:=fQ (a.out.2.1.skip hz);rw[show((2:Int) == 1)=false from rfl];clear hz Y;go_wp2;go_roundg (muS st (S ++ [(t,b)]))
         case measure=>rw[<-O.out];exact cZi
         case rel=>exact⟨_,_,D,_,_,fQ ⟨X.out,aJ.out,a.out.2.2.1,I.out⟩,C,fQ rfl⟩
   ·have K:=fQ (show aYq r w.heap.size w.heap.size (w.heap.size+1+1) (w.heap.size+1+1+1) (w.heap.size+1) rv w k [] st D v vs wo from IM.out);have L:=fQ (show st[k]? ≠ some 0 by rw[o];intro e;injection e with e;exact aN e);obtain⟨ay,M⟩:=fX st;obtain⟨N,ad⟩:∃ N:Stk,[]=N:=⟨_,rfl⟩;rw[M,ad]at K;rw[M]at L;obtain⟨y,Z⟩:∃ y:Bool,(x == 1)=y:=⟨_,rfl⟩;rw[Z];clear o aN M ad IM Z;go_wp2;go_loopg [] (muS ay N) (fun g wi=>∃ (stk:Stk) (st:List Int) (D:List Nat) (v:Bb) (vs:List Bb),Hid (aYq r w.heap.size w.heap.size (w.heap.size+1+1) (w.heap.size+1+1+1) (w.heap.size+1) rv w k stk st D v vs wi)/\Hid (st[k]? ≠ some 0)/\Hid (muS st stk=g))
    case atStart=>exact⟨_,_,_,_,_,K,L,fQ rfl⟩
    case round=>
     clear K L;obtain⟨stk,st,D,v,vs,a,C,O⟩:=hrel;have Q:=a.out.2.1.len;rw[d.out]at Q;have E:=fQ Q;clear Q;rcases Ab stk with rfl | ⟨S,e,rfl⟩
     ·obtain⟨Av,F,hv,_⟩:=fW a.out.1.own;subst hv;have G:=a.out.1.k.cell 0;simp at G;have sK:=a.out.1.k.lt;go_wp2;refine⟨⟨k+1,st,D,_,vs,by omega,by simp,fQ ⟨a.out.1,a.out.2.1,fun j hj=>?_,a.out.2.2.2⟩⟩,by simp[intOf];omega⟩;by_cases az:j=k
      ·subst az;obtain⟨x,o⟩:∃ x,st[j]? = some x:=⟨_,Az (by rw[E.out];exact av)⟩;rcases a.out.2.1.vals j x o with h | h | h
       ·subst h;exact absurd o C.out
       ·subst h;have:=(a.out.2.1.one j).1 o;simp at this
       ·subst h;exact(a.out.2.1.two j).1 o
      ·exact a.out.2.2.1 j (by omega)
     ·rw[Ad]at *;obtain⟨t,rest⟩:=e;obtain⟨gk,F,g,c,rfl,f1,f2,f3,f4,f5,f6,f7,f8,q,f10,f11,f12,f13,f14,f15,f16,f17,f18⟩:=a.out.1.top;have G:=a.out.1.k.cell 0;have cS:=a.out.1.s.cell 0;simp at G cS;rw[E.out]at cS;have sK:=a.out.1.k.lt;have sS:=a.out.1.s.lt;have sT:=a.out.1.t.lt;have zK:=frz a.out.1.k 0;have aA:t<n:=(by have:=a.out.2.1.lt (e:=(t,rest)) (by simp);rw[d.out]at this;exact this);have aB:(t:Int)<(n:Int):=(by omega);have R:st[t]? = some 1:=(a.out.2.1.one t).2 (by simp);have cT:=bJf a.out.1.t R;have zT:=frz a.out.1.t t;obtain⟨m,B⟩:=fX S.length;have F9:=fQ q;rw[B]at f1 q f10 G;have aS:m+1<=4096:=(by have:=a.out.2.1.small;rw[d.out]at this;simp at this;omega);have T:=fQ B;have aC:=fQ R;have an:=fQ f12;have q1:gk≠w.heap.size+1:=f6;have aT:m<F:=(by omega);have aD:(m:Int)<(F:Int):=(by omega);have aE:(m:Int)+1<=(F:Int):=(by omega);clear B R f12 f13;rcases Ab rest with rfl | ⟨b,x,rfl⟩
      ·have H:=an.out.at_ (k:=0) (by simp);simp[i64s,ints']at H;simp at q f11;go_wp2_with fail;go_region;have P1:=fQ (a.out.1.put t 2);go_wp2;go_roundg (muS (st.set t 2) S)
       case measure=>rw[<-O.out];exact dQb aC.out
       case rel=>
        have ao:=P1.out.pop;rw[T.out]at ao;refine⟨S,st.set t 2,D ++ [t],_,_,fQ ⟨ao.drew,a.out.2.1.pop,fun j hj=>BK _ (a.out.2.2.1 j hj),(((a.out.2.2.2).setCell (p:=⟨w.heap.size+1,t,none⟩) a.out.1.lT _).setCell (p:=⟨w.heap.size+1+1+1,0,none⟩) a.out.1.lK _).drew⟩,fQ ?_,fQ rfl⟩;by_cases e:t=k
        ·subst e;rw[Aw (by rw[E.out];exact aA)];simp
        ·rw[Ay e];exact C.out
      ·rw[Ad]at *;have H:=an.out.at_ (k:=b.length+1) (by simp);have e2:(i64s (ints' (t,b ++ [x])))[b.length+1]? = some (.int .i64 x):=(by simp[i64s,ints']);rw[Az (by simp[i64s,ints'])]at e2;injection e2 with e2;rw[e2,By]at H;simp only[BV,Bw,BQ]at q f11;obtain⟨l,U⟩:=fX b.length;rw[U]at H q f11
       have hle:l<=66:=by
        have h1:=aJz f.out t;obtain⟨proc,h2,_⟩:=a.out.2.1.ent S.length (t,b ++ [x]) (by simp);rw[h2]at h1;simp at h1;omega
       obtain⟨y,Z,V⟩:=f.out.edges (a.out.2.1.rest (e:=(t,b ++ [x])) (by simp) (x:=x) (by simp));subst Z;rw[d.out]at V;have aF:=fQ U;clear U e2;obtain⟨A,aq⟩:∃ A,r.code[y]? = some A:=⟨_,Az (by rw[d.out];exact V)⟩;have W:=fQ aq;have X:=fQ (a.out.1.shrink F9.out);rw[T.out,aF.out]at X;have I:=fQ ((a.out.2.2.2).setCell (p:=⟨gk,m,none⟩) f3 (.slice (some ⟨g,0,none⟩) (l+1) c));clear aq;go_wp2_with fail;refine(aWo r _ _ _ _ _ rv st (S ++ [(t,b)]) _ _ y A w _ X.out HR.out (Aj _) I.out W.out a.out.2.1.len (f.out.to y A W.out).2.1 (f.out.to y A W.out).2.2 (by simp[T.out];omega) (by rw[d.out];omega)).mono ?_;rintro en w3 (⟨J,v3,aU,rfl,ar,au⟩ | ⟨z,hz,Y,rfl,rfl⟩)
       ·have aG:=fQ ar;have aH:=fQ (I.out.trans au);have H0:=fQ J;clear ar au J;go_wp2;go_roundg (muS (st.set y 1) (S ++ [(t,b)] ++ [(y,edges r y)]))
        case measure=>rw[<-O.out];exact bWs H0.out (aJz f.out y)
        case rel=>
         refine⟨_,_,D,_,_,fQ ⟨aG.out,a.out.2.1.fresh H0.out,a.out.2.2.1,aH.out⟩,fQ ?_,fQ rfl⟩;by_cases e:y=k
         ·subst e;rw[Aw (by rw[E.out];exact V)];simp
         ·rw[Ay e];exact C.out
       ·rcases a.out.2.1.vals y z hz with h | h | h
        ·exact absurd h Y
        ·subst h;have aI:=fQ (a.out.2.1.fXj hz);rw[show((1:Int) == 1)=true from rfl];clear hz Y;go_wp2;go_ret;exact⟨true,rfl,⟨(fun _=>aI.out),(fun _=>rfl)⟩,I.out⟩
        ·subst h;have aJ:=fQ (a.out.2.1.skip hz);rw[show((2:Int) == 1)=false from rfl];clear hz Y;go_wp2;go_roundg (muS st (S ++ [(t,b)]))
         case measure=>rw[<-O.out];exact cZi
         case rel=>exact⟨_,_,D,_,_,fQ ⟨X.out,aJ.out,a.out.2.2.1,I.out⟩,C,fQ rfl⟩
  ·have ax:decide ((k:Int)<n)=false:=(by simp;omega);have HD:=fQ (show Ranked r from IM.out.2.1.done.fXi (fun i hi=>IM.out.2.2.1 i (by rw[d.out]at hi;omega)));go_wp2;go_ret;exact⟨false,rfl,⟨(fun h=>by cases h),(fun h=>absurd HD.out h)⟩,IM.out.2.2.2⟩
end Go.Proofs.YtabibkpfgmolkaaGreat

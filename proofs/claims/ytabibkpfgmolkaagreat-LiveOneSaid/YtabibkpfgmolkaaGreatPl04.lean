/- Lemmas for the claim, part 4. Conditions: none. -/
import Derived.Test.YtabibkpfgmolkaaGreatPl03
set_option maxRecDepth 100000
set_option maxHeartbeats 16000000
set_option linter.unusedVariables false
set_option linter.unusedSimpArgs false
open Go.Lib renaming hid→fQ
open Go.Proofs.Tryz renaming prog→fZ
open Go.Proofs.Tryz
open Go.RowKit
open Nat renaming le_refl→Aj,sub_self→AV,add_zero→Bk
open List renaming getElem?_append_left→Ax,getElem?_append_right→Az,getElem?_eq_getElem→Ak,getElem?_set_self→Ay,getElem?_set_ne→AQ,append_assoc→AK,getElem?_map→AW,take_succ_eq_append_getElem→AY,take_of_length_le→Aa,nodup_append→Ab,length_take→Ae,take_append_of_le_length→Af,mem_append→Ah,map_append→Bj,mem_of_getElem?→Bq,nil_append→Bx,count_set→Bz
open Bool renaming true_and→Aw,false_and→AJ,and_true→AX
open Go.RowKit.Below renaming refl→AZ
open Option renaming map_eq_some_iff→Ad
open Go renaming World→Bv,Value→Bw
open Go.RowKit renaming Below→By
namespace Go.Proofs.YtabibkpfgmolkaaGreat
variable {st l:List Int}{w:Bv}{k t base gS bR bS bK i:Nat}{D:List Nat}{x p:Int}{v:Bw}
theorem bJr(h:l[k]? = some p)(h1:x ∉ l.take k)(h2:p≠x):x ∉ l.take (k+1):=by
 obtain⟨a,e⟩:=List.getElem?_eq_some_iff.1 h;rw[AY a,e,Ah];rintro(h | h)
 ·exact h1 h
 ·simp at h;exact h2 h.symm
theorem cJj(v:Bw)(l:List Int)(x:Int)(w:Bv)(hs:IR w v l)(hm:l.length<=9223372036854775807):
  Calls fZ 76 #[v,.int .i64 x] w fun e w'=>∃ r:Int,e = .returned (.int .i64 r)/\decide (0<=r)=decide (x∈l)/\w=w':=by
 obtain⟨A,c,rfl⟩:=hs.shape;have j:=fQ hs;clear hs;go_in;go_wp2;go_loopw [8] (fun i wr=>∃ k:Nat,k<=l.length/\i = .int .i64 k/\Hid (x ∉ l.take k)/\Hid (w=wr)) (fun i _=>l.length - (intOf i).toNat)
 case atStart=>exact⟨0,by omega,rfl,fQ (by simp),fQ rfl⟩
 case round=>
  obtain⟨k,hk,rfl,d,f⟩:=hrel;obtain rfl:=f.out;clear f;by_cases g:k<l.length
  ·have ad:(k:Int)<(l.length:Int):=(by omega);obtain⟨y,a⟩:∃ y,l[k]? = some y:=⟨_,Ak g⟩;obtain⟨ab,ao,rfl,hab,ag⟩:=j.out.cell a;have h:=fQ a;clear a;by_cases he:x=y
   ·subst he;have m:=fQ (Bq h.out);have n:(x == x)=true:=(by simp);go_wp2;go_ret;exact⟨k,rfl,by rw[decide_eq_true m.out];simp,rfl⟩
   ·have n:(x == y)=false:=(by simp[he]);have b:=fQ (bJr h.out d.out (fun e=>he e.symm));clear he;go_wp2;exact⟨⟨k+1,by omega,by simp,b,fQ (by trivial)⟩,by simp[intOf];omega⟩
  ·have af:¬k<l.length:=g;have b:=fQ (show x ∉ l by have:=d.out;rwa[Aa (by omega)]at this);go_wp2;go_ret;exact⟨-1,rfl,by rw[decide_eq_false b.out];rfl,rfl⟩
theorem vY(v:Bw)(l:List Int)(x:Int)(w:Bv)(hs:IR w v l)(b:l.length<=9223372036854775807):
  Calls fZ 46 #[v,.int .i64 x] w fun e w'=>e = .returned (.bool (decide (x∈l)))/\w=w':=by
 obtain⟨A,c,rfl⟩:=hs.shape;have d:=fQ hs;clear hs;go_in;go_wp2_with fail;refine(cJj _ l x _ d.out b).mono ?_;rintro e w1 ⟨r,rfl,a,rfl⟩;have f:=fQ a;clear a;go_wp2;go_ret;exact⟨by rw[<-f.out];rfl,rfl⟩
def aJf(n x:Int):Bool:=!decide (0<=x/\x<n)
theorem bVz(n x:Int)(b:Nat)(w:Bv)(hc:w.cell? ⟨b,0,none⟩=some (.int .i64 n)):Calls fZ 98 #[.int .i64 x,.pointer (some ⟨b,0,none⟩)] w fun e w'=>e = .returned (.bool (aJf n x))/\By w.heap.size w w':=by
 by_cases h1:x<0
 ·have c:decide (x<0)=true:=(by simpa using h1);have a:=fQ (show aJf n x=true by simp[aJf];omega);go_in;go_wp2;go_ret;exact⟨by rw[a.out];rfl,AZ _ _⟩
 ·have c:decide (x<0)=false:=(by simpa using h1);by_cases h2:n<=x
  ·have d:decide (n<=x)=true:=(by simpa using h2);have a:=fQ (show aJf n x=true by simp[aJf];omega);go_in;go_wp2;go_ret;exact⟨by rw[a.out];rfl,AZ _ _⟩
  ·have d:decide (n<=x)=false:=(by simpa using h2);have a:=fQ (show aJf n x=false by simp[aJf];omega);go_in;go_wp2;go_ret;exact⟨by rw[a.out];rfl,AZ _ _⟩
theorem oK(n:Int)(v:Bw)(l:List Int)(w:Bv)(hs:IR w v l)(d:l.length<=9223372036854775807):
  Calls fZ 70 #[.int .i64 n,v] w fun e w'=>e = .returned (.bool (within n l))/\By w.heap.size w w':=by
 obtain⟨A,c,rfl⟩:=hs.shape;have B0:=fQ (show By w.heap.size w (w.alloc (.cells #[.int .i64 n] 3))from(AZ _ _).alloc (Aj _) _);have f:=fQ (hs.below B0.out (Aj _));have a:=fQ (Blk.new w 3 #[.int .i64 n])
 have g:=fQ (show within n l = !(l.any (aJf n)) by
  have:=bQg l (fun x=>decide (0<=x/\x<n))
  rw[within,<-this];rfl)
 clear hs;go_in;go_wp2_with fail
 refine(bQi A l.length c l (aJf n) w.heap.size _ f.out d (fun x hx v w' hb e=>by
  subst e;have hc:=(a.out.below hb a.out.lt).cell 0;simp at hc
  exact bVz n x _ w' hc)).mono ?_
 rintro e w1 ⟨rfl,b⟩;have h:=fQ (B0.out.trans (b.mono B0.out.size));clear b;go_wp2;go_ret;exact⟨by rw[g.out];rfl,h.out⟩
theorem bYz(h:l[k]? = some p)(h1:(l.take k).Nodup)(h2:p ∉ l.take k):(l.take (k+1)).Nodup:=by
 obtain⟨c,e⟩:=List.getElem?_eq_some_iff.1 h;rw[AY c,e,Ab];refine⟨h1,by simp,?_⟩;intro a ha b hb;simp at hb;subst hb;intro e;subst e;exact h2 ha
theorem cJk(h:l[k]? = some p)(h2:p∈l.take k):¬l.Nodup:=by
 intro hn;obtain⟨a,e⟩:=List.getElem?_eq_some_iff.1 h;rw[<-List.take_append_drop k l,Ab]at hn;refine hn.2.2 p h2 p ?_ rfl;rw[List.drop_eq_getElem_cons a,e];simp
theorem aQy(v:Bw)(l:List Int)(w:Bv)(hs:IR w v l)(hm:l.length<=9223372036854775807)(f:∀ A n c,v = .slice A n c->n<=c):
  Calls fZ 71 #[v] w fun e w'=>e = .returned (.bool (decide l.Nodup))/\w=w':=by
 obtain⟨A,c,rfl⟩:=hs.shape;have hc:=f _ _ _ rfl;have g:=fQ hs;clear hs f;go_in;go_wp2;go_loopw [7] (fun i wr=>∃ k:Nat,k<=l.length/\i = .int .i64 k/\Hid ((l.take k).Nodup)/\Hid (w=wr)) (fun i _=>l.length - (intOf i).toNat)
 case atStart=>exact⟨0,by omega,rfl,fQ (by simp),fQ rfl⟩
 case round=>
  obtain⟨k,hk,rfl,h,j⟩:=hrel;obtain rfl:=j.out;clear j;by_cases m:k<l.length
  ·have ad:(k:Int)<(l.length:Int):=(by omega);have ah:k<=c:=(by omega);have ae:(k:Int)<=(c:Int):=(by omega);obtain⟨y,a⟩:∃ y,l[k]? = some y:=⟨_,Ak m⟩;obtain⟨q,r,rfl,hab,ai⟩:=g.out.cell a;have o:=fQ a
   have p:=fQ (show IR w (.slice (some ⟨q,r,none⟩) k c) (l.take k) by
    obtain⟨A',c',e',s⟩:=g.out;injection e' with t e2 e3;subst t;refine IR.of ?_ (by rw[Ae];omega);rw[<-bQz]
    exact s.take (by omega))
   clear a;by_cases he:y∈l.take k
   ·have b:=fQ (show decide (y∈l.take k)=true by simpa using he);have u:=fQ (decide_eq_false (cJk o.out he));clear he;go_wp2_with fail;refine(vY _ (l.take k) y _ p.out (by rw[Ae];omega)).mono ?_;rintro e w1 ⟨rfl,rfl⟩;rw[b.out];go_wp2;go_ret;exact⟨by rw[u.out];rfl,rfl⟩
   ·have b:=fQ (show decide (y∈l.take k)=false by simpa using he);have d:=fQ (bYz o.out h.out he);clear he;go_wp2_with fail;refine(vY _ (l.take k) y _ p.out (by rw[Ae];omega)).mono ?_;rintro e w1 ⟨rfl,rfl⟩;rw[b.out];go_wp2;exact⟨⟨k+1,by omega,by simp,d,fQ (by trivial)⟩,by simp[intOf];omega⟩
  ·have ag:¬k<l.length:=m;have d:=fQ (show decide l.Nodup=true by have:=h.out;rw[Aa (by omega)]at this;simpa using this);go_wp2;go_ret;exact⟨by rw[d.out];rfl,rfl⟩
theorem al3(w:Bv)(a b c:Obj):By w.heap.size w (((w.alloc a).alloc b).alloc c):=(((AZ _ _).alloc (Aj _) _).alloc (by simp) _).alloc (by simp;omega) _
def vV(e:EnvD)(r:RowD)(c:CodeD)(ok:Bool)(most:Nat)(i o:List Int)(a b:Int):Bool:=
 ok && (decide (c.n<=most) && (decide (c.args.length=i.length) && (decide (c.outs.length=o.length) && (decide (a<=(c.to.length:Int)) && (decide ((c.to.length:Int)<=b) &&
  (within r.places c.args && (within r.places c.outs && (decide c.outs.Nodup && within r.code.length c.to))))))))
theorem dKq{e:EnvD}{r:RowD}{c:CodeD}{ok:Bool}{most:Nat}{i o:List Int}{a b:Int}
  (j:iZ e r.sig c.op c.n=none->ok=false\/most<c.n) (k:∀ x,iZ e r.sig c.op c.n=some x->ok=true/\c.n<=most/\x=(i,o)/\a=qK c.op/\b=nX c.op) :
  codeOk e r c=vV e r c ok most i o a b:=by
 cases hf:iZ e r.sig c.op c.n with
 | none=>
  simp only[codeOk,hf,vV];rcases j hf with h | h
  ·rw[h];rfl
  ·rw[decide_eq_false (by omega)];cases ok <;> rfl
 | some x=>
  obtain⟨h1,h2,l,m,p⟩:=k x hf;subst l;subst m;subst p;simp only[codeOk,hf,vV,h1,decide_eq_true h2,Aw];by_cases q1:c.args.length=i.length
  ·by_cases d:c.outs.length=o.length
   ·by_cases f:qK c.op<=(c.to.length:Int)
    ·by_cases g:(c.to.length:Int)<=nX c.op
     ·simp only[decide_eq_true q1,decide_eq_true d,decide_eq_true f,decide_eq_true g,decide_eq_true (show _/\_/\_/\_ from⟨q1,d,f,g⟩),Aw]
     ·rw[decide_eq_false (fun h=>g h.2.2.2),decide_eq_false g];simp
    ·rw[decide_eq_false (fun h=>f h.2.2.1),decide_eq_false f];simp
   ·rw[decide_eq_false (fun h=>d h.2.1),decide_eq_false d];simp
  ·rw[decide_eq_false (fun h=>q1 h.1),decide_eq_false q1];simp
theorem aYe(e:EnvD)(r:RowD)(c:CodeD)(ve vr vc:Bw)(w:Bv)(he:EnvV w ve e)(hr:RowV w vr r)(hc:CodeV w vc c)(aw:e.muts.length=e.globals.length):
  Calls fZ 74 #[ve,vr,vc] w fun G w'=>G = .returned (.bool (codeOk e r c))/\By w.heap.size w w':=by
 have ax:=he;obtain⟨va,vb,vd,rfl,h1,h2,h3⟩:=he;obtain⟨As,cs,rfl,_⟩:=h1.len;obtain⟨Ag,cg,rfl⟩:=h2.shape;obtain⟨Am,cm,rfl,_⟩:=h3;obtain⟨vp,vq,vr,vs,rfl,h4,h5,h6,h7⟩:=hr;obtain⟨Ap,cp,rfl⟩:=h4.shape;obtain⟨Aq,cq,rfl⟩:=h5.shape;obtain⟨Ar,cr,rfl⟩:=h6.shape;obtain⟨Ac,cc,rfl,_⟩:=h7.len;obtain⟨v2,v3,v4,rfl,ay,h8,h9,ar⟩:=hc;obtain⟨A2,c2,rfl⟩:=h8.shape;obtain⟨A3,c3,rfl⟩:=h9.shape;obtain⟨A4,c4,rfl⟩:=ar.shape;have l7:=h7.eXi;have l8:=h8.eXi;have l9:=h9.eXi;have aG:=ar.eXi;have T:=fQ (al3 w (.cells #[.slice As e.sigs.length cs,.int .i64 e.imports,.slice Ag e.globals.length cg,.slice Am e.muts.length cm,.bool e.mem] 26) (.cells #[.slice Ap r.sig.inn.length cp,.slice Aq r.sig.out.length cq,.int .i64 r.places,.slice Ar r.params.length cr,.slice Ac r.code.length cc] 43) (.cells #[.int .i64 c.op,.int .u64 (c.n:Int),.slice A2 c.args.length c2,.slice A3 c.outs.length c3,.slice A4 c.to.length c4] 52));have E1:=fQ ((Blk.newAt (w.alloc (.cells #[.slice As e.sigs.length cs,.int .i64 e.imports,.slice Ag e.globals.length cg,.slice Am e.muts.length cm,.bool e.mem] 26)) (N:=w.heap.size+1) 43 #[.slice Ap r.sig.inn.length cp,.slice Aq r.sig.out.length cq,.int .i64 r.places,.slice Ar r.params.length cr,.slice Ac r.code.length cc] (by simp)).alloc (.cells #[.int .i64 c.op,.int .u64 (c.n:Int),.slice A2 c.args.length c2,.slice A3 c.outs.length c3,.slice A4 c.to.length c4] 52));have E2:=fQ (at3 w (.cells #[.slice As e.sigs.length cs,.int .i64 e.imports,.slice Ag e.globals.length cg,.slice Am e.muts.length cm,.bool e.mem] 26) (.cells #[.slice Ap r.sig.inn.length cp,.slice Aq r.sig.out.length cq,.int .i64 r.places,.slice Ar r.params.length cr,.slice Ac r.code.length cc] 43) 52 #[.int .i64 c.op,.int .u64 (c.n:Int),.slice A2 c.args.length c2,.slice A3 c.outs.length c3,.slice A4 c.to.length c4]);have m:=fQ (h8.ir.below T.out (Aj _));have l:=fQ (h9.ir.below T.out (Aj _));have p:=fQ (ar.ir.below T.out (Aj _));have aD:=fQ (ax.below T.out (Aj _));have aE:=fQ (show SigV _ _ r.sig from⟨_,_,rfl,h4.below T.out (Aj _),h5.below T.out (Aj _)⟩);have au:=fQ ay;have aF:=fQ aw;clear h1 h2 h4 h5 h6 h7 h8 h9 ar ax ay aw;go_in;go_wp2_with fail;simp only[List.append_eq,List.cons_append,Bx]at *;refine(bVv c.op au.out.2.1 au.out.2.2 e r.sig _ _ c.n au.out.1 _ aD.out aE.out aF.out).mono ?_;rintro G w1 ⟨vi,vo,most,a,b,ok,i,o,rfl,az,aA,ao,hP,hQ,_,Z⟩;obtain⟨Ai,ci,rfl⟩:=az.shape;obtain⟨Ao,co,rfl⟩:=aA.shape;have O:=fQ (dKq hP hQ);have B4:=fQ (T.out.trans (Z.mono T.out.size));have al:=Z.alloc Z.size (.cells #[.slice Ai i.length ci,.slice Ao o.length co,.int .u64 (most:Int),.int .i64 a,.int .i64 b] 151);have aB:=fQ (E1.out.below Z E1.out.lt);have aC:=fQ (E2.out.below Z E2.out.lt);have f:=fQ (E1.out.below al E1.out.lt);have g:=fQ (E2.out.below al E2.out.lt);have m:=fQ (m.out.below al (Aj _));have l:=fQ (l.out.below al (Aj _));have p:=fQ (p.out.below al (Aj _));have j:=fQ (Blk.new w1 151 #[.slice Ai i.length ci,.slice Ao o.length co,.int .u64 (most:Int),.int .i64 a,.int .i64 b])
 have k:=fQ (B4.out.alloc B4.out.size (.cells #[.slice Ai i.length ci,.slice Ao o.length co,.int .u64 (most:Int),.int .i64 a,.int .i64 b] 151));clear Z al hP hQ az aA ao;have k1:=aB.out.lt;have k2:=aC.out.lt;obtain⟨q,s,t,u,v⟩:=gJ aB.out;obtain⟨x,y,z,B,C⟩:=gJ aC.out;have s0:=k1;have s1:=k1;have s2:=k1;have s3:=k1;have s4:=k1
 cases ok with
 | false=>
  have D:=fQ (show codeOk e r c=false by rw[O.out];simp only[vV,Aw,AJ,AX]);go_wp2;go_ret;exact⟨by rw[D.out];rfl,k.out⟩
 | true=>
  by_cases E:c.n<=most
  ·by_cases F:c.args.length=i.length
   ·by_cases H:c.outs.length=o.length
    ·by_cases J:a<=(c.to.length:Int)
     ·by_cases L:(c.to.length:Int)<=b
      ·cases I:within r.places c.args with
       | true=>
        cases M:within r.places c.outs with
        | true=>
         by_cases P:c.outs.Nodup
         ·cases an:within r.code.length c.to with
          | true=>
           have Q:decide ((c.n:Int)<=(most:Int))=true:=(by simp;omega);have R:c.n<=most:=(by omega);have U:((c.args.length:Int) == (i.length:Int))=true:=(by simp;omega);have V:(c.args.length == i.length)=true:=(by simp;omega);have W:((c.outs.length:Int) == (o.length:Int))=true:=(by simp;omega);have X:(c.outs.length == o.length)=true:=(by simp;omega);have g4:decide (a<=(c.to.length:Int))=true:=(by simpa using J);have g5:decide ((c.to.length:Int)<=b)=true:=(by simpa using L);have D:=fQ (show codeOk e r c=true by rw[O.out];simp only[vV,decide_eq_true E,decide_eq_true F,decide_eq_true H,decide_eq_true J,decide_eq_true L,I,M,decide_eq_true P,an,Aw,AJ,AX]);have S:=fQ (show within r.places c.args=true from I);have Y:=fQ (show within r.places c.outs=true from M);have aq:=fQ (show decide c.outs.Nodup=true from decide_eq_true P);have av:=fQ (show within r.code.length c.to=true from an);clear E F H I M P an;go_wp2_with fail;refine(oK r.places _ c.args _ m.out (by omega)).mono ?_;rintro G K ⟨rfl,d⟩;rw[S.out];have k:=fQ (k.out.trans (d.mono k.out.size));have f:=fQ (f.out.below d f.out.lt);have g:=fQ (g.out.below d g.out.lt);have j:=fQ (j.out.below d j.out.lt);have m:=fQ (m.out.below d (Aj _));have l:=fQ (l.out.below d (Aj _));have p:=fQ (p.out.below d (Aj _));clear d;clear q s t u v x y z B C s0 s1 s2 s3 s4;obtain⟨q,s,t,u,v⟩:=gJ f.out;obtain⟨x,y,z,B,C⟩:=gJ g.out;obtain⟨s0,s1,s2,s3,s4⟩:=gJ j.out;go_wp2_with fail;refine(oK r.places _ c.outs _ l.out (by omega)).mono ?_;rintro G K ⟨rfl,d⟩;rw[Y.out];have k:=fQ (k.out.trans (d.mono k.out.size));have f:=fQ (f.out.below d f.out.lt);have g:=fQ (g.out.below d g.out.lt);have j:=fQ (j.out.below d j.out.lt);have m:=fQ (m.out.below d (Aj _));have l:=fQ (l.out.below d (Aj _));have p:=fQ (p.out.below d (Aj _));clear d;clear q s t u v x y z B C s0 s1 s2 s3 s4;obtain⟨q,s,t,u,v⟩:=gJ f.out;obtain⟨x,y,z,B,C⟩:=gJ g.out;obtain⟨s0,s1,s2,s3,s4⟩:=gJ j.out;go_wp2_with fail;refine(aQy _ c.outs _ l.out (by omega) (fun A n c h=>by injection h with e1 e2 e3;omega)).mono ?_;rintro G K ⟨rfl,rfl⟩;rw[aq.out];go_wp2_with fail;refine(oK r.code.length _ c.to _ p.out (by omega)).mono ?_;rintro G K ⟨rfl,d⟩;rw[av.out];have k:=fQ (k.out.trans (d.mono k.out.size));have f:=fQ (f.out.below d f.out.lt);have g:=fQ (g.out.below d g.out.lt);have j:=fQ (j.out.below d j.out.lt);have m:=fQ (m.out.below d (Aj _));have l:=fQ (l.out.below d (Aj _));have p:=fQ (p.out.below d (Aj _));clear d;clear q s t u v x y z B C s0 s1 s2 s3 s4;obtain⟨q,s,t,u,v⟩:=gJ f.out;obtain⟨x,y,z,B,C⟩:=gJ g.out;obtain⟨s0,s1,s2,s3,s4⟩:=gJ j.out;go_wp2;go_ret;exact⟨by rw[D.out];rfl,k.out⟩
          | false=>
           have Q:decide ((c.n:Int)<=(most:Int))=true:=(by simp;omega);have R:c.n<=most:=(by omega);have U:((c.args.length:Int) == (i.length:Int))=true:=(by simp;omega);have V:(c.args.length == i.length)=true:=(by simp;omega);have W:((c.outs.length:Int) == (o.length:Int))=true:=(by simp;omega);have X:(c.outs.length == o.length)=true:=(by simp;omega);have g4:decide (a<=(c.to.length:Int))=true:=(by simpa using J);have g5:decide ((c.to.length:Int)<=b)=true:=(by simpa using L);have D:=fQ (show codeOk e r c=false by rw[O.out];simp only[vV,decide_eq_true E,decide_eq_true F,decide_eq_true H,decide_eq_true J,decide_eq_true L,I,M,decide_eq_true P,an,Aw,AJ,AX]);have S:=fQ (show within r.places c.args=true from I);have Y:=fQ (show within r.places c.outs=true from M);have aq:=fQ (show decide c.outs.Nodup=true from decide_eq_true P);have av:=fQ (show within r.code.length c.to=false from an);clear E F H I M P an;go_wp2_with fail;refine(oK r.places _ c.args _ m.out (by omega)).mono ?_;rintro G K ⟨rfl,d⟩;rw[S.out];have k:=fQ (k.out.trans (d.mono k.out.size));have f:=fQ (f.out.below d f.out.lt);have g:=fQ (g.out.below d g.out.lt);have j:=fQ (j.out.below d j.out.lt);have m:=fQ (m.out.below d (Aj _));have l:=fQ (l.out.below d (Aj _));have p:=fQ (p.out.below d (Aj _));clear d;clear q s t u v x y z B C s0 s1 s2 s3 s4;obtain⟨q,s,t,u,v⟩:=gJ f.out;obtain⟨x,y,z,B,C⟩:=gJ g.out;obtain⟨s0,s1,s2,s3,s4⟩:=gJ j.out;go_wp2_with fail;refine(oK r.places _ c.outs _ l.out (by omega)).mono ?_;rintro G K ⟨rfl,d⟩;rw[Y.out];have k:=fQ (k.out.trans (d.mono k.out.size));have f:=fQ (f.out.below d f.out.lt);have g:=fQ (g.out.below d g.out.lt);have j:=fQ (j.out.below d j.out.lt);have m:=fQ (m.out.below d (Aj _));have l:=fQ (l.out.below d (Aj _));have p:=fQ (p.out.below d (Aj _));clear d;clear q s t u v x y z B C s0 s1 s2 s3 s4;obtain⟨q,s,t,u,v⟩:=gJ f.out;obtain⟨x,y,z,B,C⟩:=gJ g.out;obtain⟨s0,s1,s2,s3,s4⟩:=gJ j.out;go_wp2_with fail;refine(aQy _ c.outs _ l.out (by omega) (fun A n c h=>by injection h with e1 e2 e3;omega)).mono ?_;rintro G K ⟨rfl,rfl⟩;rw[aq.out];go_wp2_with fail;refine(oK r.code.length _ c.to _ p.out (by omega)).mono ?_;rintro G K ⟨rfl,d⟩;rw[av.out];have k:=fQ (k.out.trans (d.mono k.out.size));have f:=fQ (f.out.below d f.out.lt);have g:=fQ (g.out.below d g.out.lt);have j:=fQ (j.out.below d j.out.lt);have m:=fQ (m.out.below d (Aj _));have l:=fQ (l.out.below d (Aj _));have p:=fQ (p.out.below d (Aj _));clear d;clear q s t u v x y z B C s0 s1 s2 s3 s4;obtain⟨q,s,t,u,v⟩:=gJ f.out;obtain⟨x,y,z,B,C⟩:=gJ g.out;obtain⟨s0,s1,s2,s3,s4⟩:=gJ j.out;go_wp2;go_ret;exact⟨by rw[D.out];rfl,k.out⟩
         ·have Q:decide ((c.n:Int)<=(most:Int))=true:=(by simp;omega);have R:c.n<=most:=(by omega);have U:((c.args.length:Int) == (i.length:Int))=true:=(by simp;omega);have V:(c.args.length == i.length)=true:=(by simp;omega);have W:((c.outs.length:Int) == (o.length:Int))=true:=(by simp;omega);have X:(c.outs.length == o.length)=true:=(by simp;omega);have g4:decide (a<=(c.to.length:Int))=true:=(by simpa using J);have g5:decide ((c.to.length:Int)<=b)=true:=(by simpa using L);have D:=fQ (show codeOk e r c=false by rw[O.out];simp only[vV,decide_eq_true E,decide_eq_true F,decide_eq_true H,decide_eq_true J,decide_eq_true L,I,M,decide_eq_false P,Aw,AJ,AX]);have S:=fQ (show within r.places c.args=true from I);have Y:=fQ (show within r.places c.outs=true from M);have aq:=fQ (show decide c.outs.Nodup=false from decide_eq_false P);clear E F H I M P;go_wp2_with fail;refine(oK r.places _ c.args _ m.out (by omega)).mono ?_;rintro G K ⟨rfl,d⟩;rw[S.out];have k:=fQ (k.out.trans (d.mono k.out.size));have f:=fQ (f.out.below d f.out.lt);have g:=fQ (g.out.below d g.out.lt);have j:=fQ (j.out.below d j.out.lt);have m:=fQ (m.out.below d (Aj _));have l:=fQ (l.out.below d (Aj _));have p:=fQ (p.out.below d (Aj _));clear d;clear q s t u v x y z B C s0 s1 s2 s3 s4;obtain⟨q,s,t,u,v⟩:=gJ f.out;obtain⟨x,y,z,B,C⟩:=gJ g.out;obtain⟨s0,s1,s2,s3,s4⟩:=gJ j.out;go_wp2_with fail;refine(oK r.places _ c.outs _ l.out (by omega)).mono ?_;rintro G K ⟨rfl,d⟩;rw[Y.out];have k:=fQ (k.out.trans (d.mono k.out.size));have f:=fQ (f.out.below d f.out.lt);have g:=fQ (g.out.below d g.out.lt);have j:=fQ (j.out.below d j.out.lt);have m:=fQ (m.out.below d (Aj _));have l:=fQ (l.out.below d (Aj _));have p:=fQ (p.out.below d (Aj _));clear d;clear q s t u v x y z B C s0 s1 s2 s3 s4;obtain⟨q,s,t,u,v⟩:=gJ f.out;obtain⟨x,y,z,B,C⟩:=gJ g.out;obtain⟨s0,s1,s2,s3,s4⟩:=gJ j.out;go_wp2_with fail;refine(aQy _ c.outs _ l.out (by omega) (fun A n c h=>by injection h with e1 e2 e3;omega)).mono ?_;rintro G K ⟨rfl,rfl⟩;rw[aq.out];go_wp2;go_ret;exact⟨by rw[D.out];rfl,k.out⟩
        | false=>
         have Q:decide ((c.n:Int)<=(most:Int))=true:=(by simp;omega);have R:c.n<=most:=(by omega);have U:((c.args.length:Int) == (i.length:Int))=true:=(by simp;omega);have V:(c.args.length == i.length)=true:=(by simp;omega);have W:((c.outs.length:Int) == (o.length:Int))=true:=(by simp;omega);have X:(c.outs.length == o.length)=true:=(by simp;omega);have g4:decide (a<=(c.to.length:Int))=true:=(by simpa using J);have g5:decide ((c.to.length:Int)<=b)=true:=(by simpa using L);have D:=fQ (show codeOk e r c=false by rw[O.out];simp only[vV,decide_eq_true E,decide_eq_true F,decide_eq_true H,decide_eq_true J,decide_eq_true L,I,M,Aw,AJ,AX]);have S:=fQ (show within r.places c.args=true from I);have Y:=fQ (show within r.places c.outs=false from M);clear E F H I M;go_wp2_with fail;refine(oK r.places _ c.args _ m.out (by omega)).mono ?_;rintro G K ⟨rfl,d⟩;rw[S.out];have k:=fQ (k.out.trans (d.mono k.out.size));have f:=fQ (f.out.below d f.out.lt);have g:=fQ (g.out.below d g.out.lt);have j:=fQ (j.out.below d j.out.lt);have m:=fQ (m.out.below d (Aj _));have l:=fQ (l.out.below d (Aj _));have p:=fQ (p.out.below d (Aj _));clear d;clear q s t u v x y z B C s0 s1 s2 s3 s4;obtain⟨q,s,t,u,v⟩:=gJ f.out;obtain⟨x,y,z,B,C⟩:=gJ g.out;obtain⟨s0,s1,s2,s3,s4⟩:=gJ j.out;go_wp2_with fail;refine(oK r.places _ c.outs _ l.out (by omega)).mono ?_;rintro G K ⟨rfl,d⟩;rw[Y.out];have k:=fQ (k.out.trans (d.mono k.out.size));have f:=fQ (f.out.below d f.out.lt);have g:=fQ (g.out.below d g.out.lt);have j:=fQ (j.out.below d j.out.lt);have m:=fQ (m.out.below d (Aj _));have l:=fQ (l.out.below d (Aj _));have p:=fQ (p.out.below d (Aj _));clear d;clear q s t u v x y z B C s0 s1 s2 s3 s4;obtain⟨q,s,t,u,v⟩:=gJ f.out;obtain⟨x,y,z,B,C⟩:=gJ g.out;obtain⟨s0,s1,s2,s3,s4⟩:=gJ j.out;go_wp2;go_ret;exact⟨by rw[D.out];rfl,k.out⟩
       | false=>
        have Q:decide ((c.n:Int)<=(most:Int))=true:=(by simp;omega);have R:c.n<=most:=(by omega);have U:((c.args.length:Int) == (i.length:Int))=true:=(by simp;omega);have V:(c.args.length == i.length)=true:=(by simp;omega);have W:((c.outs.length:Int) == (o.length:Int))=true:=(by simp;omega);have X:(c.outs.length == o.length)=true:=(by simp;omega);have g4:decide (a<=(c.to.length:Int))=true:=(by simpa using J);have g5:decide ((c.to.length:Int)<=b)=true:=(by simpa using L);have D:=fQ (show codeOk e r c=false by rw[O.out];simp only[vV,decide_eq_true E,decide_eq_true F,decide_eq_true H,decide_eq_true J,decide_eq_true L,I,Aw,AJ,AX]);have S:=fQ (show within r.places c.args=false from I);clear E F H I;go_wp2_with fail;refine(oK r.places _ c.args _ m.out (by omega)).mono ?_;rintro G K ⟨rfl,d⟩;rw[S.out];have k:=fQ (k.out.trans (d.mono k.out.size));have f:=fQ (f.out.below d f.out.lt);have g:=fQ (g.out.below d g.out.lt);have j:=fQ (j.out.below d j.out.lt);have m:=fQ (m.out.below d (Aj _));have l:=fQ (l.out.below d (Aj _));have p:=fQ (p.out.below d (Aj _));clear d;clear q s t u v x y z B C s0 s1 s2 s3 s4;obtain⟨q,s,t,u,v⟩:=gJ f.out;obtain⟨x,y,z,B,C⟩:=gJ g.out;obtain⟨s0,s1,s2,s3,s4⟩:=gJ j.out;go_wp2;go_ret;exact⟨by rw[D.out];rfl,k.out⟩
      ·have Q:decide ((c.n:Int)<=(most:Int))=true:=(by simp;omega);have R:c.n<=most:=(by omega);have U:((c.args.length:Int) == (i.length:Int))=true:=(by simp;omega);have V:(c.args.length == i.length)=true:=(by simp;omega);have W:((c.outs.length:Int) == (o.length:Int))=true:=(by simp;omega);have X:(c.outs.length == o.length)=true:=(by simp;omega);have g4:decide (a<=(c.to.length:Int))=true:=(by simpa using J);have g5:decide ((c.to.length:Int)<=b)=false:=(by simpa using L);have D:=fQ (show codeOk e r c=false by rw[O.out];simp only[vV,decide_eq_true E,decide_eq_true F,decide_eq_true H,decide_eq_true J,decide_eq_false L,Aw,AJ,AX]);clear E F H;go_wp2;go_ret;exact⟨by rw[D.out];rfl,k.out⟩
     ·have Q:decide ((c.n:Int)<=(most:Int))=true:=(by simp;omega);have R:c.n<=most:=(by omega);have U:((c.args.length:Int) == (i.length:Int))=true:=(by simp;omega);have V:(c.args.length == i.length)=true:=(by simp;omega);have W:((c.outs.length:Int) == (o.length:Int))=true:=(by simp;omega);have X:(c.outs.length == o.length)=true:=(by simp;omega);have g4:decide (a<=(c.to.length:Int))=false:=(by simpa using J);have D:=fQ (show codeOk e r c=false by rw[O.out];simp only[vV,decide_eq_true E,decide_eq_true F,decide_eq_true H,decide_eq_false J,Aw,AJ,AX]);clear E F H;go_wp2;go_ret;exact⟨by rw[D.out];rfl,k.out⟩
    ·have Q:decide ((c.n:Int)<=(most:Int))=true:=(by simp;omega);have R:c.n<=most:=(by omega);have U:((c.args.length:Int) == (i.length:Int))=true:=(by simp;omega);have V:(c.args.length == i.length)=true:=(by simp;omega);have W:((c.outs.length:Int) == (o.length:Int))=false:=(by simp;omega);have X:(c.outs.length == o.length)=false:=(by simp;omega);have D:=fQ (show codeOk e r c=false by rw[O.out];simp only[vV,decide_eq_true E,decide_eq_true F,decide_eq_false H,Aw,AJ,AX]);clear E F H;go_wp2;go_ret;exact⟨by rw[D.out];rfl,k.out⟩
   ·have Q:decide ((c.n:Int)<=(most:Int))=true:=(by simp;omega);have R:c.n<=most:=(by omega);have U:((c.args.length:Int) == (i.length:Int))=false:=(by simp;omega);have V:(c.args.length == i.length)=false:=(by simp;omega);have D:=fQ (show codeOk e r c=false by rw[O.out];simp only[vV,decide_eq_true E,decide_eq_false F,Aw,AJ,AX]);clear E F;go_wp2;go_ret;exact⟨by rw[D.out];rfl,k.out⟩
  ·have Q:decide ((c.n:Int)<=(most:Int))=false:=(by simp;omega);have R:¬c.n<=most:=(by omega);have D:=fQ (show codeOk e r c=false by rw[O.out];simp only[vV,decide_eq_false E,Aw,AJ,AX]);clear E;go_wp2;go_ret;exact⟨by rw[D.out];rfl,k.out⟩
theorem al2(w:Bv)(a b:Obj):By w.heap.size w ((w.alloc a).alloc b):=((AZ _ _).alloc (Aj _) _).alloc (by simp) _
def bJu(c:CodeD)(i:Nat)(w:Bv)(e:Ending)(w':Bv):Prop:=∃ v,e = .returned v/\IR w' v (nextOf c i)/\By w.heap.size w w'
theorem cJl(r:RowD)(m:Bw)(i:Nat)(c:CodeD)(w:Bv)(B:RowV w m r)(hi:r.code[i]? = some c)(s:c.op=274->0<c.to.length):
  Calls fZ 102 #[m,.int .i64 (i:Int)] w (bJu c i w):=by
 obtain⟨vp,vq,m,vs,rfl,u,v,z,e⟩:=B;obtain⟨Ap,cp,rfl⟩:=u.shape;obtain⟨Aq,cq,rfl⟩:=v.shape;obtain⟨Ar,cr,rfl⟩:=z.shape;obtain⟨Ac,cc,rfl,_⟩:=e.len;have l7:=e.eXi;have ao:i<r.code.length:=(List.getElem?_eq_some_iff.1 hi).1;have ah:(i:Int)<(r.code.length:Int):=(by omega);obtain⟨gb,go,p,q,t,rfl,aq,c0,c1,c2,c3,c4,s0,s1,s2,s3⟩:=e.code hi;obtain⟨pA,pc,rfl⟩:=s1.shape;obtain⟨qA,qc,rfl⟩:=s2.shape;obtain⟨tA,tc,rfl⟩:=s3.shape;have ai:gb<w.heap.size+1:=(by omega);have aj:gb<w.heap.size+1+1:=(by omega);have o:=fQ s3.ir;have C:=fQ s;clear u v z e hi s0 s1 s2 s3 s;obtain⟨op,n,args,outs,to⟩:=c;simp only at *;by_cases f:op=276
 ·subst f;have b:=fQ (show nextOf ⟨276,n,args,outs,to⟩ i = [] by simp[nextOf]);go_in;go_wp2;go_ret;refine⟨_,rfl,?_,al2 _ _ _⟩;rw[b.out];exact IR.nil _
 by_cases g:op=277
 ·subst g;have b:=fQ (show nextOf ⟨277,n,args,outs,to⟩ i = [] by simp[nextOf]);go_in;go_wp2;go_ret;refine⟨_,rfl,?_,al2 _ _ _⟩;rw[b.out];exact IR.nil _
 by_cases h:op=273
 ·subst h;have b:=fQ (show nextOf ⟨273,n,args,outs,to⟩ i=to by simp[nextOf]);go_in;go_wp2;go_ret;refine⟨_,rfl,?_,al2 _ _ _⟩;rw[b.out];exact o.out.below (al2 _ _ _) (Aj _)
 by_cases j:op=275
 ·subst j;have b:=fQ (show nextOf ⟨275,n,args,outs,to⟩ i=to by simp[nextOf]);go_in;go_wp2;go_ret;refine⟨_,rfl,?_,al2 _ _ _⟩;rw[b.out];exact o.out.below (al2 _ _ _) (Aj _)
 by_cases k:op=274
 ·subst k;have D:=C.out rfl;have ar:(0:Int)<(to.length:Int):=(by omega);obtain⟨x,d⟩:∃ x,to[0]? = some x:=⟨_,Ak D⟩;obtain⟨A,t0,rfl,au,E⟩:=o.out.cell d;rw[Bk]at E;have al:A<w.heap.size+1:=(by omega);have an:A<w.heap.size+1+1:=(by omega)
  have F:=fQ (show to.headD 0=x by cases to with
   | nil=>simp at d
   | cons a l=>simp at d;exact d)
  clear d;have b:=fQ (show nextOf ⟨274,n,args,outs,to⟩ i = [(i:Int)+1,to.headD 0] by simp[nextOf]);go_in;go_wp2;go_ret;refine⟨_,rfl,?_,al3 _ _ _ _⟩;rw[b.out,F.out];exact IR.two (x:=(i:Int)+1) (y:=x) (Blk.newAt _ _ _ (by simp))
 have f276:(op == 276)=false:=(by simpa using f);have f277:(op == 277)=false:=(by simpa using g);have f273:(op == 273)=false:=(by simpa using h);have f275:(op == 275)=false:=(by simpa using j);have f274:(op == 274)=false:=(by simpa using k);have b:=fQ (show nextOf ⟨op,n,args,outs,to⟩ i = [(i:Int)+1] by simp[nextOf,f,g,h,j,k]);clear f g h j k;go_in;go_wp2;go_ret;refine⟨_,rfl,?_,al3 _ _ _ _⟩;rw[b.out];exact IR.one (x:=(i:Int)+1) (Blk.newAt _ _ _ (by simp))
theorem cJm(r:RowD)(m:Bw)(i:Nat)(c:CodeD)(w:Bv)(B:RowV w m r)(hi:r.code[i]? = some c)(s:c.op=274->0<c.to.length):
  Calls fZ 69 #[m,.int .i64 (i:Int)] w (bJu c i w):=by
 obtain⟨vp,vq,m,vs,rfl,u,v,z,e⟩:=B;obtain⟨Ap,cp,rfl⟩:=u.shape;obtain⟨Aq,cq,rfl⟩:=v.shape;obtain⟨Ar,cr,rfl⟩:=z.shape;obtain⟨Ac,cc,rfl,_⟩:=e.len;have l7:=e.eXi;have ao:i<r.code.length:=(List.getElem?_eq_some_iff.1 hi).1;have ah:(i:Int)<(r.code.length:Int):=(by omega);obtain⟨gb,go,p,q,t,rfl,aq,c0,c1,c2,c3,c4,s0,s1,s2,s3⟩:=e.code hi;obtain⟨pA,pc,rfl⟩:=s1.shape;obtain⟨qA,qc,rfl⟩:=s2.shape;obtain⟨tA,tc,rfl⟩:=s3.shape;have ai:gb<w.heap.size+1:=(by omega);have aj:gb<w.heap.size+1+1:=(by omega);have o:=fQ s3.ir;have C:=fQ s;clear u v z e hi s0 s1 s2 s3 s;obtain⟨op,n,args,outs,to⟩:=c;simp only at *;by_cases f:op=276
 ·subst f;have b:=fQ (show nextOf ⟨276,n,args,outs,to⟩ i = [] by simp[nextOf]);go_in;go_wp2;go_ret;refine⟨_,rfl,?_,al2 _ _ _⟩;rw[b.out];exact IR.nil _
 by_cases g:op=277
 ·subst g;have b:=fQ (show nextOf ⟨277,n,args,outs,to⟩ i = [] by simp[nextOf]);go_in;go_wp2;go_ret;refine⟨_,rfl,?_,al2 _ _ _⟩;rw[b.out];exact IR.nil _
 by_cases h:op=273
 ·subst h;have b:=fQ (show nextOf ⟨273,n,args,outs,to⟩ i=to by simp[nextOf]);go_in;go_wp2;go_ret;refine⟨_,rfl,?_,al2 _ _ _⟩;rw[b.out];exact o.out.below (al2 _ _ _) (Aj _)
 by_cases j:op=275
 ·subst j;have b:=fQ (show nextOf ⟨275,n,args,outs,to⟩ i=to by simp[nextOf]);go_in;go_wp2;go_ret;refine⟨_,rfl,?_,al2 _ _ _⟩;rw[b.out];exact o.out.below (al2 _ _ _) (Aj _)
 by_cases k:op=274
 ·subst k;have D:=C.out rfl;have ar:(0:Int)<(to.length:Int):=(by omega);obtain⟨x,d⟩:∃ x,to[0]? = some x:=⟨_,Ak D⟩;obtain⟨A,t0,rfl,au,E⟩:=o.out.cell d;rw[Bk]at E;have al:A<w.heap.size+1:=(by omega);have an:A<w.heap.size+1+1:=(by omega)
  have F:=fQ (show to.headD 0=x by cases to with
   | nil=>simp at d
   | cons a l=>simp at d;exact d)
  clear d;have b:=fQ (show nextOf ⟨274,n,args,outs,to⟩ i = [(i:Int)+1,to.headD 0] by simp[nextOf]);go_in;go_wp2;go_ret;refine⟨_,rfl,?_,al3 _ _ _ _⟩;rw[b.out,F.out];exact IR.two (x:=(i:Int)+1) (y:=x) (Blk.newAt _ _ _ (by simp))
 have f276:(op == 276)=false:=(by simpa using f);have f277:(op == 277)=false:=(by simpa using g);have f273:(op == 273)=false:=(by simpa using h);have f275:(op == 275)=false:=(by simpa using j);have f274:(op == 274)=false:=(by simpa using k);have b:=fQ (show nextOf ⟨op,n,args,outs,to⟩ i = [(i:Int)+1] by simp[nextOf,f,g,h,j,k]);clear f g h j k;go_in;go_wp2;go_ret;refine⟨_,rfl,?_,al3 _ _ _ _⟩;rw[b.out];exact IR.one (x:=(i:Int)+1) (Blk.newAt _ _ _ (by simp))
theorem cQa(e:EnvD)(r:RowD)(c:CodeD)(f g:Nat)(ve y h:Bw)(i j:Array Bw)(w:Bv)(he:EnvV w (.agg i) e)(k:RowV w (.agg j) r)(hc:CodeV w h c)(l:e.muts.length=e.globals.length)
  (a:Blk w f 26 i) (b:Blk w g 43 j) :
  Calls fZ 73 #[h,.pointer (some ⟨f,0,none⟩),.pointer (some ⟨g,0,none⟩)] w fun m w'=>m = .returned (.bool (!codeOk e r c))/\By w.heap.size w w':=by
 have z:=fQ he;have A:=fQ k;have B:=fQ hc;have C:=fQ l;obtain⟨aj,vb,vd,d,h1,h2,D⟩:=he;obtain⟨As,cs,rfl,_⟩:=h1.len;obtain⟨Ag,cg,rfl⟩:=h2.shape;obtain⟨Am,cm,rfl,_⟩:=D;obtain⟨vp,vq,y,vs,e2,o,p,q,s⟩:=k;obtain⟨Ap,cp,rfl⟩:=o.shape;obtain⟨Aq,cq,rfl⟩:=p.shape;obtain⟨Ar,cr,rfl⟩:=q.shape;obtain⟨Ac,cc,rfl,_⟩:=s.len;obtain⟨v2,v3,v4,rfl,E,t,u,v⟩:=hc;obtain⟨F,G,rfl⟩:=t.shape;obtain⟨H,I,rfl⟩:=u.shape;obtain⟨J,K,rfl⟩:=v.shape;injection d with d;injection e2 with e2;subst d;subst e2;obtain⟨r0,r1,r2,r3,r4⟩:=gJ b;obtain⟨d0,d1,d2,d3,d4⟩:=gJ a;have ak:=b.lt;have al:=a.lt;clear h1 h2 o p q s t u v a b l E;go_in;go_wp2_with fail;have B0:=fQ (show By w.heap.size w (w.alloc (.cells #[.int .i64 c.op,.int .u64 (c.n:Int),.slice F c.args.length G,.slice H c.outs.length I,.slice J c.to.length K] 52))from(AZ _ _).alloc (Aj _) _);refine(aYe e r c _ _ _ _ (z.out.below B0.out (Aj _)) (A.out.below B0.out (Aj _)) (B.out.below B0.out (Aj _)) C.out).mono ?_;rintro m w1 ⟨rfl,x⟩;have L:=fQ (B0.out.trans (x.mono B0.out.size));clear x;go_wp2;go_ret;exact⟨rfl,L.out⟩
def edges(r:RowD)(i:Nat):List Int:=match r.code[i]? with
 | some c=>if c.op=258 then[]else nextOf c i
 | none=>[]
theorem aWi{r:RowD}{c:CodeD}(h:r.code[i]? = some c)(hc:c.op≠258):edges r i=nextOf c i:=by simp[edges,h,hc]
theorem aYa{r:RowD}{c:CodeD}(h:r.code[i]? = some c)(hc:c.op=258):edges r i = []:=by simp[edges,h,hc]
def DoneL(r:RowD)(D:List Nat):Prop:=∀ p i,D[p]? = some i->∀ k:Nat,(k:Int)∈edges r i->k∈D.take p
theorem DoneL.nil(r:RowD):DoneL r []:=fun p i h=>by simp at h
theorem DoneL.push{r:RowD}(h:DoneL r D)(c:∀ k:Nat,(k:Int)∈edges r i->k∈D):DoneL r (D ++ [i]):=by
 intro p j a k b;by_cases hp:p<D.length
 ·rw[Ax hp]at a;rw[Af (by omega)];exact h p j a k b
 ·rw[Az (by omega)]at a
  have d:p - D.length=0:=by
   have:=(List.getElem?_eq_some_iff.1 a).1;simp at this;omega
  rw[d]at a;simp at a;subst a;have e:p=D.length:=(by omega);rw[e,Af (Aj _),Aa (Aj _)];exact c k b
theorem bJh{p:Nat}(h:k∈D.take p):D.idxOf k<p:=by
 induction D generalizing p with
 | nil=>simp at h
 | cons a D b=>
  cases p with
  | zero=>simp at h
  | succ p=>
   rw[List.take_succ_cons]at h;rw[List.idxOf_cons];by_cases e:a=k
   ·subst e;simp
   ·have c:k∈D.take p:=by
     rcases List.mem_cons.1 h with h | h
     ·exact absurd h.symm e
     ·exact h
    have:=b c;have e':(a == k)=false:=(by simp[e]);rw[e'];simp;exact this
theorem DoneL.eZl{r:RowD}(h:DoneL r D)(a:∀ i,i<r.code.length->i∈D):Ranked r:=by
 refine⟨fun i=>D.idxOf i,fun i c k hi hc b=>?_⟩;have d:=a i (List.getElem?_eq_some_iff.1 hi).1;have e:D.idxOf i<D.length:=List.idxOf_lt_length_iff.2 d;have hg:D[D.idxOf i]? = some i:=(by rw[Ak e];simp);exact bJh (h _ i hg k (by rw[aWi hi hc];exact b))
theorem aYb{r:RowD}{S:Nat->Prop}(b:∃ i,S i)(h:∀ i,S i->∃ k:Nat,(k:Int)∈edges r i/\S k):¬Ranked r:=by
 rintro⟨rk,d⟩
 have key:∀ m i,rk i=m->S i->False:=by
  intro m
  induction m using Nat.strongRecOn with
  | _ m e=>
   intro i hm hs;obtain⟨k,a,f⟩:=h i hs;unfold edges at a
   split at a
   ·rename_i c hc
    split at a
    ·simp at a
    ·rename_i g;have:=d i c k hc g a;exact e (rk k) (by omega) k rfl f
   ·simp at a
 obtain⟨i,hi⟩:=b;exact key _ i rfl hi
abbrev Stk:=List (Nat×List Int)
def ints'(e:Nat×List Int):List Int:=(e.1:Int) :: e.2
structure RInv (r:RowD) (st:List Int) (stk:Stk) (D:List Nat):Prop where
 len:st.length=r.code.length
 done:DoneL r D
 two:∀ i:Nat,st[i]? = some 2↔i∈D
 one:∀ i:Nat,st[i]? = some 1↔i∈stk.map (·.1)
 vals:∀ (i:Nat) v,st[i]? = some v->v=0\/v=1\/v=2
 nod:(stk.map (·.1)).Nodup
 ent:∀ (j:Nat) e,stk[j]? = some e->∃ proc,edges r e.1=e.2++proc/\∀ x∈proc,(∃ k:Nat,x=k/\k∈D)\/(∃ e',stk[j+1]? = some e'/\x=(e'.1:Int))
 lead:∀ (j:Nat) e e',stk[j]? = some e->stk[j+1]? = some e'->(e'.1:Int)∈edges r e.1
theorem RInv.lt{r:RowD}{stk:Stk}(h:RInv r st stk D){e:Nat×List Int}(he:e∈stk):e.1<r.code.length:=by
 have:=(h.one e.1).2 (List.mem_map.2 ⟨e,he,rfl⟩);rw[<-h.len];exact(List.getElem?_eq_some_iff.1 this).1
theorem RInv.small{r:RowD}{stk:Stk}(h:RInv r st stk D):stk.length<=r.code.length:=by
 have h1:(stk.map (·.1)).length<=(List.range r.code.length).length:=
  List.Nodup.length_le_of_subset h.nod fun x a=>by
   obtain⟨e,he,rfl⟩:=List.mem_map.1 a;exact List.mem_range.2 (h.lt he)
 simpa using h1
theorem RInv.start{r:RowD}:RInv r (List.replicate r.code.length 0) [] [] where
 len:=by simp
 done:=DoneL.nil r
 two i:=⟨fun h=>by
  obtain⟨a,h⟩:=List.getElem?_eq_some_iff.1 h
  simp at h,fun h=>by simp at h⟩
 one i:=⟨fun h=>by
  obtain⟨a,h⟩:=List.getElem?_eq_some_iff.1 h
  simp at h,fun h=>by simp at h⟩
 vals i v h:=by
  obtain⟨a,h⟩:=List.getElem?_eq_some_iff.1 h;simp at h;omega
 nod:=by simp
 ent j e h:=by simp at h
 lead j e e' h:=by simp at h
theorem RInv.open{r:RowD}{S:Stk}(h:RInv r st S D)(g:st[k]? = some 0)(o:∀ e,S[S.length - 1]? = some e->(k:Int)∈edges r e.1)
  : RInv r (st.set k 1) (S ++ [(k,edges r k)]) D:=by
 have l:=(List.getElem?_eq_some_iff.1 g).1
 have hn:k ∉ S.map (·.1):=fun p=>by have:=(h.one k).2 p;rw[g]at this;injection this with this;omega
 refine { len:=by simp[h.len],done:=h.done,two:=fun i=>?_,one:=fun i=>?_,vals:=fun i v d=>?_,nod:=?_,ent:=fun j e he=>?_,lead:=fun j e e' he c=>?_ }
 ·by_cases e:k=i
  ·subst e;rw[Ay l];constructor
   ·intro e;injection e with e;omega
   ·intro hd;have:=(h.two k).2 hd;rw[g]at this;injection this with this;omega
  ·rw[AQ e];exact h.two i
 ·rw[Bj,Ah];by_cases e:k=i
  ·subst e;rw[Ay l];simp
  ·rw[AQ e,h.one i];constructor
   ·exact .inl
   ·rintro(h | h)
    ·exact h
    ·simp at h;exact absurd h.symm e
 ·by_cases e:k=i
  ·subst e;rw[Ay l]at d;injection d with d;omega
  ·rw[AQ e]at d;exact h.vals i v d
 ·rw[Bj,Ab];refine⟨h.nod,by simp,fun a ha b hb e=>?_⟩;simp at hb;subst hb;subst e;exact hn ha
 ·by_cases m:j<S.length
  ·rw[Ax m]at he;obtain⟨proc,h1,h2⟩:=h.ent j e he;refine⟨proc,h1,fun x q=>?_⟩;rcases h2 x q with f | ⟨e',f,s⟩
   ·exact .inl f
   ·exact .inr ⟨e',by rw[Ax (List.getElem?_eq_some_iff.1 f).1];exact f,s⟩
  ·rw[Az (by omega)]at he
   have t:j - S.length=0:=by
    have:=(List.getElem?_eq_some_iff.1 he).1;simp at this;omega
   rw[t]at he;simp at he;subst he;exact⟨[],by simp,by simp⟩
 ·by_cases m:j+1<S.length
  ·rw[Ax (by omega)]at he;rw[Ax m]at c;exact h.lead j e e' he c
  ·have n:j+1=S.length:=by
    have:=(List.getElem?_eq_some_iff.1 c).1;simp at this;omega
   rw[Ax (by omega)]at he;rw[Az (by omega),n,AV]at c;simp at c;subst c;exact o e (by rw[<-n];simpa using he)
theorem RInv.fresh{r:RowD}{S:Stk}{rest:List Int}(h:RInv r st (S ++ [(t,rest ++ [(k:Int)])]) D)(m:st[k]? = some 0)
  : RInv r (st.set k 1) (S ++ [(t,rest)] ++ [(k,edges r k)]) D:=by
 have hm:(S ++ [(t,rest)]).map (·.1)=(S ++ [(t,rest ++ [(k:Int)])]).map (·.1):=by simp
 have n:(k:Int)∈edges r t:=by
  have d:(S ++ [(t,rest ++ [(k:Int)])])[S.length]? = some (t,rest ++ [(k:Int)]):=(by simp);obtain⟨proc,h1,h2⟩:=h.ent _ _ d;rw[h1];simp
 have b:=h.open m (fun e he=>by
  have:(S ++ [(t,rest ++ [(k:Int)])]).length - 1=S.length:=(by simp);rw[this]at he;simp at he;subst he
  exact n)
 refine { len:=b.len,done:=b.done,two:=b.two,one:=fun i=>?_,vals:=b.vals,nod:=?_,ent:=fun j e he=>?_,lead:=fun j e e' he o=>?_ }
 ·rw[b.one i];simp
 ·have:=b.nod;simpa using this
 ·by_cases g:j<S.length
  ·have d:(S ++ [(t,rest ++ [(k:Int)])] ++ [(k,edges r k)])[j]? = some e:=by
    rw[AK,Ax g];rw[AK,Ax g]at he;exact he
   obtain⟨proc,h1,h2⟩:=b.ent j e d;refine⟨proc,h1,fun x c=>?_⟩;rcases h2 x c with a | ⟨e',a,f⟩
   ·exact .inl a
   ·right
    by_cases p:j+1<S.length
    ·refine⟨e',?_,f⟩;rw[AK,Ax p]at a ⊢;exact a
    ·have l:j+1=S.length:=(by omega);rw[AK,Az (by omega),l,AV]at a;simp at a;subst a;refine⟨(t,rest),?_,f⟩;rw[AK,Az (by omega),l,AV];simp
  ·by_cases s:j=S.length
   ·subst s;rw[AK,Az (Aj _),AV]at he;simp at he;subst he;have d:(S ++ [(t,rest ++ [(k:Int)])])[S.length]? = some (t,rest ++ [(k:Int)]):=(by simp);obtain⟨proc,h1,h2⟩:=h.ent _ _ d;refine⟨(k:Int) :: proc,by rw[h1];simp,fun x c=>?_⟩;rcases List.mem_cons.1 c with c | c
    ·right
     refine⟨(k,edges r k),?_,c⟩;rw[AK,Az (by omega)];simp
    ·rcases h2 x c with a | ⟨e',a,f⟩
     ·exact .inl a
     ·simp at a
   ·have u:j=S.length+1:=by
     have:=(List.getElem?_eq_some_iff.1 he).1;simp at this;omega
    subst u;rw[AK,Az (by omega)]at he;simp at he;subst he;exact⟨[],by simp,by simp⟩
 ·have m1:(S ++ [(t,rest)] ++ [(k,edges r k)]).map (·.1)=(S ++ [(t,rest ++ [(k:Int)])] ++ [(k,edges r k)]).map (·.1):=by simp
  have q:∀ (j:Nat) e,(S ++ [(t,rest)] ++ [(k,edges r k)])[j]? = some e->∃ e2,(S ++ [(t,rest ++ [(k:Int)])] ++ [(k,edges r k)])[j]? = some e2/\e2.1=e.1:=by
   intro j e he
   have h1:((S ++ [(t,rest)] ++ [(k,edges r k)]).map (·.1))[j]? = some e.1:=by rw[AW,he];rfl
   rw[m1,AW,Ad]at h1;exact h1
  obtain⟨e2,a1,v⟩:=q j e he;obtain⟨w,y,z⟩:=q (j+1) e' o;have:=b.lead j e2 w a1 y
  rwa[v,z]at this
theorem RInv.skip{r:RowD}{S:Stk}{rest:List Int}(h:RInv r st (S ++ [(t,rest ++ [(k:Int)])]) D)(g:st[k]? = some 2)
  : RInv r st (S ++ [(t,rest)]) D:=by
 refine { len:=h.len,done:=h.done,two:=h.two,one:=fun i=>?_,vals:=h.vals,nod:=?_,ent:=fun j e he=>?_,lead:=fun j e e' he l=>?_ }
 ·rw[h.one i];simp
 ·have:=h.nod;simpa using this
 ·by_cases m:j<S.length
  ·have c:(S ++ [(t,rest ++ [(k:Int)])])[j]? = some e:=by
    rw[Ax m]at he ⊢;exact he
   obtain⟨proc,h1,h2⟩:=h.ent j e c;refine⟨proc,h1,fun x b=>?_⟩;rcases h2 x b with a | ⟨e',a,d⟩
   ·exact .inl a
   ·right
    by_cases n:j+1<S.length
    ·refine⟨e',?_,d⟩;rw[Ax n]at a ⊢;exact a
    ·have f:j+1=S.length:=(by omega);rw[Az (by omega),f,AV]at a;simp at a;subst a;refine⟨(t,rest),?_,d⟩;rw[Az (by omega),f,AV];simp
  ·have o:j=S.length:=by
    have:=(List.getElem?_eq_some_iff.1 he).1;simp at this;omega
   subst o;rw[Az (Aj _),AV]at he;simp at he;subst he;have c:(S ++ [(t,rest ++ [(k:Int)])])[S.length]? = some (t,rest ++ [(k:Int)]):=(by simp);obtain⟨proc,h1,h2⟩:=h.ent _ _ c;refine⟨(k:Int) :: proc,by rw[h1];simp,fun x b=>?_⟩;rcases List.mem_cons.1 b with b | b
   ·exact .inl ⟨k,b,(h.two k).1 g⟩
   ·rcases h2 x b with a | ⟨e',a,d⟩
    ·exact .inl a
    ·simp at a
 ·have m1:(S ++ [(t,rest)]).map (·.1)=(S ++ [(t,rest ++ [(k:Int)])]).map (·.1):=by simp
  have q:∀ (j:Nat) e,(S ++ [(t,rest)])[j]? = some e->∃ e2,(S ++ [(t,rest ++ [(k:Int)])])[j]? = some e2/\e2.1=e.1:=by
   intro j e he
   have h1:((S ++ [(t,rest)]).map (·.1))[j]? = some e.1:=by rw[AW,he];rfl
   rw[m1,AW,Ad]at h1;exact h1
  obtain⟨e2,a1,p⟩:=q j e he;obtain⟨s,u,v⟩:=q (j+1) e' l;have:=h.lead j e2 s a1 u
  rwa[p,v]at this
theorem RInv.pop{r:RowD}{S:Stk}(h:RInv r st (S ++ [(t,[])]) D):RInv r (st.set t 2) S (D ++ [t]):=by
 have o:st[t]? = some 1:=(h.one t).2 (by simp);have d:=(List.getElem?_eq_some_iff.1 o).1;have f:=h.nod;rw[Bj,Ab]at f
 have p:t ∉ S.map (·.1):=fun g=>f.2.2 t g t (by simp) rfl
 have q:DoneL r (D ++ [t]):=by
  refine h.done.push fun k m=>?_;have l:(S ++ [(t,([]:List Int))])[S.length]? = some (t,[]):=(by simp);obtain⟨proc,h1,h2⟩:=h.ent _ _ l;simp only[Bx]at h1;rw[h1]at m;rcases h2 _ m with⟨k',e,hd⟩ | ⟨e',a,_⟩
  ·have:k=k':=(by omega);rw[this];exact hd
  ·simp at a
 refine { len:=by simp[h.len],done:=q,two:=fun i=>?_,one:=fun i=>?_,vals:=fun i v b=>?_,nod:=f.1,ent:=fun j e he=>?_,lead:=fun j e e' he n=>?_ }
 ·rw[Ah];by_cases e:t=i
  ·subst e;rw[Ay d];simp
  ·rw[AQ e,h.two i];constructor
   ·exact .inl
   ·rintro(h | h)
    ·exact h
    ·simp at h;exact absurd h.symm e
 ·by_cases e:t=i
  ·subst e;rw[Ay d];constructor
   ·intro e;injection e with e;omega
   ·intro g;exact absurd g p
  ·rw[AQ e,h.one i,Bj,Ah];constructor
   ·rintro(h | h)
    ·exact h
    ·simp at h;exact absurd h.symm e
   ·exact .inl
 ·by_cases e:t=i
  ·subst e;rw[Ay d]at b;injection b with b;omega
  ·rw[AQ e]at b;exact h.vals i v b
 ·have s:j<S.length:=(List.getElem?_eq_some_iff.1 he).1;have l:(S ++ [(t,([]:List Int))])[j]? = some e:=(by rw[Ax s];exact he);obtain⟨proc,h1,h2⟩:=h.ent j e l;refine⟨proc,h1,fun x u=>?_⟩;rcases h2 x u with⟨k,a,c⟩ | ⟨e',a,c⟩
  ·exact .inl ⟨k,a,by simp[c]⟩
  ·by_cases w:j+1<S.length
   ·rw[Ax w]at a;exact .inr ⟨e',a,c⟩
   ·have y:j+1=S.length:=(by omega);rw[Az (by omega),y,AV]at a;simp at a;subst a;exact .inl ⟨t,c,by simp⟩
 ·refine h.lead j e e' ?_ ?_
  ·rw[Ax (List.getElem?_eq_some_iff.1 he).1];exact he
  ·rw[Ax (List.getElem?_eq_some_iff.1 n).1];exact n
theorem RInv.eZm{r:RowD}{S:Stk}{rest:List Int}(h:RInv r st (S ++ [(t,rest ++ [(k:Int)])]) D)(g:st[k]? = some 1):¬Ranked r:=by
 have l:=(h.one k).1 g;obtain⟨p,hp⟩:=List.mem_iff_getElem?.1 l;rw[AW,Ad]at hp;obtain⟨a,b,c⟩:=hp;refine aYb (S:=fun i=>∃ j e,p<=j/\(S ++ [(t,rest ++ [(k:Int)])])[j]? = some e/\e.1=i) ⟨k,p,a,Aj _,b,c⟩ ?_;rintro i ⟨j,e,hj,he,rfl⟩;by_cases d:j+1<(S ++ [(t,rest ++ [(k:Int)])]).length
 ·have f:=Ak d;exact⟨_,h.lead j e _ he f,j+1,_,by omega,f,rfl⟩
 ·have m:j=S.length:=by
   have:=(List.getElem?_eq_some_iff.1 he).1;simp at this d;omega
  subst m;obtain⟨proc,h1,h2⟩:=h.ent _ _ he;simp at he;subst he;exact⟨k,by rw[h1];simp,p,a,Aj _,b,c⟩
theorem nY(w:Bv)(b o:Nat)(u:Bw):w.grownBy (w.setCell ⟨b,o,none⟩ u) (some b):=
 ⟨rfl,rfl,rfl,by simp,fun k _ a=>heap_setCell_other w ⟨b,o,none⟩ k u (fun e=>a (by simp[e]))⟩
theorem aQv{w':Bv}(h:By w.heap.size w w'):w.grownBy w' none:=⟨h.os,h.tape,h.output,h.size,fun k a _=>h.block k a⟩
theorem gQ{g:Nat}{e:TypeId}{cs:Array Bw}(h:Blk w g e cs)(o:Nat)(u:Bw):Blk (w.setCell ⟨g,o,none⟩ u) g e (cs.setIfInBounds o u):=heap_setCell_same w g o cs e u h
theorem aXw:(fZ.info? 23).map (fun i=>(i.zero,i.size,i.bytes))=some (some (.slice none 0 0),1,24):=by kernel_rfl
def EB(w:Bv)(gS:Nat)(v:Bw)(l:List Int):Prop:=∃ g c cur,v = .slice (some ⟨g,0,none⟩) l.length c/\Blk w g 3 cur/\g≠gS/\l.length<=c/\cur.toList.take l.length=i64s l
theorem EB.of(h:w.ownsRow base 3 1 v l.length (i64s l))(hg:gS<base)(hl:0<l.length):EB w gS v l:=by
 rcases h.2 with⟨h1,h2⟩ | ⟨g,cap,cur,h1,h2,a,b,_,_,c⟩
 ·omega
 ·exact⟨g,cap,cur,h1,a,by omega,b,by simpa using c⟩
theorem EB.grown{w w':Bv}{gS:Nat}{v:Bw}{l:List Int}{r:Option Nat}(h:EB w gS v l)(hg:w.grownBy w' r)(b:∀ g cs,Blk w g 3 cs->g≠gS->r≠some g):EB w' gS v l:=by
 obtain⟨g,c,cur,e,hb,a,d⟩:=h;exact⟨g,c,cur,e,hb.grown hg (b g cur hb a),a,d⟩
structure RM (w:Bv) (base bR bS bK gS:Nat) (rv:Array Bw) (st:List Int) (stk:Stk) (v:Bw) (vs:List Bw):Prop where
 r:Blk w bR 43 rv
 s:Blk w bS 23 #[.slice (some ⟨gS,0,none⟩) st.length st.length]
 t:Blk w gS 3 (i64s st).toArray
 k:Blk w bK 44 #[v]
 own:w.ownsRow base 23 1 v stk.length vs
 ent:∀ (j:Nat) u e,vs[j]? = some u->stk[j]? = some e->EB w gS u (ints' e)
 lR:base<=bR
 lS:base<=bS
 lT:base<=gS
 lK:base<=bK
 o1:v.ownBlock≠some bS
theorem blk_ne{a b:Nat}{s t:TypeId}{c d:Array Bw}(h:Blk w a s c)(k:Blk w b t d)(f:s≠t):a≠b:=by
 intro e;subst e;have:=h.symm.trans k;injection this with this;injection this with _ h2;exact f h2
theorem own_ne{n b size:Nat}{s t:TypeId}{a:List Bw}{d:Array Bw}(h:w.ownsRow base s size v n a)(k:Blk w b t d)(c:s≠t):v.ownBlock≠some b:=by
 rcases h.2 with⟨h1,_⟩ | ⟨g,cap,cur,h1,h2,f,_⟩
 ·subst h1;simp[Value.ownBlock]
 ·subst h1;intro e;injection e with e;subst e;exact blk_ne (show Blk w g s cur from f) k c rfl
theorem RM.eXk{rv:Array Bw}{stk:Stk}{vs:List Bw}(h:RM w base bR bS bK gS rv st stk v vs):base<=w.heap.size:=Nat.le_of_lt (Nat.lt_of_le_of_lt h.lR h.r.lt)
theorem RM.grown{w w':Bv}{base bR bS bK gS:Nat}{rv:Array Bw}{st:List Int}{stk:Stk}{v:Bw}{vs:List Bw}(h:RM w base bR bS bK gS rv st stk v vs)(hb:By w.heap.size w w'):RM w' base bR bS bK gS rv st stk v vs:=
  { h with r:=h.r.below hb h.r.lt,s:=h.s.below hb h.s.lt,t:=h.t.below hb h.t.lt,k:=h.k.below hb h.k.lt,own:=oY h.own hb (Aj _),
           ent:=fun j u e h1 h2=>(h.ent j u e h1 h2).grown (aQv hb) (fun _ _ _ _=>by simp) }
theorem RM.put{rv:Array Bw}{stk:Stk}{vs:List Bw}(h:RM w base bR bS bK gS rv st stk v vs)(i:Nat)(x:Int):RM (w.setCell ⟨gS,i,none⟩ (.int .i64 x)) base bR bS bK gS rv (st.set i x) stk v vs:=by
 have hn:=own_ne h.own h.t (by decide);refine { h with r:=h.r.grown (nY w gS i _) ?_,s:=?_,t:=?_,k:=h.k.grown (nY w gS i _) ?_,own:=iQ h.own hn,ent:=fun j u e h1 h2=>(h.ent j u e h1 h2).grown (nY w gS i _) (fun g cs _ hg e=>hg (by injection e with e;exact e.symm)) }
 ·intro e;injection e with e;exact blk_ne h.t h.r (by decide) e
 ·rw[List.length_set];exact h.s.grown (nY w gS i _) (fun e=>by injection e with e;exact blk_ne h.t h.s (by decide) e)
 ·have:=gQ h.t i (.int .i64 x)
  have a:(i64s st).toArray.setIfInBounds i (.int .i64 x)=(i64s (st.set i x)).toArray:=by
   simp[i64s,List.map_set]
  rwa[a]at this
 ·intro e;injection e with e;exact blk_ne h.t h.k (by decide) e
theorem RM.push{w':Bv}{rv:Array Bw}{stk:Stk}{a u:Bw}{vs:List Bw}{e:Nat×List Int}(h:RM w base bR bS bK gS rv st stk v vs)(m:EB w gS u (ints' e))
  (hg:w.grownBy w' v.ownBlock) (ho:w'.ownsRow base 23 1 a (stk.length+1) (vs ++ [u])) (n:a.ownBlock=v.ownBlock\/a.ownBlock=some w.heap.size) :
  RM (w'.setCell ⟨bK,0,none⟩ a) base bR bS bK gS rv st (stk ++ [e]) a (vs ++ [u]):=by
 have hn:∀ b t c,Blk w b t c->t≠23->v.ownBlock≠some b:=fun b t c hb f=>own_ne h.own hb (fun e=>f e.symm);have i:=h.r.grown hg (hn _ _ _ h.r (by decide));have hs:=h.s.grown hg h.o1;have f:=h.t.grown hg (hn _ _ _ h.t (by decide));have d:=h.k.grown hg (hn _ _ _ h.k (by decide));have hlen:vs.length=stk.length:=(by have:=h.own.1;simpa using this);have gk:=nY w' bK 0 a;refine { r:=i.grown gk ?_,s:=hs.grown gk ?_,t:=f.grown gk ?_,k:=?_,own:=?_,ent:=fun j x y h1 h2=>?_,lR:=h.lR,lS:=h.lS,lT:=h.lT,lK:=h.lK,o1:=?_ }
 ·intro e;injection e with e;exact blk_ne d i (by decide) e
 ·intro e;injection e with e;exact blk_ne d hs (by decide) e
 ·intro e;injection e with e;exact blk_ne d f (by decide) e
 ·have:=gQ d 0 a
  simpa using this
 ·have:a.ownBlock≠some bK:=own_ne ho d (by decide);have h2:=iQ (k:=0) (u:=a) ho this
  simpa using h2
 ·have key:∀ x y,EB w gS x y->EB (w'.setCell ⟨bK,0,none⟩ a) gS x y:=by
   intro x y o;refine(o.grown hg (fun g cs hb _=>hn _ _ _ hb (by decide))).grown gk (fun g cs hb _ e=>?_);injection e with e;exact blk_ne d hb (by decide) e
  by_cases p:j<stk.length
  ·rw[Ax (by omega)]at h1;rw[Ax p]at h2;exact key _ _ (h.ent j x y h1 h2)
  ·rw[Az (by omega)]at h1 h2
   have l:j - stk.length=0:=by
    have:=(List.getElem?_eq_some_iff.1 h2).1;simp at this;omega
   rw[hlen,l]at h1;rw[l]at h2;simp at h1 h2;subst h1;subst h2;exact key _ _ m
 ·rcases n with e | e
  ·rw[e];exact h.o1
  ·rw[e];intro e';injection e' with e';have:=h.s.lt;omega
def dKm(r:RowD)(base bR bS bK gS:Nat)(rv:Array Bw)(st:List Int)(stk:Stk)(i:Nat)(w:Bv)(a:Ending)(w':Bv):Prop:=
 (st[i]? = some 0/\∃ b vs',a = .returned (.bool false)/\RM w' base bR bS bK gS rv (st.set i 1) (stk ++ [(i,edges r i)]) b vs'/\By base w w') \/
 (∃ x,st[i]? = some x/\x≠0/\a = .returned (.bool (x == 1))/\w=w')
theorem bQe(h:Blk w gS 3 (i64s st).toArray)(a:st[i]? = some x):w.cell? ⟨gS,i,none⟩=some (.int .i64 x):=by
 rw[h.cell];simp[i64s,a]
theorem aKb(r:RowD)(base bR bS bK gS:Nat)(rv:Array Bw)(st:List Int)(stk:Stk)(v:Bw)(vs:List Bw)(i:Nat)(c:CodeD)(w0 w:Bv)(h:RM w base bR bS bK gS rv st stk v vs)
  (hr:RowV w0 (.agg rv) r) (av:w0.heap.size<=base) (I:By base w0 w) (hi:r.code[i]? = some c) (hl:st.length=r.code.length) (ak:c.op=274->0<c.to.length) (l:(nextOf c i).length<=66) (aw:stk.length<=4096) (aM:r.code.length<=4096) :
  Calls fZ 101 #[.int .i64 (i:Int),.pointer (some ⟨bS,0,none⟩),.pointer (some ⟨bR,0,none⟩),.pointer (some ⟨bK,0,none⟩)] w (dKm r base bR bS bK gS rv st stk i w):=by
 have aN:i<r.code.length:=(List.getElem?_eq_some_iff.1 hi).1;obtain⟨x,J⟩:∃ x,st[i]? = some x:=⟨_,Ak (by omega)⟩;have cS:=h.s.cell 0;simp at cS;have cT:=bQe h.t J;have K:=fQ J;have a:=fQ h;obtain⟨n,hn⟩:=fX st.length;rw[hn]at cS;have aO:i<n:=(by omega);have ax:(i:Int)<(n:Int):=(by omega);have HN:=fQ hn;have HL:=fQ hl;clear h J hn hl;by_cases D:x=0
 ·subst D;have HR:=fQ hr;obtain⟨vp,vq,vr,aP,L,h4,h5,h6,M⟩:=hr;injection L with L;subst L;obtain⟨Ap,cp,rfl⟩:=h4.shape;obtain⟨Aq,cq,rfl⟩:=h5.shape;obtain⟨Ar,cr,rfl⟩:=h6.shape;obtain⟨Ac,cc,rfl,_⟩:=M.len;obtain⟨gb,go,p,q,t,rfl,aQ,c0,_⟩:=M.code hi;have c0:=(I.cell (p:=⟨gb,go+i*5,none⟩) (by show gb<base;omega)).trans c0;obtain⟨r0,r1,r2,r3,r4⟩:=gJ a.out.r;have ay:(i:Int)<(r.code.length:Int):=(by omega);have n1:bR≠gS:=fun e=>blk_ne a.out.t a.out.r (by decide) e.symm;have n2:gS≠bR:=fun e=>n1 e.symm;have n3:bS≠gS:=fun e=>blk_ne a.out.t a.out.s (by decide) e.symm;have n4:gS≠bS:=fun e=>n3 e.symm;have n5:gb≠gS:=(by have:=a.out.lT;omega);have n6:gS≠gb:=fun e=>n5 e.symm;have s1:=a.out.r.lt;have s2:=a.out.s.lt;have s3:=a.out.t.lt;have s4:=a.out.k.lt;have s5:gb<w.heap.size:=(by have:=a.out.eXk;omega);have z0:=frz a.out.t i;have n7:bK≠gS:=fun e=>blk_ne a.out.t a.out.k (by decide) e.symm;have n8:gS≠bK:=fun e=>n7 e.symm;have O:=fQ (a.out.put i 1);obtain⟨Av,cv,rfl,_⟩:=gZ a.out.own;have P:=a.out.k.cell 0;simp at P;obtain⟨m,E⟩:=fX stk.length;rw[E]at P;have aR:m<=4096:=(by omega);have b:=fQ E;have Q:=own_ne a.out.own a.out.k (show(23:Nat)≠44 by decide);rw[E]at Q;have NK:=fQ Q;clear E aw Q;have az:=fQ I;have aA:=fQ ak;have aB:=fQ l;have R:=fQ hi;clear h4 h5 h6 M I ak l hi;by_cases y:c.op=258
  ·have aC:(c.op != 258)=false:=(by simp[y]);have S:=fQ (aYa R.out y);clear y;go_in;have P2:=fQ (O.out.grown ((AZ _ _).alloc (Aj _) (.cells #[.int .i64 (i:Int)] 3)));have d:=fQ (P2.out.grown ((AZ _ _).alloc (Aj _) (.cells #[.slice (some ⟨w.heap.size,0,none⟩) 1 1] 23)));have B3:=fQ (show By base w _ from(((AZ base w).setCell (p:=⟨gS,i,none⟩) a.out.lT (.int .i64 1)).alloc (by simp;exact a.out.eXk) (.cells #[.int .i64 (i:Int)] 3)).alloc (by simp;have:=a.out.eXk;omega) (.cells #[.slice (some ⟨w.heap.size,0,none⟩) 1 1] 23))
   have T:=fQ (show EB (((w.setCell ⟨gS,i,none⟩ (.int .i64 1)).alloc (.cells #[.int .i64 (i:Int)] 3)).alloc (.cells #[.slice (some ⟨w.heap.size,0,none⟩) 1 1] 23)) gS (.slice (some ⟨w.heap.size,0,none⟩) 1 1) (ints' (i,edges r i)) by
    rw[S.out]
    exact⟨w.heap.size,1,#[.int .i64 (i:Int)],rfl,(Blk.newAt (w.setCell ⟨gS,i,none⟩ (.int .i64 1)) _ _ (by simp)).alloc _,by omega,by simp[ints'],rfl⟩)
   go_wp2_with (at_builtin;refine kV _ rfl (.tmp 29) (.tmp 31) 44 rfl base 23 (.slice none 0 0) 1 24 underlying44 aXw rfl (by omega) (.slice Av m cv) m vs rfl (by rw[<-b.out];exact d.out.own) (some ⟨w.heap.size+1,0,none⟩) 1 1 [.slice (some ⟨w.heap.size,0,none⟩) 1 1] rfl (Blk.eXm (cs:=#[.slice (some ⟨w.heap.size,0,none⟩) 1 1]) (Blk.newAt _ _ _ (by simp)) rfl) (by intro u f;obtain rfl:=List.mem_singleton.1 f;rfl) (by unfold maxLen;omega) (by omega) (by have:=d.out.eXk;exact this) ?_);rintro v1 w1 h1 h2 B _;obtain⟨U,c1,V,_⟩:=gZ h1;subst V;have g:=d.out.k.grown h2 NK.out;have W:=g.cell 0;simp at W;have kz:=frz g 0;have kl:=g.lt;have f:=T;have hp:=d.out.push (e:=(i,edges r i)) f.out (by rw[b.out]at *;exact h2) (by rw[b.out];exact h1) (by rw[b.out];simpa using B);have X:=fQ hp;have C:=jV B3.out h2 (by have:=d.out.eXk;exact this) (fun k Y=>(d.out.own.lt k (by rw[b.out];exact Y)).1);have Z:=fQ (C.setCell (p:=⟨bK,0,none⟩) d.out.lK (.slice U (m+1) c1));clear h1 h2 B g hp C f;go_wp2;go_ret;exact .inl ⟨K.out,_,_,rfl,X.out,Z.out⟩
  ·have aC:(c.op != 258)=true:=(by simp[y]);have S:=fQ (aWi R.out y);clear y;go_in;have P2:=fQ (O.out.grown ((AZ _ _).alloc (Aj _) (.cells #[.int .i64 (i:Int)] 3)));have B2:=fQ (show By base w _ from((AZ base w).setCell (p:=⟨gS,i,none⟩) a.out.lT (.int .i64 1)).alloc (by simp;exact a.out.eXk) (.cells #[.int .i64 (i:Int)] 3));have L2:=fQ (Blk.newAt (w.setCell ⟨gS,i,none⟩ (.int .i64 1)) (N:=w.heap.size) 3 #[.int .i64 (i:Int)] (by simp));have aD:=fQ (HR.out.below (az.out.trans B2.out) av);have D0:=fQ (show By w.heap.size (w.setCell ⟨gS,i,none⟩ (.int .i64 1)) ((w.setCell ⟨gS,i,none⟩ (.int .i64 1)).alloc (.cells #[.int .i64 (i:Int)] 3))from(AZ _ _).alloc (by simp) _);go_wp2_with fail;refine(cJl r _ i c _ aD.out R.out aA.out).mono ?_;rintro en w2 ⟨vn,rfl,al,F⟩;obtain⟨An,cn,rfl⟩:=al.shape;obtain⟨A',c',e',an⟩:=al;injection e' with e1 e2 e3;subst e1;subst e3;have ao:=fQ an;have L3:=fQ (L2.out.below F L2.out.lt);have D2:=fQ (D0.out.trans (F.mono (by simp)));have aE:w.heap.size<=w2.heap.size:=(by have:=F.size;simp at this;omega);have aF:=aB.out;obtain⟨j,l⟩:=fX ((nextOf c i).length);rw[l]at aF;rw[l]at ao ⊢;have aG:=fQ l;clear F an l;go_wp2_with (at_builtin;refine aQw _ rfl (.tmp 24) (.tmp 27) 23 rfl w.heap.size 3 (.int .i64 0) 8 underlying23 uZ rfl (.slice (some ⟨w.heap.size,0,none⟩) 1 1) 1 [.int .i64 (i:Int)] rfl (Blk.own (n:=1) (cs:=#[.int .i64 (i:Int)]) L3.out (Aj _) rfl (by unfold maxLen;omega)) An j cn (i64s (nextOf c i)) rfl ao.out (bJc _) (by unfold maxLen;omega) (by omega) aE ?_);rintro v3 G H aq;obtain⟨z,A,aH,_⟩:=gZ H;subst aH;have D3:=fQ (D2.out.trans aq);have d:=fQ (O.out.grown (by simpa using D3.out));have ar:By base w G:=((AZ base w).setCell (p:=⟨gS,i,none⟩) a.out.lT (.int .i64 1)).trans (D3.out.mono a.out.eXk)
   have PE:=fQ (show EB G gS (.slice z (1+j) A) (ints' (i,edges r i)) by
    rw[S.out];have e:(1+j)=(ints' (i,nextOf c i)).length:=(by simp[ints',aG.out];omega);rw[e];rw[e]at H
    exact EB.of H a.out.t.lt (by simp[ints']))
   have aI:=D3.out.size;simp at aI;have aJ:=d.out.eXk;have au:=d.out.k.cell 0;simp at au;rw[b.out]at au;have aK:=fQ ar;have o:=fQ (d.out.grown ((AZ _ _).alloc (Aj _) (.cells #[.slice z (1+j) A] 23)));have B4:=fQ (aK.out.alloc aJ (.cells #[.slice z (1+j) A] 23));have T:=fQ (PE.out.grown (World.grownBy_alloc G (.cells #[.slice z (1+j) A] 23) none) (fun _ _ _ _=>by simp));clear H aq ar P;go_wp2_with (at_builtin;refine kV _ rfl (.tmp 29) (.tmp 31) 44 rfl base 23 (.slice none 0 0) 1 24 underlying44 aXw rfl (by omega) (.slice Av m cv) m vs rfl (by rw[<-b.out];exact o.out.own) (some ⟨G.heap.size,0,none⟩) 1 1 [.slice z (1+j) A] rfl (Blk.eXm (cs:=#[.slice z (1+j) A]) (Blk.newAt _ _ _ (by simp)) rfl) (by intro u f;obtain rfl:=List.mem_singleton.1 f;rfl) (by unfold maxLen;omega) (by omega) (by have:=o.out.eXk;exact this) ?_);rintro v1 w1 h1 h2 B _;obtain⟨U,c1,V,_⟩:=gZ h1;subst V;have g:=o.out.k.grown h2 NK.out;have W:=g.cell 0;simp at W;have kz:=frz g 0;have kl:=g.lt;have f:=T;have hp:=o.out.push (e:=(i,edges r i)) f.out (by rw[b.out]at *;exact h2) (by rw[b.out];exact h1) (by rw[b.out];simpa using B);have X:=fQ hp;have C:=jV B4.out h2 (by have:=o.out.eXk;exact this) (fun k Y=>(o.out.own.lt k (by rw[b.out];exact Y)).1);have Z:=fQ (C.setCell (p:=⟨bK,0,none⟩) o.out.lK (.slice U (m+1) c1));clear h1 h2 B g hp C f;go_wp2;go_ret;exact .inl ⟨K.out,_,_,rfl,X.out,Z.out⟩
 ·have aS:(x == 0)=false:=(by simpa using D);have aL:=fQ D;clear D;go_in;go_wp2;go_ret;exact .inr ⟨x,K.out,aL.out,rfl,rfl⟩
theorem RM.top{rv:Array Bw}{S:Stk}{e:Nat×List Int}{vs:List Bw}(h:RM w base bR bS bK gS rv st (S ++ [e]) v vs):
  ∃ gk b g c,v = .slice (some ⟨gk,0,none⟩) (S.length+1) b/\S.length+1<=b/\gk<w.heap.size/\base<=gk/\gk≠bS/\gk≠bR/\gk≠gS/\gk≠bK/\g≠gk/\w.cell? ⟨gk,S.length,none⟩=some (.slice (some ⟨g,0,none⟩) (e.2.length+1) c)/\w.frozen? ⟨gk,S.length,none⟩=false/\e.2.length+1<=c /\
   Src w (some ⟨g,0,none⟩) (e.2.length+1) (i64s (ints' e))/\vs.length=S.length+1/\g<w.heap.size/\g≠gS/\g≠bS/\g≠bK/\g≠bR:=by
 have ho:=h.own;have m:(S ++ [e]).length=S.length+1:=(by simp);rw[m]at ho;obtain⟨gk,b,rfl,n,hb,hc⟩:=nQ ho (by omega);have hlen:vs.length=S.length+1:=(by have:=ho.1;simpa using this);have hcell:=ho.cellAt S.length (by omega);have f:vs[S.length]? = some (vs[S.length]'(by omega)):=Ak (by omega);obtain⟨g,c,cur,i,a,o,j,l⟩:=h.ent S.length _ e f (by simp)
 have d:∃ c',Src w (some ⟨g,0,none⟩) (ints' e).length (i64s (ints' e)):=⟨c,by
  have p:(ints' e).length<=cur.size:=by
   have:=congrArg List.length l;rw[Ae,cYa]at this;simp at this;omega
  have:=a.src (ints' e).length p
  rwa[l]at this⟩
 obtain⟨_,d⟩:=d;have q:(ints' e).length=e.2.length+1:=(by simp[ints']);rw[q]at i j d;have q1:=own_ne ho h.r (by decide);have u:=own_ne ho h.t (by decide);have x:=own_ne ho h.k (by decide);have y:=h.o1;have z:=own_ne ho a (by decide);rw[f,i]at hcell;exact⟨gk,b,g,c,rfl,hc,n,hb,fun e=>y (by rw[e];rfl),fun e=>q1 (by rw[e];rfl),fun e=>u (by rw[e];rfl),fun e=>x (by rw[e];rfl),fun e=>z (by rw[<-e];rfl),hcell,ho.frozenAt _,j,d,hlen,a.lt,o,blk_ne a h.s (by decide),blk_ne a h.k (by decide),blk_ne a h.r (by decide)⟩
theorem RM.drew{w:Bv}{base bR bS bK gS:Nat}{rv:Array Bw}{st:List Int}{stk:Stk}{v:Bw}{vs:List Bw}(h:RM w base bR bS bK gS rv st stk v vs):RM w.drew base bR bS bK gS rv st stk v vs:=
 { r:=h.r,s:=h.s,t:=h.t,k:=h.k,own:=h.own,ent:=fun j u e h1 h2=>h.ent j u e h1 h2,lR:=h.lR,lS:=h.lS,lT:=h.lT,lK:=h.lK,o1:=h.o1 }
theorem RM.pop{gk a:Nat}{rv:Array Bw}{S:Stk}{e:Nat×List Int}{vs:List Bw}(h:RM w base bR bS bK gS rv st (S ++ [e]) (.slice (some ⟨gk,0,none⟩) (S.length+1) a) vs):
  RM (w.setCell ⟨bK,0,none⟩ (.slice (some ⟨gk,0,none⟩) S.length a)) base bR bS bK gS rv st S (.slice (some ⟨gk,0,none⟩) S.length a) (vs.take S.length):=by
 have b:=nY w bK 0 (.slice (some ⟨gk,0,none⟩) S.length a);have f:(S ++ [e]).length=S.length+1:=(by simp);have ho:=h.own;rw[f]at ho;have hq:(Value.slice (some ⟨gk,0,none⟩) S.length a).ownBlock≠some bK:=(by have:=own_ne ho h.k (by decide);exact this);have c:=bJe (k:=S.length) ho (by omega) (by simp);rw[Nat.mul_one]at c;refine { h with r:=h.r.grown b ?_,s:=h.s.grown b ?_,t:=h.t.grown b ?_,k:=?_,own:=iQ c hq,ent:=fun j x y h1 h2=>?_,o1:=h.o1 }
 ·intro e;injection e with e;exact blk_ne h.k h.r (by decide) e
 ·intro e;injection e with e;exact blk_ne h.k h.s (by decide) e
 ·intro e;injection e with e;exact blk_ne h.k h.t (by decide) e
 ·have:=gQ h.k 0 (.slice (some ⟨gk,0,none⟩) S.length a)
  simpa using this
 ·have d:j<S.length:=(List.getElem?_eq_some_iff.1 h2).1;rw[List.getElem?_take,if_pos d]at h1;refine(h.ent j x y h1 (by rw[Ax d];exact h2)).grown b (fun g cs hb _ e=>?_);injection e with e;exact blk_ne h.k hb (by decide) e
theorem RM.shrink{gk f g c:Nat}{rest:List Int}{rv:Array Bw}{S:Stk}{vs:List Bw}(h:RM w base bR bS bK gS rv st (S ++ [(t,rest ++ [x])]) (.slice (some ⟨gk,0,none⟩) (S.length+1) f) vs)
  (hcell:w.cell? ⟨gk,S.length,none⟩=some (.slice (some ⟨g,0,none⟩) ((rest ++ [x]).length+1) c)) :
  RM (w.setCell ⟨gk,S.length,none⟩ (.slice (some ⟨g,0,none⟩) (rest.length+1) c)) base bR bS bK gS rv st (S ++ [(t,rest)]) (.slice (some ⟨gk,0,none⟩) (S.length+1) f) (vs.set S.length (.slice (some ⟨g,0,none⟩) (rest.length+1) c)):=by
 have i:∀ e:Nat×List Int,(S ++ [e]).length=S.length+1:=fun e=>by simp
 have ho:=h.own;rw[i]at ho;obtain⟨p,a⟩:=ho.stored S.length (.slice (some ⟨g,0,none⟩) (rest.length+1) c);have hlen:vs.length=S.length+1:=(by have:=ho.1;simpa using this);have n1:=own_ne ho h.r (by decide);have n2:=own_ne ho h.t (by decide);have q:=own_ne ho h.k (by decide);refine { h with r:=h.r.grown a n1,s:=h.s.grown a h.o1,t:=h.t.grown a n2,k:=h.k.grown a q,own:=by rw[i];exact p,ent:=fun j y e h1 h2=>?_ };have m:∀ u l,EB w gS u l->EB (w.setCell ⟨gk,S.length,none⟩ (.slice (some ⟨g,0,none⟩) (rest.length+1) c)) gS u l:=fun u l b=>b.grown a (fun v cs hb _=>own_ne ho hb (by decide));by_cases n:j<S.length
 ·rw[AQ (by omega)]at h1;rw[Ax n]at h2;exact m _ _ (h.ent j y e h1 (by rw[Ax n];exact h2))
 ·have z:j=S.length:=by
   have:=(List.getElem?_eq_some_iff.1 h2).1;simp at this;omega
  subst z;rw[Ay (by omega)]at h1;simp at h1 h2;subst h1;subst h2;have b:vs[S.length]? = some (vs[S.length]'(by omega)):=Ak (by omega);have o:=h.ent S.length _ (t,rest ++ [x]) b (by simp);have d:=ho.cellAt S.length (by omega);rw[hcell,b]at d;injection d with d;rw[<-d]at o;obtain⟨v,c',cur,A,e2,B,C,D⟩:=o;injection A with a1 a2 E;injection a1 with a1;injection a1 with a1;subst a1;subst E;refine m _ _ ⟨g,c,cur,by simp[ints'],e2,B,by simp[ints']at C ⊢;omega,?_⟩;have:=congrArg (List.take (rest.length+1)) D;rw[List.take_take,bQz]at this;have q1:min (rest.length+1) (ints' (t,rest ++ [x])).length=(ints' (t,rest)).length:=(by simp[ints']);have F:(ints' (t,rest ++ [x])).take (rest.length+1)=ints' (t,rest):=(by simp[ints']);rw[q1,F]at this;exact this
def muS(st:List Int)(stk:Stk):Nat:=70*st.count 0+(stk.map fun e=>e.2.length+1).sum
theorem cZv{y:Int}(h:st[k]? = some x)(a:x≠0)(b:y≠0):(st.set k y).count 0=st.count 0:=by
 obtain⟨c,e⟩:=List.getElem?_eq_some_iff.1 h;rw[Bz c,e];simp[a,b]
theorem bVj{y:Int}(h:st[k]? = some 0)(a:y≠0):(st.set k y).count 0+1=st.count 0:=by
 obtain⟨b,e⟩:=List.getElem?_eq_some_iff.1 h;have hp:0<st.count 0:=List.count_pos_iff.2 (Bq h);rw[Bz b,e];simp[a];omega
theorem cZw{S:Stk}(h:st[t]? = some 1):muS (st.set t 2) S<muS st (S ++ [(t,[])]):=by
 unfold muS;rw[cZv h (by decide) (by decide)];simp
theorem bWl{S:Stk}{rest:List Int}:muS st (S ++ [(t,rest)])<muS st (S ++ [(t,rest ++ [x])]):=by
 unfold muS;simp
theorem bJi{S:Stk}{rest:List Int}(h:st[k]? = some 0)(hl:l.length<=66):muS (st.set k 1) (S ++ [(t,rest)] ++ [(k,l)])<muS st (S ++ [(t,rest ++ [x])]):=by
 unfold muS;have:=bVj (y:=1) h (by decide);simp;omega
end Go.Proofs.YtabibkpfgmolkaaGreat

/- Lemmas for the claim, part 3. Conditions: none. -/
import Derived.Test.YtabibkpfgmolkaaDoorPc02
set_option maxRecDepth 100000
set_option maxHeartbeats 16000000
set_option linter.unusedVariables false
set_option linter.unusedSimpArgs false
open Go.Lib renaming hid→cQ
open Go.Proofs.Tryd renaming prog→cZ
open Go.Proofs.Tryd
open Go.RowKit
open Nat renaming le_refl→Aj,sub_self→AV
open List renaming getElem?_append_left→Ax,getElem?_append_right→Az,getElem?_eq_getElem→Ak,getElem?_set_self→Ay,getElem?_set_ne→AQ,append_assoc→AK,getElem?_map→AW,take_succ_eq_append_getElem→AY,take_of_length_le→Aa,nodup_append→Ab,length_take→Ae,take_append_of_le_length→Af,mem_append→Ah,map_append→Bj,mem_of_getElem?→Bq,nil_append→Bx,count_set→Bz
open Bool renaming true_and→Aw,false_and→AJ,and_true→AX
open Go.RowKit.Below renaming refl→AZ
open Option renaming map_eq_some_iff→Ad
open Go renaming World→Bk,Value→Bv
open Go.RowKit renaming Below→Bw
namespace Go.Proofs.YtabibkpfgmolkaaDoor
variable {st l:List Int}{w:Bk}{k t base gS bR bS bK i:Nat}{D:List Nat}{x p:Int}{v:Bv}
theorem aYb(h:l[k]? = some p)(h1:x ∉ l.take k)(h2:p≠x):x ∉ l.take (k+1):=by
 obtain⟨a,e⟩:=List.getElem?_eq_some_iff.1 h;rw[AY a,e,Ah];rintro(h | h)
 ·exact h1 h
 ·simp at h;exact h2 h.symm
theorem bKc(v:Bv)(l:List Int)(x:Int)(w:Bk)(hs:IR w v l)(hm:l.length<=9223372036854775807):
  Calls cZ 67 #[v,.int .i64 x] w fun e w'=>∃ r:Int,e = .returned (.int .i64 r)/\decide (0<=r)=decide (x∈l)/\w=w':=by
 obtain⟨A,c,rfl⟩:=hs.shape;have j:=cQ hs;clear hs;go_in;go_wp2;go_loopw [8] (fun i wr=>∃ k:Nat,k<=l.length/\i = .int .i64 k/\Hid (x ∉ l.take k)/\Hid (w=wr)) (fun i _=>l.length - (intOf i).toNat)
 case atStart=>exact⟨0,by omega,rfl,cQ (by simp),cQ rfl⟩
 case round=>
  obtain⟨k,hk,rfl,d,f⟩:=hrel;obtain rfl:=f.out;clear f;by_cases g:k<l.length
  ·have ad:(k:Int)<(l.length:Int):=(by omega);obtain⟨y,a⟩:∃ y,l[k]? = some y:=⟨_,Ak g⟩;obtain⟨ab,ao,rfl,ag,ah⟩:=j.out.cell a;have h:=cQ a;clear a;by_cases he:x=y
   ·subst he;have m:=cQ (Bq h.out);have n:(x == x)=true:=(by simp);go_wp2;go_ret;exact⟨k,rfl,by rw[decide_eq_true m.out];simp,rfl⟩
   ·have n:(x == y)=false:=(by simp[he]);have b:=cQ (aYb h.out d.out (fun e=>he e.symm));clear he;go_wp2;exact⟨⟨k+1,by omega,by simp,b,cQ (by trivial)⟩,by simp[intOf];omega⟩
  ·have af:¬k<l.length:=g;have b:=cQ (show x ∉ l by have:=d.out;rwa[Aa (by omega)]at this);go_wp2;go_ret;exact⟨-1,rfl,by rw[decide_eq_false b.out];rfl,rfl⟩
theorem wK(v:Bv)(l:List Int)(x:Int)(w:Bk)(hs:IR w v l)(b:l.length<=9223372036854775807):
  Calls cZ 51 #[v,.int .i64 x] w fun e w'=>e = .returned (.bool (decide (x∈l)))/\w=w':=by
 obtain⟨A,c,rfl⟩:=hs.shape;have d:=cQ hs;clear hs;go_in;go_wp2_with fail;refine(bKc _ l x _ d.out b).mono ?_;rintro e w1 ⟨r,rfl,a,rfl⟩;have f:=cQ a;clear a;go_wp2;go_ret;exact⟨by rw[<-f.out];rfl,rfl⟩
def aQd(n x:Int):Bool:=!decide (0<=x/\x<n)
theorem bQq(n x:Int)(b:Nat)(w:Bk)(hc:w.cell? ⟨b,0,none⟩=some (.int .i64 n)):Calls cZ 64 #[.int .i64 x,.pointer (some ⟨b,0,none⟩)] w fun e w'=>e = .returned (.bool (aQd n x))/\Bw w.heap.size w w':=by
 by_cases h1:x<0
 ·have c:decide (x<0)=true:=(by simpa using h1);have a:=cQ (show aQd n x=true by simp[aQd];omega);go_in;go_wp2;go_ret;exact⟨by rw[a.out];rfl,AZ _ _⟩
 ·have c:decide (x<0)=false:=(by simpa using h1);by_cases h2:n<=x
  ·have d:decide (n<=x)=true:=(by simpa using h2);have a:=cQ (show aQd n x=true by simp[aQd];omega);go_in;go_wp2;go_ret;exact⟨by rw[a.out];rfl,AZ _ _⟩
  ·have d:decide (n<=x)=false:=(by simpa using h2);have a:=cQ (show aQd n x=false by simp[aQd];omega);go_in;go_wp2;go_ret;exact⟨by rw[a.out];rfl,AZ _ _⟩
theorem iJ(n:Int)(v:Bv)(l:List Int)(w:Bk)(hs:IR w v l)(f:l.length<=9223372036854775807):
  Calls cZ 46 #[.int .i64 n,v] w fun e w'=>e = .returned (.bool (within n l))/\Bw w.heap.size w w':=by
 obtain⟨A,c,rfl⟩:=hs.shape;have a:=cQ (show Bw w.heap.size w (w.alloc (.cells #[.int .i64 n] 3))from(AZ _ _).alloc (Aj _) _);have g:=cQ (hs.below a.out (Aj _));have b:=cQ (Blk.new w 3 #[.int .i64 n])
 have h:=cQ (show within n l = !(l.any (aQd n)) by
  have:=aKp l (fun x=>decide (0<=x/\x<n))
  rw[within,<-this];rfl)
 clear hs;go_in;go_wp2_with fail
 refine(aKr A l.length c l (aQd n) w.heap.size _ g.out f (fun x hx v w' i e=>by
  subst e;have hc:=(b.out.below i b.out.lt).cell 0;simp at hc
  exact bQq n x _ w' hc)).mono ?_
 rintro e w1 ⟨rfl,d⟩;have j:=cQ (a.out.trans (d.mono a.out.size));clear d;go_wp2;go_ret;exact⟨by rw[h.out];rfl,j.out⟩
theorem bZm(h:l[k]? = some p)(h1:(l.take k).Nodup)(h2:p ∉ l.take k):(l.take (k+1)).Nodup:=by
 obtain⟨d,e⟩:=List.getElem?_eq_some_iff.1 h;rw[AY d,e,Ab];refine⟨h1,by simp,?_⟩;intro a ha b c;simp at c;subst c;intro e;subst e;exact h2 ha
theorem bKd(h:l[k]? = some p)(h2:p∈l.take k):¬l.Nodup:=by
 intro hn;obtain⟨a,e⟩:=List.getElem?_eq_some_iff.1 h;rw[<-List.take_append_drop k l,Ab]at hn;refine hn.2.2 p h2 p ?_ rfl;rw[List.drop_eq_getElem_cons a,e];simp
theorem uW(v:Bv)(l:List Int)(w:Bk)(hs:IR w v l)(hm:l.length<=9223372036854775807)(hv:∀ A n c,v = .slice A n c->n<=c):
  Calls cZ 47 #[v] w fun e w'=>e = .returned (.bool (decide l.Nodup))/\w=w':=by
 obtain⟨A,c,rfl⟩:=hs.shape;have hc:=hv _ _ _ rfl;have f:=cQ hs;clear hs hv;go_in;go_wp2;go_loopw [7] (fun i wr=>∃ k:Nat,k<=l.length/\i = .int .i64 k/\Hid ((l.take k).Nodup)/\Hid (w=wr)) (fun i _=>l.length - (intOf i).toNat)
 case atStart=>exact⟨0,by omega,rfl,cQ (by simp),cQ rfl⟩
 case round=>
  obtain⟨k,hk,rfl,g,h⟩:=hrel;obtain rfl:=h.out;clear h;by_cases j:k<l.length
  ·have ad:(k:Int)<(l.length:Int):=(by omega);have ah:k<=c:=(by omega);have ae:(k:Int)<=(c:Int):=(by omega);obtain⟨y,a⟩:∃ y,l[k]? = some y:=⟨_,Ak j⟩;obtain⟨ab,p,rfl,ai,aj⟩:=f.out.cell a;have m:=cQ a
   have o:=cQ (show IR w (.slice (some ⟨ab,p,none⟩) k c) (l.take k) by
    obtain⟨A',c',e',q⟩:=f.out;injection e' with r e2 e3;subst r;refine IR.of ?_ (by rw[Ae];omega);rw[<-aVc]
    exact q.take (by omega))
   clear a;by_cases he:y∈l.take k
   ·have b:=cQ (show decide (y∈l.take k)=true by simpa using he);have s:=cQ (decide_eq_false (bKd m.out he));clear he;go_wp2_with fail;refine(wK _ (l.take k) y _ o.out (by rw[Ae];omega)).mono ?_;rintro e t ⟨rfl,rfl⟩;rw[b.out];go_wp2;go_ret;exact⟨by rw[s.out];rfl,rfl⟩
   ·have b:=cQ (show decide (y∈l.take k)=false by simpa using he);have d:=cQ (bZm m.out g.out he);clear he;go_wp2_with fail;refine(wK _ (l.take k) y _ o.out (by rw[Ae];omega)).mono ?_;rintro e t ⟨rfl,rfl⟩;rw[b.out];go_wp2;exact⟨⟨k+1,by omega,by simp,d,cQ (by trivial)⟩,by simp[intOf];omega⟩
  ·have ag:¬k<l.length:=j;have d:=cQ (show decide l.Nodup=true by have:=g.out;rw[Aa (by omega)]at this;simpa using this);go_wp2;go_ret;exact⟨by rw[d.out];rfl,rfl⟩
theorem al3(w:Bk)(a b c:Obj):Bw w.heap.size w (((w.alloc a).alloc b).alloc c):=(((AZ _ _).alloc (Aj _) _).alloc (by simp) _).alloc (by simp;omega) _
def oV(e:EnvD)(r:RowD)(c:CodeD)(ok:Bool)(most:Nat)(i o:List Int)(a b:Int):Bool:=
 ok && (decide (c.n<=most) && (decide (c.args.length=i.length) && (decide (c.outs.length=o.length) && (decide (a<=(c.to.length:Int)) && (decide ((c.to.length:Int)<=b) &&
  (within r.places c.args && (within r.places c.outs && (decide c.outs.Nodup && within r.code.length c.to))))))))
theorem cJf{e:EnvD}{r:RowD}{c:CodeD}{ok:Bool}{most:Nat}{i o:List Int}{a b:Int}
  (j:dJ e r.sig c.op c.n=none->ok=false\/most<c.n) (k:∀ x,dJ e r.sig c.op c.n=some x->ok=true/\c.n<=most/\x=(i,o)/\a=mJ c.op/\b=lY c.op) :
  codeOk e r c=oV e r c ok most i o a b:=by
 cases hf:dJ e r.sig c.op c.n with
 | none=>
  simp only[codeOk,hf,oV];rcases j hf with h | h
  ·rw[h];rfl
  ·rw[decide_eq_false (by omega)];cases ok <;> rfl
 | some x=>
  obtain⟨h1,h2,l,m,p⟩:=k x hf;subst l;subst m;subst p;simp only[codeOk,hf,oV,h1,decide_eq_true h2,Aw];by_cases q1:c.args.length=i.length
  ·by_cases d:c.outs.length=o.length
   ·by_cases f:mJ c.op<=(c.to.length:Int)
    ·by_cases g:(c.to.length:Int)<=lY c.op
     ·simp only[decide_eq_true q1,decide_eq_true d,decide_eq_true f,decide_eq_true g,decide_eq_true (show _/\_/\_/\_ from⟨q1,d,f,g⟩),Aw]
     ·rw[decide_eq_false (fun h=>g h.2.2.2),decide_eq_false g];simp
    ·rw[decide_eq_false (fun h=>f h.2.2.1),decide_eq_false f];simp
   ·rw[decide_eq_false (fun h=>d h.2.1),decide_eq_false d];simp
  ·rw[decide_eq_false (fun h=>q1 h.1),decide_eq_false q1];simp
theorem aJn(e:EnvD)(r:RowD)(c:CodeD)(ve vr vc:Bv)(w:Bk)(he:EnvV w ve e)(hr:RowV w vr r)(hc:CodeV w vc c)(ay:e.muts.length=e.globals.length):
  Calls cZ 50 #[ve,vr,vc] w fun en w'=>en = .returned (.bool (codeOk e r c))/\Bw w.heap.size w w':=by
 have az:=he;obtain⟨va,vb,vd,rfl,h1,h2,h3⟩:=he;obtain⟨As,cs,rfl,_⟩:=h1.len;obtain⟨Ag,cg,rfl⟩:=h2.shape;obtain⟨Am,cm,rfl,_⟩:=h3;obtain⟨vp,vq,vr,vs,rfl,h4,h5,h6,h7⟩:=hr;obtain⟨Ap,cp,rfl⟩:=h4.shape;obtain⟨Aq,cq,rfl⟩:=h5.shape;obtain⟨Ar,cr,rfl⟩:=h6.shape;obtain⟨Ac,cc,rfl,_⟩:=h7.len;obtain⟨v2,v3,v4,rfl,aA,h8,h9,au⟩:=hc;obtain⟨A2,c2,rfl⟩:=h8.shape;obtain⟨A3,c3,rfl⟩:=h9.shape;obtain⟨A4,c4,rfl⟩:=au.shape;have l7:=h7.cWv;have l8:=h8.cWv;have l9:=h9.cWv;have aI:=au.cWv;have U:=cQ (al3 w (.cells #[.slice As e.sigs.length cs,.int .i64 e.imports,.slice Ag e.globals.length cg,.slice Am e.muts.length cm,.bool e.mem] 26) (.cells #[.slice Ap r.sig.inn.length cp,.slice Aq r.sig.out.length cq,.int .i64 r.places,.slice Ar r.params.length cr,.slice Ac r.code.length cc] 45) (.cells #[.int .i64 c.op,.int .u64 (c.n:Int),.slice A2 c.args.length c2,.slice A3 c.outs.length c3,.slice A4 c.to.length c4] 80));have E1:=cQ ((Blk.newAt (w.alloc (.cells #[.slice As e.sigs.length cs,.int .i64 e.imports,.slice Ag e.globals.length cg,.slice Am e.muts.length cm,.bool e.mem] 26)) (N:=w.heap.size+1) 45 #[.slice Ap r.sig.inn.length cp,.slice Aq r.sig.out.length cq,.int .i64 r.places,.slice Ar r.params.length cr,.slice Ac r.code.length cc] (by simp)).alloc (.cells #[.int .i64 c.op,.int .u64 (c.n:Int),.slice A2 c.args.length c2,.slice A3 c.outs.length c3,.slice A4 c.to.length c4] 80));have E2:=cQ (at3 w (.cells #[.slice As e.sigs.length cs,.int .i64 e.imports,.slice Ag e.globals.length cg,.slice Am e.muts.length cm,.bool e.mem] 26) (.cells #[.slice Ap r.sig.inn.length cp,.slice Aq r.sig.out.length cq,.int .i64 r.places,.slice Ar r.params.length cr,.slice Ac r.code.length cc] 45) 80 #[.int .i64 c.op,.int .u64 (c.n:Int),.slice A2 c.args.length c2,.slice A3 c.outs.length c3,.slice A4 c.to.length c4]);have l:=cQ (h8.ir.below U.out (Aj _));have k:=cQ (h9.ir.below U.out (Aj _));have m:=cQ (au.ir.below U.out (Aj _));have aF:=cQ (az.below U.out (Aj _));have aG:=cQ (show SigV _ _ r.sig from⟨_,_,rfl,h4.below U.out (Aj _),h5.below U.out (Aj _)⟩);have aw:=cQ aA;have aH:=cQ ay;clear h1 h2 h4 h5 h6 h7 h8 h9 au az aA ay;go_in;go_wp2_with fail;simp only[List.append_eq,List.cons_append,Bx]at *;refine(bQp c.op aw.out.2.1 aw.out.2.2 e r.sig _ _ c.n aw.out.1 _ aF.out aG.out aH.out).mono ?_;rintro en w1 ⟨vi,vo,most,a,b,ok,i,o,rfl,aB,aC,aq,hP,hQ,_,al⟩;obtain⟨Ai,ci,rfl⟩:=aB.shape;obtain⟨Ao,co,rfl⟩:=aC.shape;have P:=cQ (cJf hP hQ);have B4:=cQ (U.out.trans (al.mono U.out.size));have an:=al.alloc al.size (.cells #[.slice Ai i.length ci,.slice Ao o.length co,.int .u64 (most:Int),.int .i64 a,.int .i64 b] 121);have aD:=cQ (E1.out.below al E1.out.lt);have aE:=cQ (E2.out.below al E2.out.lt);have f:=cQ (E1.out.below an E1.out.lt);have KC:=cQ (E2.out.below an E2.out.lt);have l:=cQ (l.out.below an (Aj _));have k:=cQ (k.out.below an (Aj _));have m:=cQ (m.out.below an (Aj _));have g:=cQ (Blk.new w1 121 #[.slice Ai i.length ci,.slice Ao o.length co,.int .u64 (most:Int),.int .i64 a,.int .i64 b])
 have j:=cQ (B4.out.alloc B4.out.size (.cells #[.slice Ai i.length ci,.slice Ao o.length co,.int .u64 (most:Int),.int .i64 a,.int .i64 b] 121));clear al an hP hQ aB aC aq;have k1:=aD.out.lt;have k2:=aE.out.lt;obtain⟨p,q,s,t,u⟩:=dZ aD.out;obtain⟨v,x,y,z,B⟩:=dZ aE.out;have C:=k1;have s1:=k1;have s2:=k1;have D:=k1;have E:=k1
 cases ok with
 | false=>
  have F:=cQ (show codeOk e r c=false by rw[P.out];simp only[oV,Aw,AJ,AX]);go_wp2;go_ret;exact⟨by rw[F.out];rfl,j.out⟩
 | true=>
  by_cases G:c.n<=most
  ·by_cases H:c.args.length=i.length
   ·by_cases I:c.outs.length=o.length
    ·by_cases K:a<=(c.to.length:Int)
     ·by_cases M:(c.to.length:Int)<=b
      ·cases J:within r.places c.args with
       | true=>
        cases O:within r.places c.outs with
        | true=>
         by_cases Q:c.outs.Nodup
         ·cases ao:within r.code.length c.to with
          | true=>
           have R:decide ((c.n:Int)<=(most:Int))=true:=(by simp;omega);have S:c.n<=most:=(by omega);have V:((c.args.length:Int) == (i.length:Int))=true:=(by simp;omega);have W:(c.args.length == i.length)=true:=(by simp;omega);have X:((c.outs.length:Int) == (o.length:Int))=true:=(by simp;omega);have Y:(c.outs.length == o.length)=true:=(by simp;omega);have g4:decide (a<=(c.to.length:Int))=true:=(by simpa using K);have g5:decide ((c.to.length:Int)<=b)=true:=(by simpa using M);have F:=cQ (show codeOk e r c=true by rw[P.out];simp only[oV,decide_eq_true G,decide_eq_true H,decide_eq_true I,decide_eq_true K,decide_eq_true M,J,O,decide_eq_true Q,ao,Aw,AJ,AX]);have T:=cQ (show within r.places c.args=true from J);have Z:=cQ (show within r.places c.outs=true from O);have ar:=cQ (show decide c.outs.Nodup=true from decide_eq_true Q);have ax:=cQ (show within r.code.length c.to=true from ao);clear G H I J O Q ao;go_wp2_with fail;refine(iJ r.places _ c.args _ l.out (by omega)).mono ?_;rintro en L ⟨rfl,d⟩;rw[T.out];have j:=cQ (j.out.trans (d.mono j.out.size));have f:=cQ (f.out.below d f.out.lt);have KC:=cQ (KC.out.below d KC.out.lt);have g:=cQ (g.out.below d g.out.lt);have l:=cQ (l.out.below d (Aj _));have k:=cQ (k.out.below d (Aj _));have m:=cQ (m.out.below d (Aj _));clear d;clear p q s t u v x y z B C s1 s2 D E;obtain⟨p,q,s,t,u⟩:=dZ f.out;obtain⟨v,x,y,z,B⟩:=dZ KC.out;obtain⟨C,s1,s2,D,E⟩:=dZ g.out;go_wp2_with fail;refine(iJ r.places _ c.outs _ k.out (by omega)).mono ?_;rintro en L ⟨rfl,d⟩;rw[Z.out];have j:=cQ (j.out.trans (d.mono j.out.size));have f:=cQ (f.out.below d f.out.lt);have KC:=cQ (KC.out.below d KC.out.lt);have g:=cQ (g.out.below d g.out.lt);have l:=cQ (l.out.below d (Aj _));have k:=cQ (k.out.below d (Aj _));have m:=cQ (m.out.below d (Aj _));clear d;clear p q s t u v x y z B C s1 s2 D E;obtain⟨p,q,s,t,u⟩:=dZ f.out;obtain⟨v,x,y,z,B⟩:=dZ KC.out;obtain⟨C,s1,s2,D,E⟩:=dZ g.out;go_wp2_with fail;refine(uW _ c.outs _ k.out (by omega) (fun A n c h=>by injection h with e1 e2 e3;omega)).mono ?_;rintro en L ⟨rfl,rfl⟩;rw[ar.out];go_wp2_with fail;refine(iJ r.code.length _ c.to _ m.out (by omega)).mono ?_;rintro en L ⟨rfl,d⟩;rw[ax.out];have j:=cQ (j.out.trans (d.mono j.out.size));have f:=cQ (f.out.below d f.out.lt);have KC:=cQ (KC.out.below d KC.out.lt);have g:=cQ (g.out.below d g.out.lt);have l:=cQ (l.out.below d (Aj _));have k:=cQ (k.out.below d (Aj _));have m:=cQ (m.out.below d (Aj _));clear d;clear p q s t u v x y z B C s1 s2 D E;obtain⟨p,q,s,t,u⟩:=dZ f.out;obtain⟨v,x,y,z,B⟩:=dZ KC.out;obtain⟨C,s1,s2,D,E⟩:=dZ g.out;go_wp2;go_ret;exact⟨by rw[F.out];rfl,j.out⟩
          | false=>
           have R:decide ((c.n:Int)<=(most:Int))=true:=(by simp;omega);have S:c.n<=most:=(by omega);have V:((c.args.length:Int) == (i.length:Int))=true:=(by simp;omega);have W:(c.args.length == i.length)=true:=(by simp;omega);have X:((c.outs.length:Int) == (o.length:Int))=true:=(by simp;omega);have Y:(c.outs.length == o.length)=true:=(by simp;omega);have g4:decide (a<=(c.to.length:Int))=true:=(by simpa using K);have g5:decide ((c.to.length:Int)<=b)=true:=(by simpa using M);have F:=cQ (show codeOk e r c=false by rw[P.out];simp only[oV,decide_eq_true G,decide_eq_true H,decide_eq_true I,decide_eq_true K,decide_eq_true M,J,O,decide_eq_true Q,ao,Aw,AJ,AX]);have T:=cQ (show within r.places c.args=true from J);have Z:=cQ (show within r.places c.outs=true from O);have ar:=cQ (show decide c.outs.Nodup=true from decide_eq_true Q);have ax:=cQ (show within r.code.length c.to=false from ao);clear G H I J O Q ao;go_wp2_with fail;refine(iJ r.places _ c.args _ l.out (by omega)).mono ?_;rintro en L ⟨rfl,d⟩;rw[T.out];have j:=cQ (j.out.trans (d.mono j.out.size));have f:=cQ (f.out.below d f.out.lt);have KC:=cQ (KC.out.below d KC.out.lt);have g:=cQ (g.out.below d g.out.lt);have l:=cQ (l.out.below d (Aj _));have k:=cQ (k.out.below d (Aj _));have m:=cQ (m.out.below d (Aj _));clear d;clear p q s t u v x y z B C s1 s2 D E;obtain⟨p,q,s,t,u⟩:=dZ f.out;obtain⟨v,x,y,z,B⟩:=dZ KC.out;obtain⟨C,s1,s2,D,E⟩:=dZ g.out;go_wp2_with fail;refine(iJ r.places _ c.outs _ k.out (by omega)).mono ?_;rintro en L ⟨rfl,d⟩;rw[Z.out];have j:=cQ (j.out.trans (d.mono j.out.size));have f:=cQ (f.out.below d f.out.lt);have KC:=cQ (KC.out.below d KC.out.lt);have g:=cQ (g.out.below d g.out.lt);have l:=cQ (l.out.below d (Aj _));have k:=cQ (k.out.below d (Aj _));have m:=cQ (m.out.below d (Aj _));clear d;clear p q s t u v x y z B C s1 s2 D E;obtain⟨p,q,s,t,u⟩:=dZ f.out;obtain⟨v,x,y,z,B⟩:=dZ KC.out;obtain⟨C,s1,s2,D,E⟩:=dZ g.out;go_wp2_with fail;refine(uW _ c.outs _ k.out (by omega) (fun A n c h=>by injection h with e1 e2 e3;omega)).mono ?_;rintro en L ⟨rfl,rfl⟩;rw[ar.out];go_wp2_with fail;refine(iJ r.code.length _ c.to _ m.out (by omega)).mono ?_;rintro en L ⟨rfl,d⟩;rw[ax.out];have j:=cQ (j.out.trans (d.mono j.out.size));have f:=cQ (f.out.below d f.out.lt);have KC:=cQ (KC.out.below d KC.out.lt);have g:=cQ (g.out.below d g.out.lt);have l:=cQ (l.out.below d (Aj _));have k:=cQ (k.out.below d (Aj _));have m:=cQ (m.out.below d (Aj _));clear d;clear p q s t u v x y z B C s1 s2 D E;obtain⟨p,q,s,t,u⟩:=dZ f.out;obtain⟨v,x,y,z,B⟩:=dZ KC.out;obtain⟨C,s1,s2,D,E⟩:=dZ g.out;go_wp2;go_ret;exact⟨by rw[F.out];rfl,j.out⟩
         ·have R:decide ((c.n:Int)<=(most:Int))=true:=(by simp;omega);have S:c.n<=most:=(by omega);have V:((c.args.length:Int) == (i.length:Int))=true:=(by simp;omega);have W:(c.args.length == i.length)=true:=(by simp;omega);have X:((c.outs.length:Int) == (o.length:Int))=true:=(by simp;omega);have Y:(c.outs.length == o.length)=true:=(by simp;omega);have g4:decide (a<=(c.to.length:Int))=true:=(by simpa using K);have g5:decide ((c.to.length:Int)<=b)=true:=(by simpa using M);have F:=cQ (show codeOk e r c=false by rw[P.out];simp only[oV,decide_eq_true G,decide_eq_true H,decide_eq_true I,decide_eq_true K,decide_eq_true M,J,O,decide_eq_false Q,Aw,AJ,AX]);have T:=cQ (show within r.places c.args=true from J);have Z:=cQ (show within r.places c.outs=true from O);have ar:=cQ (show decide c.outs.Nodup=false from decide_eq_false Q);clear G H I J O Q;go_wp2_with fail;refine(iJ r.places _ c.args _ l.out (by omega)).mono ?_;rintro en L ⟨rfl,d⟩;rw[T.out];have j:=cQ (j.out.trans (d.mono j.out.size));have f:=cQ (f.out.below d f.out.lt);have KC:=cQ (KC.out.below d KC.out.lt);have g:=cQ (g.out.below d g.out.lt);have l:=cQ (l.out.below d (Aj _));have k:=cQ (k.out.below d (Aj _));have m:=cQ (m.out.below d (Aj _));clear d;clear p q s t u v x y z B C s1 s2 D E;obtain⟨p,q,s,t,u⟩:=dZ f.out;obtain⟨v,x,y,z,B⟩:=dZ KC.out;obtain⟨C,s1,s2,D,E⟩:=dZ g.out;go_wp2_with fail;refine(iJ r.places _ c.outs _ k.out (by omega)).mono ?_;rintro en L ⟨rfl,d⟩;rw[Z.out];have j:=cQ (j.out.trans (d.mono j.out.size));have f:=cQ (f.out.below d f.out.lt);have KC:=cQ (KC.out.below d KC.out.lt);have g:=cQ (g.out.below d g.out.lt);have l:=cQ (l.out.below d (Aj _));have k:=cQ (k.out.below d (Aj _));have m:=cQ (m.out.below d (Aj _));clear d;clear p q s t u v x y z B C s1 s2 D E;obtain⟨p,q,s,t,u⟩:=dZ f.out;obtain⟨v,x,y,z,B⟩:=dZ KC.out;obtain⟨C,s1,s2,D,E⟩:=dZ g.out;go_wp2_with fail;refine(uW _ c.outs _ k.out (by omega) (fun A n c h=>by injection h with e1 e2 e3;omega)).mono ?_;rintro en L ⟨rfl,rfl⟩;rw[ar.out];go_wp2;go_ret;exact⟨by rw[F.out];rfl,j.out⟩
        | false=>
         have R:decide ((c.n:Int)<=(most:Int))=true:=(by simp;omega);have S:c.n<=most:=(by omega);have V:((c.args.length:Int) == (i.length:Int))=true:=(by simp;omega);have W:(c.args.length == i.length)=true:=(by simp;omega);have X:((c.outs.length:Int) == (o.length:Int))=true:=(by simp;omega);have Y:(c.outs.length == o.length)=true:=(by simp;omega);have g4:decide (a<=(c.to.length:Int))=true:=(by simpa using K);have g5:decide ((c.to.length:Int)<=b)=true:=(by simpa using M);have F:=cQ (show codeOk e r c=false by rw[P.out];simp only[oV,decide_eq_true G,decide_eq_true H,decide_eq_true I,decide_eq_true K,decide_eq_true M,J,O,Aw,AJ,AX]);have T:=cQ (show within r.places c.args=true from J);have Z:=cQ (show within r.places c.outs=false from O);clear G H I J O;go_wp2_with fail;refine(iJ r.places _ c.args _ l.out (by omega)).mono ?_;rintro en L ⟨rfl,d⟩;rw[T.out];have j:=cQ (j.out.trans (d.mono j.out.size));have f:=cQ (f.out.below d f.out.lt);have KC:=cQ (KC.out.below d KC.out.lt);have g:=cQ (g.out.below d g.out.lt);have l:=cQ (l.out.below d (Aj _));have k:=cQ (k.out.below d (Aj _));have m:=cQ (m.out.below d (Aj _));clear d;clear p q s t u v x y z B C s1 s2 D E;obtain⟨p,q,s,t,u⟩:=dZ f.out;obtain⟨v,x,y,z,B⟩:=dZ KC.out;obtain⟨C,s1,s2,D,E⟩:=dZ g.out;go_wp2_with fail;refine(iJ r.places _ c.outs _ k.out (by omega)).mono ?_;rintro en L ⟨rfl,d⟩;rw[Z.out];have j:=cQ (j.out.trans (d.mono j.out.size));have f:=cQ (f.out.below d f.out.lt);have KC:=cQ (KC.out.below d KC.out.lt);have g:=cQ (g.out.below d g.out.lt);have l:=cQ (l.out.below d (Aj _));have k:=cQ (k.out.below d (Aj _));have m:=cQ (m.out.below d (Aj _));clear d;clear p q s t u v x y z B C s1 s2 D E;obtain⟨p,q,s,t,u⟩:=dZ f.out;obtain⟨v,x,y,z,B⟩:=dZ KC.out;obtain⟨C,s1,s2,D,E⟩:=dZ g.out;go_wp2;go_ret;exact⟨by rw[F.out];rfl,j.out⟩
       | false=>
        have R:decide ((c.n:Int)<=(most:Int))=true:=(by simp;omega);have S:c.n<=most:=(by omega);have V:((c.args.length:Int) == (i.length:Int))=true:=(by simp;omega);have W:(c.args.length == i.length)=true:=(by simp;omega);have X:((c.outs.length:Int) == (o.length:Int))=true:=(by simp;omega);have Y:(c.outs.length == o.length)=true:=(by simp;omega);have g4:decide (a<=(c.to.length:Int))=true:=(by simpa using K);have g5:decide ((c.to.length:Int)<=b)=true:=(by simpa using M);have F:=cQ (show codeOk e r c=false by rw[P.out];simp only[oV,decide_eq_true G,decide_eq_true H,decide_eq_true I,decide_eq_true K,decide_eq_true M,J,Aw,AJ,AX]);have T:=cQ (show within r.places c.args=false from J);clear G H I J;go_wp2_with fail;refine(iJ r.places _ c.args _ l.out (by omega)).mono ?_;rintro en L ⟨rfl,d⟩;rw[T.out];have j:=cQ (j.out.trans (d.mono j.out.size));have f:=cQ (f.out.below d f.out.lt);have KC:=cQ (KC.out.below d KC.out.lt);have g:=cQ (g.out.below d g.out.lt);have l:=cQ (l.out.below d (Aj _));have k:=cQ (k.out.below d (Aj _));have m:=cQ (m.out.below d (Aj _));clear d;clear p q s t u v x y z B C s1 s2 D E;obtain⟨p,q,s,t,u⟩:=dZ f.out;obtain⟨v,x,y,z,B⟩:=dZ KC.out;obtain⟨C,s1,s2,D,E⟩:=dZ g.out;go_wp2;go_ret;exact⟨by rw[F.out];rfl,j.out⟩
      ·have R:decide ((c.n:Int)<=(most:Int))=true:=(by simp;omega);have S:c.n<=most:=(by omega);have V:((c.args.length:Int) == (i.length:Int))=true:=(by simp;omega);have W:(c.args.length == i.length)=true:=(by simp;omega);have X:((c.outs.length:Int) == (o.length:Int))=true:=(by simp;omega);have Y:(c.outs.length == o.length)=true:=(by simp;omega);have g4:decide (a<=(c.to.length:Int))=true:=(by simpa using K);have g5:decide ((c.to.length:Int)<=b)=false:=(by simpa using M);have F:=cQ (show codeOk e r c=false by rw[P.out];simp only[oV,decide_eq_true G,decide_eq_true H,decide_eq_true I,decide_eq_true K,decide_eq_false M,Aw,AJ,AX]);clear G H I;go_wp2;go_ret;exact⟨by rw[F.out];rfl,j.out⟩
     ·have R:decide ((c.n:Int)<=(most:Int))=true:=(by simp;omega);have S:c.n<=most:=(by omega);have V:((c.args.length:Int) == (i.length:Int))=true:=(by simp;omega);have W:(c.args.length == i.length)=true:=(by simp;omega);have X:((c.outs.length:Int) == (o.length:Int))=true:=(by simp;omega);have Y:(c.outs.length == o.length)=true:=(by simp;omega);have g4:decide (a<=(c.to.length:Int))=false:=(by simpa using K);have F:=cQ (show codeOk e r c=false by rw[P.out];simp only[oV,decide_eq_true G,decide_eq_true H,decide_eq_true I,decide_eq_false K,Aw,AJ,AX]);clear G H I;go_wp2;go_ret;exact⟨by rw[F.out];rfl,j.out⟩
    ·have R:decide ((c.n:Int)<=(most:Int))=true:=(by simp;omega);have S:c.n<=most:=(by omega);have V:((c.args.length:Int) == (i.length:Int))=true:=(by simp;omega);have W:(c.args.length == i.length)=true:=(by simp;omega);have X:((c.outs.length:Int) == (o.length:Int))=false:=(by simp;omega);have Y:(c.outs.length == o.length)=false:=(by simp;omega);have F:=cQ (show codeOk e r c=false by rw[P.out];simp only[oV,decide_eq_true G,decide_eq_true H,decide_eq_false I,Aw,AJ,AX]);clear G H I;go_wp2;go_ret;exact⟨by rw[F.out];rfl,j.out⟩
   ·have R:decide ((c.n:Int)<=(most:Int))=true:=(by simp;omega);have S:c.n<=most:=(by omega);have V:((c.args.length:Int) == (i.length:Int))=false:=(by simp;omega);have W:(c.args.length == i.length)=false:=(by simp;omega);have F:=cQ (show codeOk e r c=false by rw[P.out];simp only[oV,decide_eq_true G,decide_eq_false H,Aw,AJ,AX]);clear G H;go_wp2;go_ret;exact⟨by rw[F.out];rfl,j.out⟩
  ·have R:decide ((c.n:Int)<=(most:Int))=false:=(by simp;omega);have S:¬c.n<=most:=(by omega);have F:=cQ (show codeOk e r c=false by rw[P.out];simp only[oV,decide_eq_false G,Aw,AJ,AX]);clear G;go_wp2;go_ret;exact⟨by rw[F.out];rfl,j.out⟩
theorem al2(w:Bk)(a b:Obj):Bw w.heap.size w ((w.alloc a).alloc b):=((AZ _ _).alloc (Aj _) _).alloc (by simp) _
def bYd(c:CodeD)(i:Nat)(w:Bk)(e:Ending)(w':Bk):Prop:=∃ v,e = .returned v/\IR w' v (nextOf c i)/\Bw w.heap.size w w'
theorem bKe(r:RowD)(m:Bv)(i:Nat)(c:CodeD)(w:Bk)(D:RowV w m r)(hi:r.code[i]? = some c)(u:c.op=274->0<c.to.length):
  Calls cZ 69 #[m,.int .i64 (i:Int)] w (bYd c i w):=by
 obtain⟨vp,vq,m,vs,rfl,v,z,A,e⟩:=D;obtain⟨Ap,cp,rfl⟩:=v.shape;obtain⟨Aq,cq,rfl⟩:=z.shape;obtain⟨Ar,cr,rfl⟩:=A.shape;obtain⟨Ac,cc,rfl,_⟩:=e.len;have l7:=e.cWv;have aq:i<r.code.length:=(List.getElem?_eq_some_iff.1 hi).1;have ai:(i:Int)<(r.code.length:Int):=(by omega);obtain⟨B,go,p,q,t,rfl,ar,c0,c1,c2,c3,c4,E,s1,s2,o⟩:=e.code hi;obtain⟨pA,pc,rfl⟩:=s1.shape;obtain⟨qA,qc,rfl⟩:=s2.shape;obtain⟨tA,tc,rfl⟩:=o.shape;have aj:B<w.heap.size+1:=(by omega);have ak:B<w.heap.size+1+1:=(by omega);have s:=cQ o.ir;have F:=cQ u;clear v z A e hi E s1 s2 o u;obtain⟨op,n,args,outs,to⟩:=c;simp only at *;by_cases f:op=276
 ·subst f;have b:=cQ (show nextOf ⟨276,n,args,outs,to⟩ i = [] by simp[nextOf]);go_in;go_wp2;go_ret;refine⟨_,rfl,?_,al2 _ _ _⟩;rw[b.out];exact IR.nil _
 by_cases g:op=277
 ·subst g;have b:=cQ (show nextOf ⟨277,n,args,outs,to⟩ i = [] by simp[nextOf]);go_in;go_wp2;go_ret;refine⟨_,rfl,?_,al2 _ _ _⟩;rw[b.out];exact IR.nil _
 by_cases h:op=273
 ·subst h;have b:=cQ (show nextOf ⟨273,n,args,outs,to⟩ i=to by simp[nextOf]);go_in;go_wp2;go_ret;refine⟨_,rfl,?_,al2 _ _ _⟩;rw[b.out];exact s.out.below (al2 _ _ _) (Aj _)
 by_cases j:op=275
 ·subst j;have b:=cQ (show nextOf ⟨275,n,args,outs,to⟩ i=to by simp[nextOf]);go_in;go_wp2;go_ret;refine⟨_,rfl,?_,al2 _ _ _⟩;rw[b.out];exact s.out.below (al2 _ _ _) (Aj _)
 by_cases k:op=274
 ·subst k;have G:=F.out rfl;have au:(0:Int)<(to.length:Int):=(by omega);obtain⟨x,d⟩:∃ x,to[0]? = some x:=⟨_,Ak G⟩;obtain⟨C,t0,rfl,aw,H⟩:=s.out.cell d;rw[Nat.add_zero]at H;have an:C<w.heap.size+1:=(by omega);have ao:C<w.heap.size+1+1:=(by omega)
  have I:=cQ (show to.headD 0=x by cases to with
   | nil=>simp at d
   | cons a l=>simp at d;exact d)
  clear d;have b:=cQ (show nextOf ⟨274,n,args,outs,to⟩ i = [(i:Int)+1,to.headD 0] by simp[nextOf]);go_in;go_wp2;go_ret;refine⟨_,rfl,?_,al3 _ _ _ _⟩;rw[b.out,I.out];exact IR.two (x:=(i:Int)+1) (y:=x) (Blk.newAt _ _ _ (by simp))
 have f276:(op == 276)=false:=(by simpa using f);have f277:(op == 277)=false:=(by simpa using g);have f273:(op == 273)=false:=(by simpa using h);have f275:(op == 275)=false:=(by simpa using j);have f274:(op == 274)=false:=(by simpa using k);have b:=cQ (show nextOf ⟨op,n,args,outs,to⟩ i = [(i:Int)+1] by simp[nextOf,f,g,h,j,k]);clear f g h j k;go_in;go_wp2;go_ret;refine⟨_,rfl,?_,al3 _ _ _ _⟩;rw[b.out];exact IR.one (x:=(i:Int)+1) (Blk.newAt _ _ _ (by simp))
theorem bZn(e:EnvD)(r:RowD)(c:CodeD)(g h:Nat)(ve v vc:Bv)(va i:Array Bv)(w:Bk)(he:EnvV w (.agg va) e)(j:RowV w (.agg i) r)(hc:CodeV w vc c)(k:e.muts.length=e.globals.length)
  (b:Blk w g 26 va) (d:Blk w h 45 i) :
  Calls cZ 49 #[vc,.pointer (some ⟨g,0,none⟩),.pointer (some ⟨h,0,none⟩)] w fun en w'=>en = .returned (.bool (!codeOk e r c))/\Bw w.heap.size w w':=by
 have x:=cQ he;have y:=cQ j;have z:=cQ hc;have A:=cQ k;obtain⟨ak,vb,vd,f,h1,h2,B⟩:=he;obtain⟨As,cs,rfl,_⟩:=h1.len;obtain⟨Ag,cg,rfl⟩:=h2.shape;obtain⟨Am,cm,rfl,_⟩:=B;obtain⟨vp,vq,v,vs,e2,l,m,o,p⟩:=j;obtain⟨Ap,cp,rfl⟩:=l.shape;obtain⟨Aq,cq,rfl⟩:=m.shape;obtain⟨Ar,cr,rfl⟩:=o.shape;obtain⟨Ac,cc,rfl,_⟩:=p.len;obtain⟨v2,v3,v4,rfl,C,q,s,t⟩:=hc;obtain⟨D,E,rfl⟩:=q.shape;obtain⟨F,G,rfl⟩:=s.shape;obtain⟨H,I,rfl⟩:=t.shape;injection f with f;injection e2 with e2;subst f;subst e2;obtain⟨r0,r1,r2,r3,r4⟩:=dZ d;obtain⟨d0,d1,d2,d3,d4⟩:=dZ b;have al:=d.lt;have an:=b.lt;clear h1 h2 l m o p q s t b d k C;go_in;go_wp2_with fail;have a:=cQ (show Bw w.heap.size w (w.alloc (.cells #[.int .i64 c.op,.int .u64 (c.n:Int),.slice D c.args.length E,.slice F c.outs.length G,.slice H c.to.length I] 80))from(AZ _ _).alloc (Aj _) _);refine(aJn e r c _ _ _ _ (x.out.below a.out (Aj _)) (y.out.below a.out (Aj _)) (z.out.below a.out (Aj _)) A.out).mono ?_;rintro en w1 ⟨rfl,u⟩;have J:=cQ (a.out.trans (u.mono a.out.size));clear u;go_wp2;go_ret;exact⟨rfl,J.out⟩
def edges(r:RowD)(i:Nat):List Int:=match r.code[i]? with
 | some c=>if c.op=258 then[]else nextOf c i
 | none=>[]
theorem aWv{r:RowD}{c:CodeD}(h:r.code[i]? = some c)(hc:c.op≠258):edges r i=nextOf c i:=by simp[edges,h,hc]
theorem bZc{r:RowD}{c:CodeD}(h:r.code[i]? = some c)(hc:c.op=258):edges r i = []:=by simp[edges,h,hc]
def DoneL(r:RowD)(D:List Nat):Prop:=∀ p i,D[p]? = some i->∀ k:Nat,(k:Int)∈edges r i->k∈D.take p
theorem DoneL.nil(r:RowD):DoneL r []:=fun p i h=>by simp at h
theorem DoneL.push{r:RowD}(h:DoneL r D)(c:∀ k:Nat,(k:Int)∈edges r i->k∈D):DoneL r (D ++ [i]):=by
 intro p j a k b;by_cases hp:p<D.length
 ·rw[Ax hp]at a;rw[Af (by omega)];exact h p j a k b
 ·rw[Az (by omega)]at a
  have d:p - D.length=0:=by
   have:=(List.getElem?_eq_some_iff.1 a).1;simp at this;omega
  rw[d]at a;simp at a;subst a;have e:p=D.length:=(by omega);rw[e,Af (Aj _),Aa (Aj _)];exact c k b
theorem aWw{p:Nat}(h:k∈D.take p):D.idxOf k<p:=by
 induction D generalizing p with
 | nil=>simp at h
 | cons a D b=>
  cases p with
  | zero=>simp at h
  | succ p=>
   rw[List.take_succ_cons]at h;rw[List.idxOf_cons];by_cases e:a=k
   ·subst e;simp
   ·have c:k∈D.take p:=by
     rcases List.mem_cons.1 h with h | h
     ·exact absurd h.symm e
     ·exact h
    have:=b c;have e':(a == k)=false:=(by simp[e]);rw[e'];simp;exact this
theorem DoneL.cYt{r:RowD}(h:DoneL r D)(a:∀ i,i<r.code.length->i∈D):Ranked r:=by
 refine⟨fun i=>D.idxOf i,fun i c k hi hc b=>?_⟩;have d:=a i (List.getElem?_eq_some_iff.1 hi).1;have e:D.idxOf i<D.length:=List.idxOf_lt_length_iff.2 d;have hg:D[D.idxOf i]? = some i:=(by rw[Ak e];simp);exact aWw (h _ i hg k (by rw[aWv hi hc];exact b))
theorem bZd{r:RowD}{S:Nat->Prop}(b:∃ i,S i)(h:∀ i,S i->∃ k:Nat,(k:Int)∈edges r i/\S k):¬Ranked r:=by
 rintro⟨rk,d⟩
 have key:∀ m i,rk i=m->S i->False:=by
  intro m
  induction m using Nat.strongRecOn with
  | _ m e=>
   intro i hm hs;obtain⟨k,a,f⟩:=h i hs;unfold edges at a
   split at a
   ·rename_i c hc
    split at a
    ·simp at a
    ·rename_i g;have:=d i c k hc g a;exact e (rk k) (by omega) k rfl f
   ·simp at a
 obtain⟨i,hi⟩:=b;exact key _ i rfl hi
abbrev Stk:=List (Nat×List Int)
def ints'(e:Nat×List Int):List Int:=(e.1:Int) :: e.2
structure RInv (r:RowD) (st:List Int) (stk:Stk) (D:List Nat):Prop where
 len:st.length=r.code.length
 done:DoneL r D
 two:∀ i:Nat,st[i]? = some 2↔i∈D
 one:∀ i:Nat,st[i]? = some 1↔i∈stk.map (·.1)
 vals:∀ (i:Nat) v,st[i]? = some v->v=0\/v=1\/v=2
 nod:(stk.map (·.1)).Nodup
 ent:∀ (j:Nat) e,stk[j]? = some e->∃ proc,edges r e.1=e.2++proc/\∀ x∈proc,(∃ k:Nat,x=k/\k∈D)\/(∃ e',stk[j+1]? = some e'/\x=(e'.1:Int))
 lead:∀ (j:Nat) e e',stk[j]? = some e->stk[j+1]? = some e'->(e'.1:Int)∈edges r e.1
theorem RInv.lt{r:RowD}{stk:Stk}(h:RInv r st stk D){e:Nat×List Int}(he:e∈stk):e.1<r.code.length:=by
 have:=(h.one e.1).2 (List.mem_map.2 ⟨e,he,rfl⟩);rw[<-h.len];exact(List.getElem?_eq_some_iff.1 this).1
theorem RInv.small{r:RowD}{stk:Stk}(h:RInv r st stk D):stk.length<=r.code.length:=by
 have h1:(stk.map (·.1)).length<=(List.range r.code.length).length:=
  List.Nodup.length_le_of_subset h.nod fun x a=>by
   obtain⟨e,he,rfl⟩:=List.mem_map.1 a;exact List.mem_range.2 (h.lt he)
 simpa using h1
theorem RInv.start{r:RowD}:RInv r (List.replicate r.code.length 0) [] [] where
 len:=by simp
 done:=DoneL.nil r
 two i:=⟨fun h=>by
  obtain⟨a,h⟩:=List.getElem?_eq_some_iff.1 h
  simp at h,fun h=>by simp at h⟩
 one i:=⟨fun h=>by
  obtain⟨a,h⟩:=List.getElem?_eq_some_iff.1 h
  simp at h,fun h=>by simp at h⟩
 vals i v h:=by
  obtain⟨a,h⟩:=List.getElem?_eq_some_iff.1 h;simp at h;omega
 nod:=by simp
 ent j e h:=by simp at h
 lead j e e' h:=by simp at h
theorem RInv.open{r:RowD}{S:Stk}(h:RInv r st S D)(f:st[k]? = some 0)(o:∀ e,S[S.length - 1]? = some e->(k:Int)∈edges r e.1)
  : RInv r (st.set k 1) (S ++ [(k,edges r k)]) D:=by
 have g:=(List.getElem?_eq_some_iff.1 f).1
 have hn:k ∉ S.map (·.1):=fun p=>by have:=(h.one k).2 p;rw[f]at this;injection this with this;omega
 refine { len:=by simp[h.len],done:=h.done,two:=fun i=>?_,one:=fun i=>?_,vals:=fun i v hv=>?_,nod:=?_,ent:=fun j e he=>?_,lead:=fun j e e' he c=>?_ }
 ·by_cases e:k=i
  ·subst e;rw[Ay g];constructor
   ·intro e;injection e with e;omega
   ·intro hd;have:=(h.two k).2 hd;rw[f]at this;injection this with this;omega
  ·rw[AQ e];exact h.two i
 ·rw[Bj,Ah];by_cases e:k=i
  ·subst e;rw[Ay g];simp
  ·rw[AQ e,h.one i];constructor
   ·exact .inl
   ·rintro(h | h)
    ·exact h
    ·simp at h;exact absurd h.symm e
 ·by_cases e:k=i
  ·subst e;rw[Ay g]at hv;injection hv with hv;omega
  ·rw[AQ e]at hv;exact h.vals i v hv
 ·rw[Bj,Ab];refine⟨h.nod,by simp,fun a ha b m e=>?_⟩;simp at m;subst m;subst e;exact hn ha
 ·by_cases l:j<S.length
  ·rw[Ax l]at he;obtain⟨proc,h1,h2⟩:=h.ent j e he;refine⟨proc,h1,fun x q=>?_⟩;rcases h2 x q with d | ⟨e',d,s⟩
   ·exact .inl d
   ·exact .inr ⟨e',by rw[Ax (List.getElem?_eq_some_iff.1 d).1];exact d,s⟩
  ·rw[Az (by omega)]at he
   have t:j - S.length=0:=by
    have:=(List.getElem?_eq_some_iff.1 he).1;simp at this;omega
   rw[t]at he;simp at he;subst he;exact⟨[],by simp,by simp⟩
 ·by_cases l:j+1<S.length
  ·rw[Ax (by omega)]at he;rw[Ax l]at c;exact h.lead j e e' he c
  ·have n:j+1=S.length:=by
    have:=(List.getElem?_eq_some_iff.1 c).1;simp at this;omega
   rw[Ax (by omega)]at he;rw[Az (by omega),n,AV]at c;simp at c;subst c;exact o e (by rw[<-n];simpa using he)
theorem RInv.fresh{r:RowD}{S:Stk}{rest:List Int}(h:RInv r st (S ++ [(t,rest ++ [(k:Int)])]) D)(m:st[k]? = some 0)
  : RInv r (st.set k 1) (S ++ [(t,rest)] ++ [(k,edges r k)]) D:=by
 have hm:(S ++ [(t,rest)]).map (·.1)=(S ++ [(t,rest ++ [(k:Int)])]).map (·.1):=by simp
 have n:(k:Int)∈edges r t:=by
  have d:(S ++ [(t,rest ++ [(k:Int)])])[S.length]? = some (t,rest ++ [(k:Int)]):=(by simp);obtain⟨proc,h1,h2⟩:=h.ent _ _ d;rw[h1];simp
 have b:=h.open m (fun e he=>by
  have:(S ++ [(t,rest ++ [(k:Int)])]).length - 1=S.length:=(by simp);rw[this]at he;simp at he;subst he
  exact n)
 refine { len:=b.len,done:=b.done,two:=b.two,one:=fun i=>?_,vals:=b.vals,nod:=?_,ent:=fun j e he=>?_,lead:=fun j e e' he o=>?_ }
 ·rw[b.one i];simp
 ·have:=b.nod;simpa using this
 ·by_cases g:j<S.length
  ·have d:(S ++ [(t,rest ++ [(k:Int)])] ++ [(k,edges r k)])[j]? = some e:=by
    rw[AK,Ax g];rw[AK,Ax g]at he;exact he
   obtain⟨proc,h1,h2⟩:=b.ent j e d;refine⟨proc,h1,fun x c=>?_⟩;rcases h2 x c with a | ⟨e',a,f⟩
   ·exact .inl a
   ·right
    by_cases p:j+1<S.length
    ·refine⟨e',?_,f⟩;rw[AK,Ax p]at a ⊢;exact a
    ·have l:j+1=S.length:=(by omega);rw[AK,Az (by omega),l,AV]at a;simp at a;subst a;refine⟨(t,rest),?_,f⟩;rw[AK,Az (by omega),l,AV];simp
  ·by_cases s:j=S.length
   ·subst s;rw[AK,Az (Aj _),AV]at he;simp at he;subst he;have d:(S ++ [(t,rest ++ [(k:Int)])])[S.length]? = some (t,rest ++ [(k:Int)]):=(by simp);obtain⟨proc,h1,h2⟩:=h.ent _ _ d;refine⟨(k:Int) :: proc,by rw[h1];simp,fun x c=>?_⟩;rcases List.mem_cons.1 c with c | c
    ·right
     refine⟨(k,edges r k),?_,c⟩;rw[AK,Az (by omega)];simp
    ·rcases h2 x c with a | ⟨e',a,f⟩
     ·exact .inl a
     ·simp at a
   ·have u:j=S.length+1:=by
     have:=(List.getElem?_eq_some_iff.1 he).1;simp at this;omega
    subst u;rw[AK,Az (by omega)]at he;simp at he;subst he;exact⟨[],by simp,by simp⟩
 ·have m1:(S ++ [(t,rest)] ++ [(k,edges r k)]).map (·.1)=(S ++ [(t,rest ++ [(k:Int)])] ++ [(k,edges r k)]).map (·.1):=by simp
  have q:∀ (j:Nat) e,(S ++ [(t,rest)] ++ [(k,edges r k)])[j]? = some e->∃ e2,(S ++ [(t,rest ++ [(k:Int)])] ++ [(k,edges r k)])[j]? = some e2/\e2.1=e.1:=by
   intro j e he
   have h1:((S ++ [(t,rest)] ++ [(k,edges r k)]).map (·.1))[j]? = some e.1:=by rw[AW,he];rfl
   rw[m1,AW,Ad]at h1;exact h1
  obtain⟨e2,v,w⟩:=q j e he;obtain⟨y,z,A⟩:=q (j+1) e' o;have:=b.lead j e2 y v z
  rwa[w,A]at this
theorem RInv.skip{r:RowD}{S:Stk}{rest:List Int}(h:RInv r st (S ++ [(t,rest ++ [(k:Int)])]) D)(g:st[k]? = some 2)
  : RInv r st (S ++ [(t,rest)]) D:=by
 refine { len:=h.len,done:=h.done,two:=h.two,one:=fun i=>?_,vals:=h.vals,nod:=?_,ent:=fun j e he=>?_,lead:=fun j e e' he l=>?_ }
 ·rw[h.one i];simp
 ·have:=h.nod;simpa using this
 ·by_cases m:j<S.length
  ·have c:(S ++ [(t,rest ++ [(k:Int)])])[j]? = some e:=by
    rw[Ax m]at he ⊢;exact he
   obtain⟨proc,h1,h2⟩:=h.ent j e c;refine⟨proc,h1,fun x b=>?_⟩;rcases h2 x b with a | ⟨e',a,d⟩
   ·exact .inl a
   ·right
    by_cases n:j+1<S.length
    ·refine⟨e',?_,d⟩;rw[Ax n]at a ⊢;exact a
    ·have f:j+1=S.length:=(by omega);rw[Az (by omega),f,AV]at a;simp at a;subst a;refine⟨(t,rest),?_,d⟩;rw[Az (by omega),f,AV];simp
  ·have o:j=S.length:=by
    have:=(List.getElem?_eq_some_iff.1 he).1;simp at this;omega
   subst o;rw[Az (Aj _),AV]at he;simp at he;subst he;have c:(S ++ [(t,rest ++ [(k:Int)])])[S.length]? = some (t,rest ++ [(k:Int)]):=(by simp);obtain⟨proc,h1,h2⟩:=h.ent _ _ c;refine⟨(k:Int) :: proc,by rw[h1];simp,fun x b=>?_⟩;rcases List.mem_cons.1 b with b | b
   ·exact .inl ⟨k,b,(h.two k).1 g⟩
   ·rcases h2 x b with a | ⟨e',a,d⟩
    ·exact .inl a
    ·simp at a
 ·have m1:(S ++ [(t,rest)]).map (·.1)=(S ++ [(t,rest ++ [(k:Int)])]).map (·.1):=by simp
  have q:∀ (j:Nat) e,(S ++ [(t,rest)])[j]? = some e->∃ e2,(S ++ [(t,rest ++ [(k:Int)])])[j]? = some e2/\e2.1=e.1:=by
   intro j e he
   have h1:((S ++ [(t,rest)]).map (·.1))[j]? = some e.1:=by rw[AW,he];rfl
   rw[m1,AW,Ad]at h1;exact h1
  obtain⟨e2,p,s⟩:=q j e he;obtain⟨u,v,w⟩:=q (j+1) e' l;have:=h.lead j e2 u p v
  rwa[s,w]at this
theorem RInv.pop{r:RowD}{S:Stk}(h:RInv r st (S ++ [(t,[])]) D):RInv r (st.set t 2) S (D ++ [t]):=by
 have n:st[t]? = some 1:=(h.one t).2 (by simp);have c:=(List.getElem?_eq_some_iff.1 n).1;have d:=h.nod;rw[Bj,Ab]at d
 have o:t ∉ S.map (·.1):=fun f=>d.2.2 t f t (by simp) rfl
 have hdone:DoneL r (D ++ [t]):=by
  refine h.done.push fun k l=>?_;have g:(S ++ [(t,([]:List Int))])[S.length]? = some (t,[]):=(by simp);obtain⟨proc,h1,h2⟩:=h.ent _ _ g;simp only[Bx]at h1;rw[h1]at l;rcases h2 _ l with⟨k',e,hd⟩ | ⟨e',a,_⟩
  ·have:k=k':=(by omega);rw[this];exact hd
  ·simp at a
 refine { len:=by simp[h.len],done:=hdone,two:=fun i=>?_,one:=fun i=>?_,vals:=fun i v hv=>?_,nod:=d.1,ent:=fun j e he=>?_,lead:=fun j e e' he m=>?_ }
 ·rw[Ah];by_cases e:t=i
  ·subst e;rw[Ay c];simp
  ·rw[AQ e,h.two i];constructor
   ·exact .inl
   ·rintro(h | h)
    ·exact h
    ·simp at h;exact absurd h.symm e
 ·by_cases e:t=i
  ·subst e;rw[Ay c];constructor
   ·intro e;injection e with e;omega
   ·intro f;exact absurd f o
  ·rw[AQ e,h.one i,Bj,Ah];constructor
   ·rintro(h | h)
    ·exact h
    ·simp at h;exact absurd h.symm e
   ·exact .inl
 ·by_cases e:t=i
  ·subst e;rw[Ay c]at hv;injection hv with hv;omega
  ·rw[AQ e]at hv;exact h.vals i v hv
 ·have p:j<S.length:=(List.getElem?_eq_some_iff.1 he).1;have g:(S ++ [(t,([]:List Int))])[j]? = some e:=(by rw[Ax p];exact he);obtain⟨proc,h1,h2⟩:=h.ent j e g;refine⟨proc,h1,fun x q=>?_⟩;rcases h2 x q with⟨k,a,b⟩ | ⟨e',a,b⟩
  ·exact .inl ⟨k,a,by simp[b]⟩
  ·by_cases s:j+1<S.length
   ·rw[Ax s]at a;exact .inr ⟨e',a,b⟩
   ·have u:j+1=S.length:=(by omega);rw[Az (by omega),u,AV]at a;simp at a;subst a;exact .inl ⟨t,b,by simp⟩
 ·refine h.lead j e e' ?_ ?_
  ·rw[Ax (List.getElem?_eq_some_iff.1 he).1];exact he
  ·rw[Ax (List.getElem?_eq_some_iff.1 m).1];exact m
theorem RInv.cYm{r:RowD}{S:Stk}{rest:List Int}(h:RInv r st (S ++ [(t,rest ++ [(k:Int)])]) D)(g:st[k]? = some 1):¬Ranked r:=by
 have l:=(h.one k).1 g;obtain⟨p,hp⟩:=List.mem_iff_getElem?.1 l;rw[AW,Ad]at hp;obtain⟨a,b,c⟩:=hp;refine bZd (S:=fun i=>∃ j e,p<=j/\(S ++ [(t,rest ++ [(k:Int)])])[j]? = some e/\e.1=i) ⟨k,p,a,Aj _,b,c⟩ ?_;rintro i ⟨j,e,hj,he,rfl⟩;by_cases d:j+1<(S ++ [(t,rest ++ [(k:Int)])]).length
 ·have f:=Ak d;exact⟨_,h.lead j e _ he f,j+1,_,by omega,f,rfl⟩
 ·have m:j=S.length:=by
   have:=(List.getElem?_eq_some_iff.1 he).1;simp at this d;omega
  subst m;obtain⟨proc,h1,h2⟩:=h.ent _ _ he;simp at he;subst he;exact⟨k,by rw[h1];simp,p,a,Aj _,b,c⟩
theorem mV(w:Bk)(b o:Nat)(u:Bv):w.grownBy (w.setCell ⟨b,o,none⟩ u) (some b):=
 ⟨rfl,rfl,rfl,by simp,fun k _ a=>heap_setCell_other w ⟨b,o,none⟩ k u (fun e=>a (by simp[e]))⟩
theorem aWf{w':Bk}(h:Bw w.heap.size w w'):w.grownBy w' none:=⟨h.os,h.tape,h.output,h.size,fun k a _=>h.block k a⟩
theorem dY{g:Nat}{e:TypeId}{cs:Array Bv}(h:Blk w g e cs)(o:Nat)(u:Bv):Blk (w.setCell ⟨g,o,none⟩ u) g e (cs.setIfInBounds o u):=heap_setCell_same w g o cs e u h
theorem aVd:(cZ.info? 23).map (fun i=>(i.zero,i.size,i.bytes))=some (some (.slice none 0 0),1,24):=by kernel_rfl
def EB(w:Bk)(gS:Nat)(v:Bv)(l:List Int):Prop:=∃ g c cur,v = .slice (some ⟨g,0,none⟩) l.length c/\Blk w g 3 cur/\g≠gS/\l.length<=c/\cur.toList.take l.length=i64s l
theorem EB.of(h:w.ownsRow base 3 1 v l.length (i64s l))(hg:gS<base)(hl:0<l.length):EB w gS v l:=by
 rcases h.2 with⟨h1,h2⟩ | ⟨g,cap,cur,h1,h2,a,b,_,_,c⟩
 ·omega
 ·exact⟨g,cap,cur,h1,a,by omega,b,by simpa using c⟩
theorem EB.grown{w w':Bk}{gS:Nat}{v:Bv}{l:List Int}{r:Option Nat}(h:EB w gS v l)(hg:w.grownBy w' r)(d:∀ g cs,Blk w g 3 cs->g≠gS->r≠some g):EB w' gS v l:=by
 obtain⟨g,c,cur,e,a,b,f⟩:=h;exact⟨g,c,cur,e,a.grown hg (d g cur a b),b,f⟩
structure RM (w:Bk) (base bR bS bK gS:Nat) (rv:Array Bv) (st:List Int) (stk:Stk) (v:Bv) (vs:List Bv):Prop where
 r:Blk w bR 45 rv
 s:Blk w bS 23 #[.slice (some ⟨gS,0,none⟩) st.length st.length]
 t:Blk w gS 3 (i64s st).toArray
 k:Blk w bK 125 #[v]
 own:w.ownsRow base 23 1 v stk.length vs
 ent:∀ (j:Nat) u e,vs[j]? = some u->stk[j]? = some e->EB w gS u (ints' e)
 lR:base<=bR
 lS:base<=bS
 lT:base<=gS
 lK:base<=bK
 o1:v.ownBlock≠some bS
theorem jK{a b:Nat}{s t:TypeId}{c d:Array Bv}(h:Blk w a s c)(k:Blk w b t d)(f:s≠t):a≠b:=by
 intro e;subst e;have:=h.symm.trans k;injection this with this;injection this with _ h2;exact f h2
theorem fV{n b size:Nat}{s t:TypeId}{a:List Bv}{d:Array Bv}(h:w.ownsRow base s size v n a)(k:Blk w b t d)(c:s≠t):v.ownBlock≠some b:=by
 rcases h.2 with⟨h1,_⟩ | ⟨g,cap,cur,h1,h2,f,_⟩
 ·subst h1;simp[Value.ownBlock]
 ·subst h1;intro e;injection e with e;subst e;exact jK (show Blk w g s cur from f) k c rfl
theorem RM.cWy{rv:Array Bv}{stk:Stk}{vs:List Bv}(h:RM w base bR bS bK gS rv st stk v vs):base<=w.heap.size:=Nat.le_of_lt (Nat.lt_of_le_of_lt h.lR h.r.lt)
theorem RM.grown{w w':Bk}{base bR bS bK gS:Nat}{rv:Array Bv}{st:List Int}{stk:Stk}{v:Bv}{vs:List Bv}(h:RM w base bR bS bK gS rv st stk v vs)(a:Bw w.heap.size w w'):RM w' base bR bS bK gS rv st stk v vs:=
  { h with r:=h.r.below a h.r.lt,s:=h.s.below a h.s.lt,t:=h.t.below a h.t.lt,k:=h.k.below a h.k.lt,own:=cK h.own a (Aj _),
           ent:=fun j u e h1 h2=>(h.ent j u e h1 h2).grown (aWf a) (fun _ _ _ _=>by simp) }
theorem RM.put{rv:Array Bv}{stk:Stk}{vs:List Bv}(h:RM w base bR bS bK gS rv st stk v vs)(i:Nat)(x:Int):RM (w.setCell ⟨gS,i,none⟩ (.int .i64 x)) base bR bS bK gS rv (st.set i x) stk v vs:=by
 have hn:=fV h.own h.t (by decide);refine { h with r:=h.r.grown (mV w gS i _) ?_,s:=?_,t:=?_,k:=h.k.grown (mV w gS i _) ?_,own:=iV h.own hn,ent:=fun j u e h1 h2=>(h.ent j u e h1 h2).grown (mV w gS i _) (fun g cs _ hg e=>hg (by injection e with e;exact e.symm)) }
 ·intro e;injection e with e;exact jK h.t h.r (by decide) e
 ·rw[List.length_set];exact h.s.grown (mV w gS i _) (fun e=>by injection e with e;exact jK h.t h.s (by decide) e)
 ·have:=dY h.t i (.int .i64 x)
  have a:(i64s st).toArray.setIfInBounds i (.int .i64 x)=(i64s (st.set i x)).toArray:=by
   simp[i64s,List.map_set]
  rwa[a]at this
 ·intro e;injection e with e;exact jK h.t h.k (by decide) e
theorem RM.push{w':Bk}{rv:Array Bv}{stk:Stk}{v' u:Bv}{vs:List Bv}{e:Nat×List Int}(h:RM w base bR bS bK gS rv st stk v vs)(n:EB w gS u (ints' e))
  (hg:w.grownBy w' v.ownBlock) (i:w'.ownsRow base 23 1 v' (stk.length+1) (vs ++ [u])) (hv:v'.ownBlock=v.ownBlock\/v'.ownBlock=some w.heap.size) :
  RM (w'.setCell ⟨bK,0,none⟩ v') base bR bS bK gS rv st (stk ++ [e]) v' (vs ++ [u]):=by
 have hn:∀ b t c,Blk w b t c->t≠23->v.ownBlock≠some b:=fun b t c d f=>fV h.own d (fun e=>f e.symm);have l:=h.r.grown hg (hn _ _ _ h.r (by decide));have hs:=h.s.grown hg h.o1;have f:=h.t.grown hg (hn _ _ _ h.t (by decide));have a:=h.k.grown hg (hn _ _ _ h.k (by decide));have hlen:vs.length=stk.length:=(by have:=h.own.1;simpa using this);have gk:=mV w' bK 0 v';refine { r:=l.grown gk ?_,s:=hs.grown gk ?_,t:=f.grown gk ?_,k:=?_,own:=?_,ent:=fun j x y h1 h2=>?_,lR:=h.lR,lS:=h.lS,lT:=h.lT,lK:=h.lK,o1:=?_ }
 ·intro e;injection e with e;exact jK a l (by decide) e
 ·intro e;injection e with e;exact jK a hs (by decide) e
 ·intro e;injection e with e;exact jK a f (by decide) e
 ·have:=dY a 0 v'
  simpa using this
 ·have:v'.ownBlock≠some bK:=fV i a (by decide);have h2:=iV (k:=0) (u:=v') i this
  simpa using h2
 ·have key:∀ x y,EB w gS x y->EB (w'.setCell ⟨bK,0,none⟩ v') gS x y:=by
   intro x y o;refine(o.grown hg (fun g cs d _=>hn _ _ _ d (by decide))).grown gk (fun g cs d _ e=>?_);injection e with e;exact jK a d (by decide) e
  by_cases p:j<stk.length
  ·rw[Ax (by omega)]at h1;rw[Ax p]at h2;exact key _ _ (h.ent j x y h1 h2)
  ·rw[Az (by omega)]at h1 h2
   have m:j - stk.length=0:=by
    have:=(List.getElem?_eq_some_iff.1 h2).1;simp at this;omega
   rw[hlen,m]at h1;rw[m]at h2;simp at h1 h2;subst h1;subst h2;exact key _ _ n
 ·rcases hv with e | e
  ·rw[e];exact h.o1
  ·rw[e];intro e';injection e' with e';have:=h.s.lt;omega
def cJd(r:RowD)(base bR bS bK gS:Nat)(rv:Array Bv)(st:List Int)(stk:Stk)(i:Nat)(w:Bk)(en:Ending)(w':Bk):Prop:=
 (st[i]? = some 0/\∃ v' vs',en = .returned (.bool false)/\RM w' base bR bS bK gS rv (st.set i 1) (stk ++ [(i,edges r i)]) v' vs'/\Bw base w w') \/
 (∃ x,st[i]? = some x/\x≠0/\en = .returned (.bool (x == 1))/\w=w')
theorem aKo(h:Blk w gS 3 (i64s st).toArray)(a:st[i]? = some x):w.cell? ⟨gS,i,none⟩=some (.int .i64 x):=by
 rw[h.cell];simp[i64s,a]
theorem aXb(r:RowD)(base bR bS bK gS:Nat)(rv:Array Bv)(st:List Int)(stk:Stk)(v:Bv)(vs:List Bv)(i:Nat)(c:CodeD)(w0 w:Bk)(h:RM w base bR bS bK gS rv st stk v vs)
  (hr:RowV w0 (.agg rv) r) (ax:w0.heap.size<=base) (J:Bw base w0 w) (hi:r.code[i]? = some c) (hl:st.length=r.code.length) (al:c.op=274->0<c.to.length) (l:(nextOf c i).length<=66) (ay:stk.length<=4096) (aO:r.code.length<=4096) :
  Calls cZ 68 #[.int .i64 (i:Int),.pointer (some ⟨bS,0,none⟩),.pointer (some ⟨bR,0,none⟩),.pointer (some ⟨bK,0,none⟩)] w (cJd r base bR bS bK gS rv st stk i w):=by
 have aP:i<r.code.length:=(List.getElem?_eq_some_iff.1 hi).1;obtain⟨x,K⟩:∃ x,st[i]? = some x:=⟨_,Ak (by omega)⟩;have cS:=h.s.cell 0;simp at cS;have cT:=aKo h.t K;have L:=cQ K;have a:=cQ h;obtain⟨n,hn⟩:=cX st.length;rw[hn]at cS;have aQ:i<n:=(by omega);have az:(i:Int)<(n:Int):=(by omega);have HN:=cQ hn;have HL:=cQ hl;clear h K hn hl;by_cases E:x=0
 ·subst E;have HR:=cQ hr;obtain⟨vp,vq,vr,aR,M,h4,h5,h6,O⟩:=hr;injection M with M;subst M;obtain⟨Ap,cp,rfl⟩:=h4.shape;obtain⟨Aq,cq,rfl⟩:=h5.shape;obtain⟨Ar,cr,rfl⟩:=h6.shape;obtain⟨Ac,cc,rfl,_⟩:=O.len;obtain⟨B,go,p,q,t,rfl,aS,c0,_⟩:=O.code hi;have c0:=(J.cell (p:=⟨B,go+i*5,none⟩) (by show B<base;omega)).trans c0;obtain⟨r0,r1,r2,r3,r4⟩:=dZ a.out.r;have aA:(i:Int)<(r.code.length:Int):=(by omega);have n1:bR≠gS:=fun e=>jK a.out.t a.out.r (by decide) e.symm;have n2:gS≠bR:=fun e=>n1 e.symm;have n3:bS≠gS:=fun e=>jK a.out.t a.out.s (by decide) e.symm;have n4:gS≠bS:=fun e=>n3 e.symm;have n5:B≠gS:=(by have:=a.out.lT;omega);have n6:gS≠B:=fun e=>n5 e.symm;have s1:=a.out.r.lt;have s2:=a.out.s.lt;have s3:=a.out.t.lt;have s4:=a.out.k.lt;have s5:B<w.heap.size:=(by have:=a.out.cWy;omega);have z0:=frz a.out.t i;have n7:bK≠gS:=fun e=>jK a.out.t a.out.k (by decide) e.symm;have n8:gS≠bK:=fun e=>n7 e.symm;have P:=cQ (a.out.put i 1);obtain⟨Av,cv,rfl,_⟩:=cJ a.out.own;have Q:=a.out.k.cell 0;simp at Q;obtain⟨m,F⟩:=cX stk.length;rw[F]at Q;have aT:m<=4096:=(by omega);have b:=cQ F;have R:=fV a.out.own a.out.k (show(23:Nat)≠125 by decide);rw[F]at R;have NK:=cQ R;clear F ay R;have aB:=cQ J;have aC:=cQ al;have aD:=cQ l;have S:=cQ hi;clear h4 h5 h6 O J al l hi;by_cases y:c.op=258
  ·have aE:(c.op != 258)=false:=(by simp[y]);have T:=cQ (bZc S.out y);clear y;go_in;have P2:=cQ (P.out.grown ((AZ _ _).alloc (Aj _) (.cells #[.int .i64 (i:Int)] 3)));have d:=cQ (P2.out.grown ((AZ _ _).alloc (Aj _) (.cells #[.slice (some ⟨w.heap.size,0,none⟩) 1 1] 23)));have B3:=cQ (show Bw base w _ from(((AZ base w).setCell (p:=⟨gS,i,none⟩) a.out.lT (.int .i64 1)).alloc (by simp;exact a.out.cWy) (.cells #[.int .i64 (i:Int)] 3)).alloc (by simp;have:=a.out.cWy;omega) (.cells #[.slice (some ⟨w.heap.size,0,none⟩) 1 1] 23))
   have U:=cQ (show EB (((w.setCell ⟨gS,i,none⟩ (.int .i64 1)).alloc (.cells #[.int .i64 (i:Int)] 3)).alloc (.cells #[.slice (some ⟨w.heap.size,0,none⟩) 1 1] 23)) gS (.slice (some ⟨w.heap.size,0,none⟩) 1 1) (ints' (i,edges r i)) by
    rw[T.out]
    exact⟨w.heap.size,1,#[.int .i64 (i:Int)],rfl,(Blk.newAt (w.setCell ⟨gS,i,none⟩ (.int .i64 1)) _ _ (by simp)).alloc _,by omega,by simp[ints'],rfl⟩)
   go_wp2_with (at_builtin;refine xW _ rfl (.tmp 29) (.tmp 31) 125 rfl base 23 (.slice none 0 0) 1 24 underlying125 aVd rfl (by omega) (.slice Av m cv) m vs rfl (by rw[<-b.out];exact d.out.own) (some ⟨w.heap.size+1,0,none⟩) 1 1 [.slice (some ⟨w.heap.size,0,none⟩) 1 1] rfl (Blk.cWx (cs:=#[.slice (some ⟨w.heap.size,0,none⟩) 1 1]) (Blk.newAt _ _ _ (by simp)) rfl) (by intro u f;obtain rfl:=List.mem_singleton.1 f;rfl) (by unfold maxLen;omega) (by omega) (by have:=d.out.cWy;exact this) ?_);rintro v1 w1 h1 h2 C _;obtain⟨V,c1,W,_⟩:=cJ h1;subst W;have g:=d.out.k.grown h2 NK.out;have X:=g.cell 0;simp at X;have kz:=frz g 0;have kl:=g.lt;have f:=U;have hp:=d.out.push (e:=(i,edges r i)) f.out (by rw[b.out]at *;exact h2) (by rw[b.out];exact h1) (by rw[b.out];simpa using C);have Y:=cQ hp;have D:=tV B3.out h2 (by have:=d.out.cWy;exact this) (fun k Z=>(d.out.own.lt k (by rw[b.out];exact Z)).1);have ak:=cQ (D.setCell (p:=⟨bK,0,none⟩) d.out.lK (.slice V (m+1) c1));clear h1 h2 C g hp D f;go_wp2;go_ret;exact .inl ⟨L.out,_,_,rfl,Y.out,ak.out⟩
  ·have aE:(c.op != 258)=true:=(by simp[y]);have T:=cQ (aWv S.out y);clear y;go_in;have P2:=cQ (P.out.grown ((AZ _ _).alloc (Aj _) (.cells #[.int .i64 (i:Int)] 3)));have B2:=cQ (show Bw base w _ from((AZ base w).setCell (p:=⟨gS,i,none⟩) a.out.lT (.int .i64 1)).alloc (by simp;exact a.out.cWy) (.cells #[.int .i64 (i:Int)] 3));have L2:=cQ (Blk.newAt (w.setCell ⟨gS,i,none⟩ (.int .i64 1)) (N:=w.heap.size) 3 #[.int .i64 (i:Int)] (by simp));have aF:=cQ (HR.out.below (aB.out.trans B2.out) ax);have D0:=cQ (show Bw w.heap.size (w.setCell ⟨gS,i,none⟩ (.int .i64 1)) ((w.setCell ⟨gS,i,none⟩ (.int .i64 1)).alloc (.cells #[.int .i64 (i:Int)] 3))from(AZ _ _).alloc (by simp) _);go_wp2_with fail;refine(bKe r _ i c _ aF.out S.out aC.out).mono ?_;rintro en w2 ⟨vn,rfl,an,G⟩;obtain⟨An,cn,rfl⟩:=an.shape;obtain⟨A',c',e',ao⟩:=an;injection e' with e1 e2 e3;subst e1;subst e3;have aq:=cQ ao;have L3:=cQ (L2.out.below G L2.out.lt);have D2:=cQ (D0.out.trans (G.mono (by simp)));have aG:w.heap.size<=w2.heap.size:=(by have:=G.size;simp at this;omega);have aH:=aD.out;obtain⟨j,l⟩:=cX ((nextOf c i).length);rw[l]at aH;rw[l]at aq ⊢;have aI:=cQ l;clear G ao l;go_wp2_with (at_builtin;refine rZ _ rfl (.tmp 24) (.tmp 27) 23 rfl w.heap.size 3 (.int .i64 0) 8 underlying23 aZv rfl (.slice (some ⟨w.heap.size,0,none⟩) 1 1) 1 [.int .i64 (i:Int)] rfl (Blk.own (n:=1) (cs:=#[.int .i64 (i:Int)]) L3.out (Aj _) rfl (by unfold maxLen;omega)) An j cn (i64s (nextOf c i)) rfl aq.out (bWz _) (by unfold maxLen;omega) (by omega) aG ?_);rintro v3 H I ar;obtain⟨z,A,aJ,_⟩:=cJ I;subst aJ;have D3:=cQ (D2.out.trans ar);have d:=cQ (P.out.grown (by simpa using D3.out));have au:Bw base w H:=((AZ base w).setCell (p:=⟨gS,i,none⟩) a.out.lT (.int .i64 1)).trans (D3.out.mono a.out.cWy)
   have PE:=cQ (show EB H gS (.slice z (1+j) A) (ints' (i,edges r i)) by
    rw[T.out];have e:(1+j)=(ints' (i,nextOf c i)).length:=(by simp[ints',aI.out];omega);rw[e];rw[e]at I
    exact EB.of I a.out.t.lt (by simp[ints']))
   have aK:=D3.out.size;simp at aK;have aL:=d.out.cWy;have aw:=d.out.k.cell 0;simp at aw;rw[b.out]at aw;have aM:=cQ au;have o:=cQ (d.out.grown ((AZ _ _).alloc (Aj _) (.cells #[.slice z (1+j) A] 23)));have B4:=cQ (aM.out.alloc aL (.cells #[.slice z (1+j) A] 23));have U:=cQ (PE.out.grown (World.grownBy_alloc H (.cells #[.slice z (1+j) A] 23) none) (fun _ _ _ _=>by simp));clear I ar au Q;go_wp2_with (at_builtin;refine xW _ rfl (.tmp 29) (.tmp 31) 125 rfl base 23 (.slice none 0 0) 1 24 underlying125 aVd rfl (by omega) (.slice Av m cv) m vs rfl (by rw[<-b.out];exact o.out.own) (some ⟨H.heap.size,0,none⟩) 1 1 [.slice z (1+j) A] rfl (Blk.cWx (cs:=#[.slice z (1+j) A]) (Blk.newAt _ _ _ (by simp)) rfl) (by intro u f;obtain rfl:=List.mem_singleton.1 f;rfl) (by unfold maxLen;omega) (by omega) (by have:=o.out.cWy;exact this) ?_);rintro v1 w1 h1 h2 C _;obtain⟨V,c1,W,_⟩:=cJ h1;subst W;have g:=o.out.k.grown h2 NK.out;have X:=g.cell 0;simp at X;have kz:=frz g 0;have kl:=g.lt;have f:=U;have hp:=o.out.push (e:=(i,edges r i)) f.out (by rw[b.out]at *;exact h2) (by rw[b.out];exact h1) (by rw[b.out];simpa using C);have Y:=cQ hp;have D:=tV B4.out h2 (by have:=o.out.cWy;exact this) (fun k Z=>(o.out.own.lt k (by rw[b.out];exact Z)).1);have ak:=cQ (D.setCell (p:=⟨bK,0,none⟩) o.out.lK (.slice V (m+1) c1));clear h1 h2 C g hp D f;go_wp2;go_ret;exact .inl ⟨L.out,_,_,rfl,Y.out,ak.out⟩
 ·have aU:(x == 0)=false:=(by simpa using E);have aN:=cQ E;clear E;go_in;go_wp2;go_ret;exact .inr ⟨x,L.out,aN.out,rfl,rfl⟩
theorem RM.top{rv:Array Bv}{S:Stk}{e:Nat×List Int}{vs:List Bv}(h:RM w base bR bS bK gS rv st (S ++ [e]) v vs):
  ∃ gk d g c,v = .slice (some ⟨gk,0,none⟩) (S.length+1) d/\S.length+1<=d/\gk<w.heap.size/\base<=gk/\gk≠bS/\gk≠bR/\gk≠gS/\gk≠bK/\g≠gk/\w.cell? ⟨gk,S.length,none⟩=some (.slice (some ⟨g,0,none⟩) (e.2.length+1) c)/\w.frozen? ⟨gk,S.length,none⟩=false/\e.2.length+1<=c /\
   Src w (some ⟨g,0,none⟩) (e.2.length+1) (i64s (ints' e))/\vs.length=S.length+1/\g<w.heap.size/\g≠gS/\g≠bS/\g≠bK/\g≠bR:=by
 have a:=h.own;have n:(S ++ [e]).length=S.length+1:=(by simp);rw[n]at a;obtain⟨gk,d,rfl,o,p,hc⟩:=lV a (by omega);have hlen:vs.length=S.length+1:=(by have:=a.1;simpa using this);have hcell:=a.cellAt S.length (by omega);have i:vs[S.length]? = some (vs[S.length]'(by omega)):=Ak (by omega);obtain⟨g,c,cur,j,b,q,l,m⟩:=h.ent S.length _ e i (by simp)
 have f:∃ c',Src w (some ⟨g,0,none⟩) (ints' e).length (i64s (ints' e)):=⟨c,by
  have u:(ints' e).length<=cur.size:=by
   have:=congrArg List.length m;rw[Ae,bWy]at this;simp at this;omega
  have:=b.src (ints' e).length u
  rwa[m]at this⟩
 obtain⟨_,f⟩:=f;have x:(ints' e).length=e.2.length+1:=(by simp[ints']);rw[x]at j l f;have q1:=fV a h.r (by decide);have y:=fV a h.t (by decide);have z:=fV a h.k (by decide);have A:=h.o1;have B:=fV a b (by decide);rw[i,j]at hcell;exact⟨gk,d,g,c,rfl,hc,o,p,fun e=>A (by rw[e];rfl),fun e=>q1 (by rw[e];rfl),fun e=>y (by rw[e];rfl),fun e=>z (by rw[e];rfl),fun e=>B (by rw[<-e];rfl),hcell,a.frozenAt _,l,f,hlen,b.lt,q,jK b h.s (by decide),jK b h.k (by decide),jK b h.r (by decide)⟩
theorem RM.drew{w:Bk}{base bR bS bK gS:Nat}{rv:Array Bv}{st:List Int}{stk:Stk}{v:Bv}{vs:List Bv}(h:RM w base bR bS bK gS rv st stk v vs):RM w.drew base bR bS bK gS rv st stk v vs:=
 { r:=h.r,s:=h.s,t:=h.t,k:=h.k,own:=h.own,ent:=fun j u e h1 h2=>h.ent j u e h1 h2,lR:=h.lR,lS:=h.lS,lT:=h.lT,lK:=h.lK,o1:=h.o1 }
theorem RM.pop{gk a:Nat}{rv:Array Bv}{S:Stk}{e:Nat×List Int}{vs:List Bv}(h:RM w base bR bS bK gS rv st (S ++ [e]) (.slice (some ⟨gk,0,none⟩) (S.length+1) a) vs):
  RM (w.setCell ⟨bK,0,none⟩ (.slice (some ⟨gk,0,none⟩) S.length a)) base bR bS bK gS rv st S (.slice (some ⟨gk,0,none⟩) S.length a) (vs.take S.length):=by
 have b:=mV w bK 0 (.slice (some ⟨gk,0,none⟩) S.length a);have i:(S ++ [e]).length=S.length+1:=(by simp);have c:=h.own;rw[i]at c;have hq:(Value.slice (some ⟨gk,0,none⟩) S.length a).ownBlock≠some bK:=(by have:=fV c h.k (by decide);exact this);have d:=bYa (k:=S.length) c (by omega) (by simp);rw[Nat.mul_one]at d;refine { h with r:=h.r.grown b ?_,s:=h.s.grown b ?_,t:=h.t.grown b ?_,k:=?_,own:=iV d hq,ent:=fun j x y h1 h2=>?_,o1:=h.o1 }
 ·intro e;injection e with e;exact jK h.k h.r (by decide) e
 ·intro e;injection e with e;exact jK h.k h.s (by decide) e
 ·intro e;injection e with e;exact jK h.k h.t (by decide) e
 ·have:=dY h.k 0 (.slice (some ⟨gk,0,none⟩) S.length a)
  simpa using this
 ·have f:j<S.length:=(List.getElem?_eq_some_iff.1 h2).1;rw[List.getElem?_take,if_pos f]at h1;refine(h.ent j x y h1 (by rw[Ax f];exact h2)).grown b (fun g cs l _ e=>?_);injection e with e;exact jK h.k l (by decide) e
theorem RM.shrink{gk m g c:Nat}{rest:List Int}{rv:Array Bv}{S:Stk}{vs:List Bv}(h:RM w base bR bS bK gS rv st (S ++ [(t,rest ++ [x])]) (.slice (some ⟨gk,0,none⟩) (S.length+1) m) vs)
  (hcell:w.cell? ⟨gk,S.length,none⟩=some (.slice (some ⟨g,0,none⟩) ((rest ++ [x]).length+1) c)) :
  RM (w.setCell ⟨gk,S.length,none⟩ (.slice (some ⟨g,0,none⟩) (rest.length+1) c)) base bR bS bK gS rv st (S ++ [(t,rest)]) (.slice (some ⟨gk,0,none⟩) (S.length+1) m) (vs.set S.length (.slice (some ⟨g,0,none⟩) (rest.length+1) c)):=by
 have n:∀ e:Nat×List Int,(S ++ [e]).length=S.length+1:=fun e=>by simp
 have a:=h.own;rw[n]at a;obtain⟨v,b⟩:=a.stored S.length (.slice (some ⟨g,0,none⟩) (rest.length+1) c);have hlen:vs.length=S.length+1:=(by have:=a.1;simpa using this);have n1:=fV a h.r (by decide);have n2:=fV a h.t (by decide);have z:=fV a h.k (by decide);refine { h with r:=h.r.grown b n1,s:=h.s.grown b h.o1,t:=h.t.grown b n2,k:=h.k.grown b z,own:=by rw[n];exact v,ent:=fun j y e h1 h2=>?_ };have o:∀ u l,EB w gS u l->EB (w.setCell ⟨gk,S.length,none⟩ (.slice (some ⟨g,0,none⟩) (rest.length+1) c)) gS u l:=fun u l f=>f.grown b (fun A cs B _=>fV a B (by decide));by_cases p:j<S.length
 ·rw[AQ (by omega)]at h1;rw[Ax p]at h2;exact o _ _ (h.ent j y e h1 (by rw[Ax p];exact h2))
 ·have C:j=S.length:=by
   have:=(List.getElem?_eq_some_iff.1 h2).1;simp at this;omega
  subst C;rw[Ay (by omega)]at h1;simp at h1 h2;subst h1;subst h2;have f:vs[S.length]? = some (vs[S.length]'(by omega)):=Ak (by omega);have q:=h.ent S.length _ (t,rest ++ [x]) f (by simp);have i:=a.cellAt S.length (by omega);rw[hcell,f]at i;injection i with i;rw[<-i]at q;obtain⟨A,c',cur,D,e2,E,F,G⟩:=q;injection D with d a2 H;injection d with d;injection d with d;subst d;subst H;refine o _ _ ⟨g,c,cur,by simp[ints'],e2,E,by simp[ints']at F ⊢;omega,?_⟩;have:=congrArg (List.take (rest.length+1)) G;rw[List.take_take,aVc]at this;have q1:min (rest.length+1) (ints' (t,rest ++ [x])).length=(ints' (t,rest)).length:=(by simp[ints']);have I:(ints' (t,rest ++ [x])).take (rest.length+1)=ints' (t,rest):=(by simp[ints']);rw[q1,I]at this;exact this
def muS(st:List Int)(stk:Stk):Nat:=70*st.count 0+(stk.map fun e=>e.2.length+1).sum
theorem bJu{y:Int}(h:st[k]? = some x)(a:x≠0)(b:y≠0):(st.set k y).count 0=st.count 0:=by
 obtain⟨c,e⟩:=List.getElem?_eq_some_iff.1 h;rw[Bz c,e];simp[a,b]
theorem bQd{y:Int}(h:st[k]? = some 0)(a:y≠0):(st.set k y).count 0+1=st.count 0:=by
 obtain⟨b,e⟩:=List.getElem?_eq_some_iff.1 h;have hp:0<st.count 0:=List.count_pos_iff.2 (Bq h);rw[Bz b,e];simp[a];omega
theorem bJv{S:Stk}(h:st[t]? = some 1):muS (st.set t 2) S<muS st (S ++ [(t,[])]):=by
 unfold muS;rw[bJu h (by decide) (by decide)];simp
theorem bXj{S:Stk}{rest:List Int}:muS st (S ++ [(t,rest)])<muS st (S ++ [(t,rest ++ [x])]):=by
 unfold muS;simp
theorem aWx{S:Stk}{rest:List Int}(h:st[k]? = some 0)(hl:l.length<=66):muS (st.set k 1) (S ++ [(t,rest)] ++ [(k,l)])<muS st (S ++ [(t,rest ++ [x])]):=by
 unfold muS;have:=bQd (y:=1) h (by decide);simp;omega
end Go.Proofs.YtabibkpfgmolkaaDoor

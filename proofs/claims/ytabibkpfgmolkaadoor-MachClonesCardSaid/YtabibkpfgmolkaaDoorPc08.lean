/- Lemmas for the claim, part 8. Conditions: none. -/
import Derived.Test.YtabibkpfgmolkaaDoorPc07
import Derived.Deep.AppendLies
import Derived.Deep.RegionLaw
set_option maxRecDepth 100000
set_option maxHeartbeats 16000000
set_option linter.unusedVariables false
set_option linter.unusedSimpArgs false
open Go.Lib renaming hid→cQ
open Go.Proofs.Tryd renaming prog→cZ
open Go.Proofs.Tryd
open Go.RowKit
open Nat renaming le_refl→Aj,lt_of_lt_of_le→Ax,add_sub_cancel_left→AY,min_eq_left→Ah,sub_self→Ai,le_trans→Bj
open List renaming getElem?_eq_getElem→Aq,replicate→Aw,mem_of_getElem?→AZ,getElem?_append_right→AK,drop_eq_getElem_cons→AV,length_set→Aa,set_append_right→Ab,append_assoc→Ae,length_take→Af,take_length→Ag
open Go.RowKit.Below renaming heap_setCell→Az,refl→AJ
open Go.Value renaming slice→Ak
open Array renaming replicate→Av,setIfInBounds_comm→AW
open Int renaming toNat_natCast→Ay,eq_ofNat_of_zero_le→AQ
open Go.World renaming setCell→AX,ownsRow→Ac,ownsRow_nil→Ad
open Go renaming World→Bq,Value→Bx
namespace Go.Proofs.YtabibkpfgmolkaaDoor
variable {w w':Bq}{v v':Bx}{g c n k i fuel base:Nat}{l:List Nat}{ks:List Int}{e:TypeId}
theorem cQk{size cap:Nat}{b:List Bx}(h:w.ownsRow base e size (.slice (some ⟨g,0,none⟩) n cap) n b){m:Nat}(c:m<=n):w.ownsRow base e size (.slice (some ⟨g,0,none⟩) m cap) m (b.take (m*size)):=by
 have d:m*size<=n*size:=Nat.mul_le_mul_right size c;rcases h.2 with⟨h1,_⟩ | ⟨g',ae,cur,h1,f,hg,ah,i,j,k⟩
 ·cases h1
 ·injection h1 with a e2 l;injection a with a;injection a with a;subst a;subst l;refine⟨?_,.inr ⟨g,cap,cur,rfl,f,hg,by omega,i,j,?_⟩⟩
  ·rw[Af,h.1];omega
  ·rw[<-k,List.take_take,Ah d]
theorem PlsV.cons{lab:Nat->Nat}{f:FrD}{l:List FrD}:∀ {ps:List Bx},PlsV w base lab (f :: l) ps->∃ v vs,ps=v :: vs
 | v :: vs,_=>⟨v,vs,rfl⟩
 | [],h=>h.elim
theorem KRest.same{C:KaC}{X:KaS}(h:KRest C X w)(Y:KaS)(a:Y.lab=X.lab:=by rfl)(c:Y.x.s.globals=X.x.s.globals:=by rfl)(d:Y.lv=X.lv:=by rfl)(e:Y.x.s.log=X.x.s.log:=by rfl)(f:Y.iv=X.iv:=by rfl)(g:Y.x.s.input=X.x.s.input:=by rfl)
  (i:Y.mv=X.mv:=by rfl) (j:Y.x.s.mem=X.x.s.mem:=by rfl) (l:Y.sv=X.sv:=by rfl) (b:Y.x.st=X.x.st:=by rfl) (m:Y.ov=X.ov:=by rfl) (n:Y.x.out=X.x.out:=by rfl) (o:Y.x.first=X.x.first:=by rfl) (e10:Y.ps=X.ps:=by rfl):KRest C Y w:=
 h.but 0 (Aj _) h.bel (fun _ _ _=>rfl) (fun k p=>h.lb k (by rw[<-a];exact p)) (fun k _ _=>by rw[a]) (by rw[a];exact h.cl) (by decide) (.inr ⟨by decide,c⟩) (.inr ⟨by decide,d,e⟩) (.inr ⟨by decide,f,g⟩) (.inr ⟨by decide,i,j⟩) (.inr ⟨by decide,l,by rw[b],by rw[b,e10]⟩) (.inr ⟨by decide,m,n⟩) ⟨by decide,o⟩ (.inr ⟨by decide,b,e10⟩)
theorem KRef.lcb{C:KaC}{X:KaS}(h:KRest C X w):X.lab C.cb≠0:=by rw[h.cl];decide
theorem KRef.cYq{C:KaC}{X:KaS}(h:KRef C X w)(n:Nat):KRef C { X with x:={ X.x with steps:=n } } (w.setCell ⟨C.cb,15,none⟩ (.int .i64 (n:Int))):=
 h.cWz (h.toKRest.same _) 15 _ (by simp[kCells])
theorem KRef.cYx{C:KaC}{X:KaS}(h:KRef C X w)(n:Nat):KRef C { X with x:={ X.x with s:={ X.x.s with fuel:=n } } } (w.setCell ⟨C.cb,9,none⟩ (.int .i64 (n:Int))):=
 h.cWz (h.toKRest.same _) 9 _ (by simp[kCells])
theorem KRef.cYy{C:KaC}{X:KaS}(h:KRef C X w)(n:Int):KRef C { X with x:={ X.x with e:=n } } (w.setCell ⟨C.cb,14,none⟩ (.int .i64 n)):=
 h.cWz (h.toKRest.same _) 14 _ (by simp[kCells])
theorem KRef.cYz{C:KaC}{X:KaS}(h:KRef C X w)(b:Bool):KRef C { X with x:={ X.x with over:=b } } (w.setCell ⟨C.cb,16,none⟩ (.bool b)):=
 h.cWz (h.toKRest.same _) 16 _ (by simp[kCells])
theorem KRef.dQa{C:KaC}{X:KaS}(h:KRef C X w):KRef C { X with sv:=.slice none 0 0,ps:=[],x:={ X.x with st:=[] } } (w.setCell ⟨C.cb,12,none⟩ (.slice none 0 0)):=
 h.cWz (Y:={ X with sv:=.slice none 0 0,ps:=[],x:={ X.x with st:=[] } }) { h.toKRest with stk:=Ad _ _ _ _,l7:=(fun _ e=>by cases e),pls:=trivial } 12 _ (by simp[kCells])
theorem KRef.dQb{C:KaC}{X:KaS}(h:KRef C X w)(v:Bx)(l:List Nat)(hv:UR w v l)(a:∀ k,v.ownBlock=some k->X.lab k=8):KRef C { X with ov:=v,x:={ X.x with out:=l } } (w.setCell ⟨C.cb,13,none⟩ v):=
 h.cWz (Y:={ X with ov:=v,x:={ X.x with out:=l } }) { h.toKRest with out:=hv,l8:=a } 13 _ (by simp[kCells])
theorem KRef.cYr{C:KaC}{X:KaS}(h:KRef C X w)(v:Bx)(l:List Nat)(hv:BR w v l)(a:∀ k,v.ownBlock=some k->X.lab k=6):KRef C { X with mv:=v,x:={ X.x with s:={ X.x.s with mem:=l } } } (w.setCell ⟨C.cb,6,none⟩ v):=
 h.cWz (Y:={ X with mv:=v,x:={ X.x with s:={ X.x.s with mem:=l } } }) { h.toKRest with mem:=hv,l6:=a } 6 _ (by simp[kCells])
theorem KRef.dQc{C:KaC}{X:KaS}(h:KRef C X w)(v:Bx)(l:List Nat)(hv:UR w v l)(a:∀ k,v.ownBlock=some k->X.lab k=5):KRef C { X with iv:=v,x:={ X.x with s:={ X.x.s with input:=l } } } (w.setCell ⟨C.cb,10,none⟩ v):=
 h.cWz (Y:={ X with iv:=v,x:={ X.x with s:={ X.x.s with input:=l } } }) { h.toKRest with inp:=hv,l5:=a } 10 _ (by simp[kCells])
theorem KRef.cYi{C:KaC}{X:KaS}(h:KRef C X w)(v:Bx)(st:List FrD)(ps:List Bx)(hv:w.ownsRow C.w0.heap.size 77 3 v st.length (stCells C st ps))(a:∀ k,v.ownBlock=some k->X.lab k=7)(hp:PlsV w C.w0.heap.size X.lab st ps):KRef C { X with sv:=v,ps:=ps,x:={ X.x with st:=st } } (w.setCell ⟨C.cb,12,none⟩ v):=
 h.cWz (Y:={ X with sv:=v,ps:=ps,x:={ X.x with st:=st } }) { h.toKRest with stk:=hv,l7:=a,pls:=hp } 12 _ (by simp[kCells])
theorem KC.row{C:KaC}(l:KC C){w:Bq}(m:Below C.w0.heap.size C.w0 w){i:Nat}{r:RowD}(g:C.p.fns[i]? = some r):∃ p q s u,C.zf<w.heap.size/\w.cell? ⟨C.zf,C.of_+i*5,none⟩=some p/\w.cell? ⟨C.zf,C.of_+i*5+1,none⟩=some q/\w.cell? ⟨C.zf,C.of_+i*5+2,none⟩=some (.int .i64 r.places)/\w.cell? ⟨C.zf,C.of_+i*5+3,none⟩=some s/\w.cell? ⟨C.zf,C.of_+i*5+4,none⟩=some u /\
  Ints C.w0 p r.sig.inn/\Ints C.w0 q r.sig.out/\Ints C.w0 s r.params/\Structs 5 CodeC C.w0 u r.code:=by
 obtain⟨n,c,hf⟩:=l.adr (fun e=>by rw[e]at g;simp at g);obtain⟨a,b,d,f,e,_,_,_,t⟩:=l.rows;injection e with e;injection e with e;simp only[List.cons.injEq,and_true]at e;obtain⟨_,_,_,_,_,y⟩:=e;rw[<-y,hf]at t;obtain⟨b',o,p,q,s,u,e,x,z,A,B,D,E,h⟩:=t.row g;injection e with e;injection e with F e2;subst F;subst e2;have k:=fun(j:Nat) (v:Bx) (G:C.w0.cell? ⟨C.zf,j,none⟩=some v)=>(m.cell (p:=⟨C.zf,j,none⟩) x).trans G;exact⟨p,q,s,u,Ax x m.size,k _ _ z,k _ _ A,k _ _ B,k _ _ D,k _ _ E,h⟩
theorem KC.code{C:KaC}{w:Bq}(a:Below C.w0.heap.size C.w0 w){A:Option Addr}{n f:Nat}{l:List CodeD}(h:Structs 5 CodeC C.w0 (.slice A n f) l){k:Nat}{c:CodeD}(hc:l[k]? = some c):n=l.length/\k<n/\∃ b o p q r,A=some ⟨b,o,none⟩/\b<w.heap.size/\w.cell? ⟨b,o+k*5,none⟩=some (.int .i64 c.op)/\w.cell? ⟨b,o+k*5+1,none⟩=some (.int .u64 (c.n:Int))/\w.cell? ⟨b,o+k*5+2,none⟩=some p/\w.cell? ⟨b,o+k*5+3,none⟩=some q/\w.cell? ⟨b,o+k*5+4,none⟩=some r /\
  CodeV C.w0 (.agg #[.int .i64 c.op,.int .u64 (c.n:Int),p,q,r]) c:=by
 have hn:=h.cWv.1;refine⟨hn,by rw[hn];exact(List.getElem?_eq_some_iff.1 hc).1,?_⟩;obtain⟨b,o,p,q,r,e,d,g,i,m,s,t,u,h1,h2,x⟩:=h.code hc;have k:=fun(j:Nat) (v:Bx) (y:C.w0.cell? ⟨b,j,none⟩=some v)=>(a.cell (p:=⟨b,j,none⟩) d).trans y;exact⟨b,o,p,q,r,e,Ax d a.size,k _ _ g,k _ _ i,k _ _ m,k _ _ s,k _ _ t,p,q,r,rfl,u,h1,h2,x⟩
theorem KC.sig{C:KaC}(m:KC C){w:Bq}(o:Below C.w0.heap.size C.w0 w){n:Nat}{g:SigD}(hg:C.p.env.sigs[n]? = some g):∃ h i l cs p q,C.a = .slice (some ⟨h,i,none⟩) l cs/\n<l/\l<=64/\h<w.heap.size/\w.cell? ⟨h,i+n*2,none⟩=some p/\w.cell? ⟨h,i+n*2+1,none⟩=some q/\Ints C.w0 p g.inn/\Ints C.w0 q g.out:=by
 obtain⟨a,b,d,f,e,h1,_,_,_⟩:=m.rows;injection e with e;injection e with e;simp only[List.cons.injEq,and_true]at e;obtain⟨t,_⟩:=e;obtain⟨A,c,r,_⟩:=h1.len;have h2:=h1;rw[r]at h2;obtain⟨h,i,p,q,e2,s,u,x,y,z⟩:=h2.sig hg;subst e2;have k:=fun(j:Nat) (v:Bx) (B:C.w0.cell? ⟨h,j,none⟩=some v)=>(o.cell (p:=⟨h,j,none⟩) s).trans B;exact⟨h,i,_,c,p,q,t.trans r,(List.getElem?_eq_some_iff.1 hg).1,(kX m.ok.env).1,Ax s o.size,k _ _ u,k _ _ x,y,z⟩
theorem KRef.top{C:KaC}{X:KaS}(h:KRest C X w){f:FrD}{rest:List FrD}(d:X.x.st=f :: rest):∃ g c v vs,X.sv = .slice (some ⟨g,0,none⟩) (rest.length+1) c/\rest.length+1<=c/\X.ps=v :: vs/\w.cell? ⟨g,rest.length*3,none⟩=some (.pointer (some ⟨C.zf,C.of_+f.fi*5,none⟩))/\w.cell? ⟨g,rest.length*3+1,none⟩=some (.int .i64 (f.k:Int))/\w.cell? ⟨g,rest.length*3+2,none⟩=some v /\
  (∀ i,w.frozen? ⟨g,i,none⟩=false)/\g<w.heap.size/\X.lab g=7/\w.ownsRow C.w0.heap.size 62 1 v f.V.length (u64V f.V)/\∀ k,v.ownBlock=some k->X.lab k=10+rest.length:=by
 have h1:=h.pls;have h2:=h.stk;have b:=h.l7;rw[d]at h1 h2
 cases hps:X.ps with
 | nil=>rw[hps]at h1;exact h1.elim
 | cons v vs=>
  rw[hps]at h1 h2;have l:=nJ C h1.2.len;rcases h2.2 with⟨_,e⟩ | ⟨g,c,cur,e,_,hg,hc,r⟩
  ·simp at e
  ·rw[e]at h2 b
   have a:∀ j,j<3->w.cell? ⟨g,rest.length*3+j,none⟩=(iK C f v)[j]?:=fun j hj=>by
    rw[h2.cellAt (rest.length*3+j) (by simp;omega)];show(stCells C rest vs++iK C f v)[_]? = _;rw[<-l,AK (by omega),AY]
   exact⟨g,c,v,vs,e,hc,rfl,a 0 (by omega),a 1 (by omega),a 2 (by omega),fun i=>h2.frozenAt i,(Array.getElem?_eq_some_iff.1 hg).1,b g rfl,h1.1.1,h1.1.2⟩
theorem KRef.dQd{C:KaC}{X:KaS}(h:KRef C X w){f:FrD}{rest:List FrD}(d:X.x.st=f :: rest)(e:X.sv = .slice (some ⟨g,0,none⟩) (rest.length+1) c):KRef C { X with sv:=.slice (some ⟨g,0,none⟩) rest.length c,ps:=X.ps.tail,x:={ X.x with st:=rest } } (w.setCell ⟨C.cb,12,none⟩ (.slice (some ⟨g,0,none⟩) rest.length c)):=by
 have h1:=h.pls;have h2:=h.stk;have a:=h.l7;rw[d]at h1 h2
 cases hps:X.ps with
 | nil=>rw[hps]at h1;exact h1.elim
 | cons v vs=>
  rw[hps]at h1 h2;rw[e]at h2 a;have b:=cQk h2 (m:=rest.length) (by simp);refine h.cYi _ rest vs ?_ (fun k i=>a k i) h1.2;rw[show(stCells C (f :: rest) (v :: vs)).take (rest.length*3)=stCells C rest vs from ?_]at b
  ·exact b
  ·show(stCells C rest vs++iK C f v).take _=_;rw[<-nJ C h1.2.len,List.take_left]
theorem KRef.setAt{C:KaC}{X:KaS}(h:KRef C X w){f:FrD}{rest:List FrD}(q:X.x.st=f :: rest)(b:X.sv = .slice (some ⟨g,0,none⟩) n c)(k:Nat):KRef C { X with x:={ X.x with st:={ f with k:=k } :: rest } } (w.setCell ⟨g,rest.length*3+1,none⟩ (.int .i64 (k:Int))):=by
 have h1:=h.pls;have h2:=h.stk;have d:=h.l7;rw[q]at h1 h2;rw[b]at d;have hg:=d g rfl;obtain⟨v,vs,i⟩:=h1.cons
 ·rw[i]at h1 h2;rw[b]at h2
  have hn:n=rest.length+1:=by
   rcases h2.2 with⟨e,_⟩ | ⟨_,_,_,e,_⟩
   ·cases e
   ·injection e
  subst hn;have m:=(h2.stored (rest.length*3+1) (.int .i64 (k:Int))).1;have r:=nJ C h1.2.len
  have he:(stCells C (f :: rest) (v :: vs)).set (rest.length*3+1) (.int .i64 (k:Int))=stCells C ({ f with k:=k } :: rest) (v :: vs):=by
   show(stCells C rest vs++iK C f v).set _ _=stCells C rest vs++iK C { f with k:=k } v;rw[<-r,Ab _ _ (by omega),AY];rfl
  rw[he]at m;have s:C.w0.heap.size<=g:=(h.lb g (by rw[hg];decide)).1;have o:w.heap.size<=(w.setCell ⟨g,rest.length*3+1,none⟩ (.int .i64 (k:Int))).heap.size:=(by simp[AX]);have l:∀ j,X.lab j≠0->X.lab j≠7->(w.setCell ⟨g,rest.length*3+1,none⟩ (.int .i64 (k:Int))).heap[j]? = w.heap[j]?:=fun j _ a=>Az _ _ _ _ (fun e=>a (by have:j=g:=e;rw[this];exact hg));refine⟨h.toKRest.but (Y:={ X with x:={ X.x with st:={ f with k:=k } :: rest } }) 7 o (h.bel.setCell (p:=⟨g,_,none⟩) s _) l (fun j a=>⟨(h.lb j a).1,Ax (h.lb j a).2 o⟩) (fun _ _ _=>rfl) h.cl (by decide) (.inr ⟨by decide,rfl⟩) (.inr ⟨by decide,rfl,rfl⟩) (.inr ⟨by decide,rfl,rfl⟩) (.inr ⟨by decide,rfl,rfl⟩) (.inl ?_) (.inr ⟨by decide,rfl,rfl⟩) ⟨by decide,rfl⟩ (.inl ?_),(l C.cb (by rw[h.cl];decide) (by rw[h.cl];decide)).trans h.cb⟩
  ·refine⟨?_,fun j a=>?_⟩
   ·show Ac _ _ _ _ X.sv (rest.length+1) (stCells C ({ f with k:=k } :: rest) X.ps);rw[b,i];exact m
   ·have a:X.sv.ownBlock=some j:=a;rw[b]at a;exact d j a
  ·show PlsV _ _ X.lab ({ f with k:=k } :: rest) X.ps;rw[i];exact(show PlsV w C.w0.heap.size X.lab ({ f with k:=k } :: rest) (v :: vs)from⟨⟨h1.1.1,h1.1.2⟩,h1.2⟩).heap (fun j h5 _ _=>⟨l j (by omega) (by omega),rfl⟩)
theorem KRef.dQe{C:KaC}{X:KaS}(h:KRef C X w){f:FrD}{rest:List FrD}(b:X.x.st=f :: rest){vs:List Bx}(c:X.ps=v :: vs)(V:List Nat)(hV:V.length=f.V.length)(d:w'.ownsRow C.w0.heap.size 62 1 v V.length (u64V V))(hs:w.heap.size<=w'.heap.size)(g:Below C.w0.heap.size C.w0 w')
  (i:∀ j,X.lab j≠0->v.ownBlock≠some j->w'.heap[j]? = w.heap[j]?):KRef C { X with x:={ X.x with st:={ f with V:=V } :: rest } } w':=by
 have h1:=h.pls;rw[b,c]at h1;have ob':∀ j,X.lab j≠0->X.lab j≠10+rest.length->w'.heap[j]? = w.heap[j]?:=fun j a hn=>i j a (fun e=>hn (h1.1.2 j e));refine⟨h.toKRest.but (Y:={ X with x:={ X.x with st:={ f with V:=V } :: rest } }) (10+rest.length) hs g ob' (fun j a=>⟨(h.lb j a).1,Ax (h.lb j a).2 hs⟩) (fun _ _ _=>rfl) h.cl (by omega) (.inr ⟨by omega,rfl⟩) (.inr ⟨by omega,rfl,rfl⟩) (.inr ⟨by omega,rfl,rfl⟩) (.inr ⟨by omega,rfl,rfl⟩) (.inr ⟨by omega,rfl,?_,?_⟩) (.inr ⟨by omega,rfl,rfl⟩) ⟨by omega,rfl⟩ (.inl ?_),(ob' C.cb (by rw[h.cl];decide) (by rw[h.cl];omega)).trans h.cb⟩
 ·show rest.length+1=X.x.st.length;rw[b];rfl
 ·show stCells C ({ f with V:=V } :: rest) X.ps=stCells C X.x.st X.ps;rw[b,c];rfl
 ·show PlsV w' C.w0.heap.size X.lab ({ f with V:=V } :: rest) X.ps;rw[c];exact⟨⟨d,h1.1.2⟩,h1.2.heap (fun j h5 h6 _=>⟨ob' j (by omega) (by omega),rfl⟩)⟩
theorem KRef.cYs{C:KaC}{X:KaS}(h:KRef C X w){f:FrD}{rest:List FrD}(a:X.x.st=f :: rest){vs:List Bx}(b:X.ps = .slice (some ⟨g,0,none⟩) f.V.length c :: vs)(j N:Nat):KRef C { X with x:={ X.x with st:={ f with V:=f.V.set j N } :: rest } } (w.setCell ⟨g,j,none⟩ (.int .u64 (N:Int))):=by
 have h1:=h.pls;rw[a,b]at h1;have hg:=h1.1.2 g rfl;refine h.dQe a b _ (Aa ..) ?_ (by simp[AX]) (h.bel.setCell (p:=⟨g,j,none⟩) (h.lb g (by rw[hg];omega)).1 _) (fun k _ d=>Az _ _ _ _ (fun e=>d (by have:k=g:=e;rw[this];rfl)));rw[Aa,<-aQp];exact(h1.1.1.stored j _).1
theorem KRef.dQf{C:KaC}{X:KaS}(h:KRef C X w)(b:C.gv = .slice (some ⟨g,0,none⟩) n c)(k N:Nat):KRef C { X with x:={ X.x with s:={ X.x.s with globals:=X.x.s.globals.set k N } } } (w.setCell ⟨g,k,none⟩ (.int .u64 (N:Int))):=by
 have hg:=h.l3 g (by rw[b];rfl);have h2:=h.glo;rw[b]at h2
 have hn:n=X.x.s.globals.length:=by
  rcases h2.2 with⟨e,_⟩ | ⟨_,_,_,e,_⟩
  ·cases e
  ·injection e
 subst hn;have i:C.w0.heap.size<=g:=(h.lb g (by rw[hg];decide)).1;have d:w.heap.size<=(w.setCell ⟨g,k,none⟩ (.int .u64 (N:Int))).heap.size:=(by simp[AX]);have f:∀ j,X.lab j≠0->X.lab j≠3->(w.setCell ⟨g,k,none⟩ (.int .u64 (N:Int))).heap[j]? = w.heap[j]?:=fun j _ a=>Az _ _ _ _ (fun e=>a (by have:j=g:=e;rw[this];exact hg));refine⟨h.toKRest.but (Y:={ X with x:={ X.x with s:={ X.x.s with globals:=X.x.s.globals.set k N } } }) 3 d (h.bel.setCell (p:=⟨g,k,none⟩) i _) f (fun j a=>⟨(h.lb j a).1,Ax (h.lb j a).2 d⟩) (fun _ _ _=>rfl) h.cl (by decide) (.inl ⟨rfl,?_,h.l3⟩) (.inr ⟨by decide,rfl,rfl⟩) (.inr ⟨by decide,rfl,rfl⟩) (.inr ⟨by decide,rfl,rfl⟩) (.inr ⟨by decide,rfl,rfl,rfl⟩) (.inr ⟨by decide,rfl,rfl⟩) ⟨by decide,rfl⟩ (.inr ⟨by decide,rfl,rfl⟩),(f C.cb (by rw[h.cl];decide) (by rw[h.cl];decide)).trans h.cb⟩;show Ac _ _ _ _ C.gv (X.x.s.globals.set k N).length (u64V (X.x.s.globals.set k N));rw[b,Aa,<-aQp];exact(h2.stored k _).1
theorem aKc{C:KaC}{X:KaS}(h:KRest C X w)(hv:∀ k,v.ownBlock=some k->X.lab k=c)(hc:c≠0)(hg:w.grownBy w' v.ownBlock)(b:v'.ownBlock=v.ownBlock\/v'.ownBlock=some w.heap.size)(d:∀ k,v'.ownBlock=some k->k<w'.heap.size):
  (∀ k,X.lab k≠0->X.lab k≠c->w'.heap[k]? = w.heap[k]?)/\Below C.w0.heap.size C.w0 w'/\(∀ k,eK X.lab v' c k≠0->C.w0.heap.size<=k/\k<w'.heap.size)/\(∀ k,X.lab k≠0->eK X.lab v' c k=X.lab k):=by
 refine⟨fun k h1 h2=>hg.block k (h.lb k h1).2 (fun e=>h2 (hv k e.symm)),h.bel.grown hg h.bel.size (fun k a=>(h.lb k (by rw[hv k a];exact hc)).1),fun k a=>?_,fun k a=>?_⟩
 ·by_cases e:v'.ownBlock=some k
  ·refine⟨?_,d k e⟩;rcases b with e2 | e2
   ·exact(h.lb k (by rw[hv k (by rw[<-e2];exact e)];exact hc)).1
   ·rw[e]at e2;injection e2 with e2;subst e2;exact h.bel.size
  ·rw[hJ e]at a;exact⟨(h.lb k a).1,Ax (h.lb k a).2 hg.size⟩
 ·by_cases e:v'.ownBlock=some k
  ·rw[lZ e];rcases b with e2 | e2
   ·exact(hv k (by rw[<-e2];exact e)).symm
   ·rw[e]at e2;injection e2 with e2;have:=(h.lb k a).2;omega
  ·exact hJ e
theorem KRest.dQg{C:KaC}{X:KaS}(h:KRest C X w)(b:w'.ownsRow C.w0.heap.size 62 1 v' l.length (u64V l))(hg:w.grownBy w' X.lv.ownBlock)(d:v'.ownBlock=X.lv.ownBlock\/v'.ownBlock=some w.heap.size):
  KRest C { X with lab:=eK X.lab v' 4,lv:=v',x:={ X.x with s:={ X.x.s with log:=l } } } w':=by
 obtain⟨e,f,g,c⟩:=aKc h h.l4 (by decide) hg d (fun k a=>(b.lt k a).2);exact h.but (Y:={ X with lab:=eK X.lab v' 4,lv:=v',x:={ X.x with s:={ X.x.s with log:=l } } }) 4 hg.size f e g (fun k h1 _=>c k h1) ((c C.cb (by rw[h.cl];decide)).trans h.cl) (by decide) (.inr ⟨by decide,rfl⟩) (.inl ⟨rfl,b,fun k a=>lZ a⟩) (.inr ⟨by decide,rfl,rfl⟩) (.inr ⟨by decide,rfl,rfl⟩) (.inr ⟨by decide,rfl,rfl,rfl⟩) (.inr ⟨by decide,rfl,rfl⟩) ⟨by decide,rfl⟩ (.inr ⟨by decide,rfl,rfl⟩)
theorem KRest.dQh{C:KaC}{X:KaS}(h:KRest C X w){pv:Bx}{f:FrD}(e:w'.ownsRow C.w0.heap.size 77 3 v' (X.x.st.length+1) (stCells C X.x.st X.ps++iK C f pv))(hg:w.grownBy w' X.sv.ownBlock)(g:v'.ownBlock=X.sv.ownBlock\/v'.ownBlock=some w.heap.size)
  (hp:w.ownsRow C.w0.heap.size 62 1 pv f.V.length (u64V f.V)) (b:∀ k,pv.ownBlock=some k->X.lab k=10+X.x.st.length) :
  KRest C { X with lab:=eK X.lab v' 7,sv:=v',ps:=pv :: X.ps,x:={ X.x with st:=f :: X.x.st } } w':=by
 obtain⟨d,i,l,c⟩:=aKc h h.l7 (by decide) hg g (fun k a=>(e.lt k a).2);refine h.but (Y:={ X with lab:=eK X.lab v' 7,sv:=v',ps:=pv :: X.ps,x:={ X.x with st:=f :: X.x.st } }) 7 hg.size i d l (fun k h1 _=>c k h1) ((c C.cb (by rw[h.cl];decide)).trans h.cl) (by decide) (.inr ⟨by decide,rfl⟩) (.inr ⟨by decide,rfl,rfl⟩) (.inr ⟨by decide,rfl,rfl⟩) (.inr ⟨by decide,rfl,rfl⟩) (.inl ⟨e,fun k a=>lZ a⟩) (.inr ⟨by decide,rfl,rfl⟩) ⟨by decide,rfl⟩ (.inl ⟨⟨mQ hp (fun k a ad=>d k (by rw[b k a];omega) (by rw[b k a];omega)),fun k a=>?_⟩,?_⟩)
 ·show eK X.lab v' 7 k=_;rw[c k (by rw[b k a];omega),b k a]
 ·exact h.pls.heap (fun j h5 _ _=>⟨d j (by omega) (by omega),c j (by omega)⟩)
def aXf(C:KaC)(X:KaS)(a:MaD)(w:Bq)(en:Ending)(w':Bq):Prop:=en = .returned (.tuple #[])/\∃ X',KRef C X' w'/\KK X X' w w'/\X'.x=a
theorem aQh(C:KaC)(X:KaS)(j:Bx)(l:List Nat)(e:Int)(w:Bq)(h:KRef C X w)(m:UR w j l)(hf:∀ k,j.ownBlock=some k->X.lab k=8):Calls cZ 24 #[.pointer (some ⟨C.mm,0,none⟩),j,.int .i64 e] w (aXf C X (jV X.x X.x.s l e) w):=by
 have m0:=h.cWt;have ad:w.cell? ⟨C.cb,12,none⟩=some X.sv:=h.cell 12;have ae:w.cell? ⟨C.cb,14,none⟩=some (.int .i64 X.x.e):=h.cell 14;have af:w.cell? ⟨C.cb,16,none⟩=some (.bool X.x.over):=h.cell 16;have f12:=frz h.cb 12;have f14:=frz h.cb 14;have f16:=frz h.cb 16;have a:=((h.cYz true).cYy e).dQa;have lcb:X.lab C.cb≠0:=KRef.lcb h.toKRest;have f:=(((KK.refl X w).set (y:={ X with x:={ X.x with over:=true } }) (g:=C.cb) 16 (.bool true) (.inl lcb) rfl).set (y:={ X with x:={ X.x with over:=true,e:=e } }) (g:=C.cb) 14 (.int .i64 e) (.inl lcb) rfl).set (y:={ X with sv:=.slice none 0 0,ps:=[],x:={ X.x with over:=true,e:=e,st:=[] } }) (g:=C.cb) 12 (.slice none 0 0) (.inl lcb) rfl;have n:((((w.setCell ⟨C.cb,16,none⟩ (.bool true)).setCell ⟨C.cb,14,none⟩ (.int .i64 e)).setCell ⟨C.cb,12,none⟩ (.slice none 0 0))).heap.size=w.heap.size:=(by simp[AX]);obtain⟨A,c,rfl⟩:=m.shape
 have ne8:∀ k,(Ak A l.length c).ownBlock=some k->k≠C.cb:=fun k d e=>by
  have:=hf k d;rw[e,h.cl]at this;cases this
 have o:UR ((((w.setCell ⟨C.cb,16,none⟩ (.bool true)).setCell ⟨C.cb,14,none⟩ (.int .i64 e)).setCell ⟨C.cb,12,none⟩ (.slice none 0 0))) (.slice A l.length c) l:=m.heap f.size (fun k d ag=>((Az _ _ _ _ (ne8 k d)).trans (Az _ _ _ _ (ne8 k d))).trans (Az _ _ _ _ (ne8 k d)));obtain⟨wz,p⟩:=cX (((((w.setCell ⟨C.cb,16,none⟩ (.bool true)).setCell ⟨C.cb,14,none⟩ (.int .i64 e)).setCell ⟨C.cb,12,none⟩ (.slice none 0 0))));rw[p]at a f o n;have r:=cQ p;have q:=cQ a;have t:=cQ f;have u:=cQ o;have v:=cQ hf;have HS:=cQ n;have m1:=a.cWt;have ah:wz.cell? ⟨C.cb,13,none⟩=some X.ov:=a.cell 13;have f13:=frz a.cb 13;have yb:=h.cb.lt;have ym:=h.mm.lt;have ai:=a.cb.lt;have aj:=a.mm.lt;clear a f o hf h m p n ne8;by_cases b:e=0
 ·have z:(e == 0)=true:=(by simp[b]);have i:=cQ b;clear b;go_in;go_wp2_with fail;go_region;rw[r.out];go_wp2;go_end0;refine⟨rfl,{ X with sv:=.slice none 0 0,ps:=[],ov:=.slice A l.length c,x:={ X.x with over:=true,e:=e,st:=[],out:=l } },(q.out.dQb (.slice A l.length c) l u.out v.out).drew,(t.out.set (y:={ X with sv:=.slice none 0 0,ps:=[],x:={ X.x with over:=true,e:=e,st:=[] } }) (g:=C.cb) _ _ (.inl (KRef.lcb q.out.toKRest)) rfl).drew.to rfl,?_⟩;unfold jV;rw[if_pos i.out,i.out]
 ·have z:(e == 0)=false:=(by simp[b]);have i:=cQ b;clear b;go_in;go_wp2_with fail;go_region;rw[r.out];go_wp2;go_end0;refine⟨rfl,_,q.out.drew,t.out.drew,?_⟩;unfold jV;rw[if_neg i.out]
def sQ(ks:List Int)(l:List Nat)(k:Nat):List Nat:=lowL (ks.take k) (l.take k)++l.drop k
theorem bVb(ks:List Int)(l:List Nat):sQ ks l 0=l:=by simp[sQ,lowL]
theorem aXg(h:ks.length=l.length)(a:k<=l.length):(lowL (ks.take k) (l.take k)).length=k:=by
 rw[kV _ _ (by simp[h]),Af,Ah a]
theorem cZd(h:ks.length=l.length)(hk:k<l.length):(sQ ks l k)[k]? = l[k]?:=by
 unfold sQ;rw[AK (by rw[aXg h (by omega)];exact Aj _),aXg h (by omega),Ai,List.getElem?_drop,Nat.add_zero]
theorem bVc(h:ks.length=l.length):sQ ks l l.length=lowL ks l:=by
 unfold sQ;rw[<-h,Ag,h,Ag,List.drop_length,List.append_nil]
theorem bVd(h:ks.length=l.length){x:Nat}{t:Int}(b:ks[k]? = some t)(a:l[k]? = some x):(sQ ks l k).set k (jW t x)=sQ ks l (k+1):=by
 have c:=(List.getElem?_eq_some_iff.1 a).1;have ad:=(List.getElem?_eq_some_iff.1 a).2;have d:=aXg h (k:=k) (by omega);unfold sQ;rw[Ab _ _ (by omega),d,Ai,aVx b a,AV c,Ae];rfl
theorem bVe(h:ks.length=l.length){x:Nat}{t:Int}(b:ks[k]? = some t)(a:l[k]? = some x)(he:jW t x=x):sQ ks l k=sQ ks l (k+1):=by
 have c:=(List.getElem?_eq_some_iff.1 a).1;have d:=(List.getElem?_eq_some_iff.1 a).2;unfold sQ;rw[aVx b a,he,AV c,d,Ae];rfl
theorem kQ(v:Bx)(l:List Nat)(w:Bq)(h:UR w v l):Calls cZ 22 #[v] w fun e w'=>∃ v',e = .returned v'/\w'.ownsRow w.heap.size 62 1 v' l.length (u64V l)/\Below w.heap.size w w':=by
 obtain⟨A,c,rfl,hs,hc,f,hn,_⟩:=h;have ae:∀ (w:Bq) (a:Option Addr) (n c g i:Nat),(binOp .eql 30 (.slice a n c) (.slice none g i)).run cZ w = .ok (.bool a.isNone) w:=fun w a n c g i=>Lib.run_eql_slice_nil w 30 62 a n c g i underlying30;obtain⟨n,d⟩:=cX l.length;rw[d]at hs hc hn ⊢;rcases A with _ | ⟨b,o,sp⟩
 ·have m:c=0:=f rfl;subst m;have p:n=0:=(by omega);subst p;have q:l = []:=List.eq_nil_of_length_eq_zero d;subst q;clear f hs hc hn d;go_in;go_wp2;go_ret;exact⟨_,rfl,Ad _ _ _ _,AJ _ _⟩
 ·have r:=cQ (hs.below (w':=w.alloc (.cells #[] 62)) ((AJ _ _).alloc (Aj _) _) (Aj _));have af:=hn.1;clear hs f hn d;go_in;go_wp2_with (at_builtin;refine rZ _ rfl _ (.tmp 6) 30 rfl w.heap.size 62 _ 8 underlying30 xZ rfl _ 0 [] rfl (World.ownsRow_lit w #[] 0 (Aj _) (by unfold maxLen;omega) rfl) _ n c _ rfl r.out (aYq _) (by unfold maxLen;omega) (by omega) (by simp) ?_);rintro v' w' j k;have s:=cQ (by simpa using j:w'.ownsRow w.heap.size 62 1 v' n (u64V l));have t:=cQ k;clear j k;go_wp2;go_ret;exact⟨_,rfl,s.out,((AJ _ _).alloc (Aj _) _).trans t.out⟩
theorem qX(z v:Bx)(ks:List Int)(l:List Nat)(w:Bq)(f:IR w z ks)(j:UR w v l)(he:ks.length=l.length):Calls cZ 35 #[z,v] w (bVv ks l w):=by
 obtain⟨A1,c1,rfl⟩:=f.shape;have A:=cQ f;have H:l.length<=17592186043904:=(by obtain⟨_,_,_,_,_,_,h,_⟩:=j;exact h.1);have B:All64 l:=(by obtain⟨_,_,_,_,_,_,_,h⟩:=j;exact h);have c:=cQ he;have I:=cQ j;obtain⟨n,hn⟩:=cX l.length;have d:=cQ hn;have J:=cQ B;rw[hn]at H;rw[he,hn]at A ⊢;unfold bVv;rw[hn];clear f j he hn B;go_in;go_wp2_with fail;refine(kQ _ l _ I.out).mono ?_;rintro e K ⟨v1,rfl,h1,h2⟩;rw[d.out]at h1;have C:=cQ h2;have D:K.ownsRow w.heap.size 62 1 v1 n (u64V (sQ ks l 0)):=(by rw[bVb];exact h1);obtain⟨L,M,rfl,ao⟩:=cJ h1;have E:=cQ D;clear h1 D h2;go_wp2_with fail;go_loopw [12] (fun i wr=>∃ k:Nat,k<=n/\i = .int .i64 k/\Hid (wr.ownsRow w.heap.size 62 1 (.slice L n M) n (u64V (sQ ks l k)))/\Hid (Below w.heap.size w wr)) (fun i _=>n - (intOf i).toNat)
 case atStart=>exact⟨0,by omega,rfl,E,C⟩
 case round=>
  clear E C;obtain⟨k,f,rfl,iO,m⟩:=hrel;by_cases r:k<n
  ·have N:decide ((k:Int)<n)=true:=(by simp;omega);have t2:(k:Int)<n:=(by omega);obtain⟨t,s⟩:∃ t,ks[k]? = some t:=⟨_,Aq (by rw[c.out,d.out];exact r)⟩;obtain⟨x,q⟩:∃ x,l[k]? = some x:=⟨_,Aq (by rw[d.out];exact r)⟩;obtain⟨b,o,rfl,hb,hc⟩:=(A.out.below m.out (Aj _)).cell s;obtain⟨g,c3,u,aq,O,_⟩:=lV iO.out (by omega);injection u with u _ P;subst u;subst P;have Q:=J.out x (AZ q)
   have ar:wr.cell? ⟨g,k,none⟩=some (.int .u64 (x:Int)):=by
    rw[iO.out.cellAt k (by omega)];have:=cZd c.out (k:=k) (by rw[d.out];exact r);simp[u64V,this,q]
   have au:wr.frozen? ⟨g,k,none⟩=false:=iO.out.frozenAt _;have F:=cQ s;have G:=cQ q;clear s q;by_cases a:t=127
   ·have R:(t == 127)=true:=(by simp[a]);have hand:=cXi Q;have y:=cQ (show jW t x=x % 4294967296 by unfold jW;rw[if_pos a]);clear a;go_wp2;refine⟨⟨k+1,by omega,by simp,cQ ?_,cQ (m.out.setCell (p:=⟨g,k,none⟩) O _)⟩,by simp[intOf];omega⟩;rw[<-bVd c.out F.out G.out,y.out,<-aQp];exact(iO.out.stored k _).1
   ·have R:(t == 127)=false:=(by simp[a]);have y:=cQ (show jW t x=x by unfold jW;rw[if_neg a]);clear a;go_wp2;refine⟨⟨k+1,by omega,by simp,cQ ?_,m⟩,by simp[intOf];omega⟩;rw[<-bVe c.out F.out G.out y.out];exact iO.out
  ·have N:decide ((k:Int)<n)=false:=(by simp;omega);have S:k=n:=(by omega);subst S;go_wp2;go_ret;refine⟨_,rfl,?_,m.out⟩;have:=bVc c.out;rw[d.out]at this;rw[<-this];exact iO.out
theorem aZi(x:Int)(w:Bq):Calls cZ 56 #[.int .i64 x] w fun e w'=>e = .returned (.int .i64 (if x=35 then 38 else x))/\w=w':=by
 by_cases h:x=35
 ·have h1:(x == 35)=true:=(by simp[h]);rw[if_pos h];clear h;go_in;go_wp2;go_ret;exact⟨rfl,rfl⟩
 ·have h1:(x == 35)=false:=(by simp[h]);rw[if_neg h];clear h;go_in;go_wp2;go_ret;exact⟨rfl,rfl⟩
section
variable {P:Program} {ops:Array Oper} {Q:Exit->Act->Bq->Prop} {md:Region.Mode} {S1 S2:Bq->Prop} {ap:Nat}
def SD(S1 S2:Bq->Prop)(ap:Nat)(listed:Array Bool)(w:Bq):Prop:=S1 w/\(listed.getD ap false=false->S2 w)
theorem SD.of_same{l a:Array Bool}(h:SD S1 S2 ap l w)(he:a.getD ap false=l.getD ap false):SD S1 S2 ap a w:=⟨h.1,fun e=>h.2 (he ▸ e)⟩
theorem SD.after{l:Array Bool}(h:S1 w)(he:l.getD ap false=true):SD S1 S2 ap l w:=⟨h,fun e=>by rw[he]at e;cases e⟩
def nZ(P:Program)(md:Region.Mode)(ops:Array Oper)(Q:Exit->Act->Bq->Prop)(S1 S2:Bq->Prop)(ap:Nat):Nat->Array Bool->Act->Bq->Prop
 | 0,listed,a,w=>Region.ready md ops listed = []/\Q .normal a w
 | fuel+1,listed,a,w=>
  (Region.ready md ops listed = []->Q .normal a w) /\
  ∀ i∈Region.ready md ops listed,wpOp P ops Q i (fun b w'=>SD S1 S2 ap (listed.setIfInBounds i true) w'/\nZ P md ops Q S1 S2 ap fuel (listed.setIfInBounds i true) b w') a w
theorem aKk:∀ (fuel:Nat) (listed:Array Bool) (a:Act) (w:Bq),nZ P md ops Q S1 S2 ap fuel listed a w->wpAny P md ops Q fuel listed a w
 | 0,_,_,_,h=>h
 | fuel+1,_,_,_,h=>⟨h.1,fun i hi=>wpOp_mono (fun b w' c=>aKk fuel _ b w' c.2) (h.2 i hi)⟩
def bJm(md:Region.Mode)(ops:Array Oper)(ap i:Nat):Bool:=match ops[ap]? with
 | some o=>o.after.any fun e=>Region.binds md e && e.on == i
 | none=>false
theorem aXx{f:Oper}{v:Bx}{z:Bq->Prop}{edge:Prop}(hi:ops[i]? = some f)(A:∀ (j:Nat) (o:Oper) cs b,ops[j]? = some o->o.op ≠ .select cs b)
  (J:∀ c a w,Q (.panic c) (a.put f.dst v) w->Q (.panic c) a w) (K:i≠ap) (hedge:edge->bJm md ops ap i=true)
  (B:∀ l w,(edge->l.getD ap false=false)->SD S1 S2 ap l w->z w) :
  ∀ (fuel:Nat) (listed:Array Bool) (a:Act) (w:Bq),
   (∀ j g,ops[j]? = some g->j≠i->listed.getD j true=false->(∀ e∈g.after,Region.binds md e=true->e.on≠i)->f.apart ops g=true) ->
   i∈Region.ready md ops listed->(edge->listed.getD ap false=false)->YieldsIf P ops z f v a->SD S1 S2 ap listed w ->
   nZ P md ops Q S1 S2 ap fuel (listed.setIfInBounds i true) (a.put f.dst v) w->nZ P md ops Q S1 S2 ap (fuel+1) listed a w:=by
 have same:∀ (l:Array Bool),(l.setIfInBounds i true).getD ap false=l.getD ap false:=fun l=>getD_set_ne false K;intro fuel
 induction fuel with
 | zero=>
  intro listed a w _ m q r n H;refine⟨fun h=>(by rw[h]at m;cases m),fun j s=>?_⟩;by_cases d:j=i
  ·subst d;exact r.wpOp hi (B _ _ q n) ⟨n.of_same (same _),H⟩
  ·have:=ready_mono s d;rw[H.1]at this;cases this
 | succ fuel L=>
  intro listed a w hfree m q r n H;refine⟨fun h=>(by rw[h]at m;cases m),fun j s=>?_⟩;by_cases d:j=i
  ·subst d;exact r.wpOp hi (B _ _ q n) ⟨n.of_same (same _),H⟩
  ·have h1:=H.2 j (ready_mono s d);obtain⟨C,g,t,M⟩:=mem_ready.1 s
   have D:∀ e∈g.after,Region.binds md e=true->e.on≠i:=fun e he p heq=>by
    have h1:=M e he p;have E:=(mem_ready.1 m).1;rw[heq]at h1;rcases Nat.lt_or_ge i listed.size with u | u
    ·simp[u]at E h1;rw[E]at h1;cases h1
    ·simp[Array.getElem?_eq_none u]at h1
   have h2:=wpOp_putIf t (hfree j g t d C D) (fun cs b=>A i f cs b hi) (fun cs b=>A j g cs b t) J r h1
   have N:∀ k ok,ops[k]? = some ok->k≠i->(listed.setIfInBounds j true).getD k true=false ->
     (∀ e∈ok.after,Region.binds md e=true->e.on≠i)->f.apart ops ok=true:=fun k ok O R F S=>by
    refine hfree k ok O R ?_ S;by_cases G:j=k
    ·subst G;exact C
    ·rw[getD_set_ne true G]at F;exact F
   have T:edge->(listed.setIfInBounds j true).getD ap false=false:=fun he=>by
    have U:j≠ap:=fun e=>by
     subst e;have y:=hedge he;unfold bJm at y;rw[t]at y;obtain⟨x,V,p⟩:=Array.any_eq_true'.1 y;simp only[Bool.and_eq_true,beq_iff_eq]at p;exact D x V p.1 p.2
    rw[getD_set_ne false U];exact q he
   refine wpOp_mono (fun W w' X=>?_) h2;obtain⟨Y,Z,h6⟩:=X;have I:SD S1 S2 ap (listed.setIfInBounds j true) w':=Z.of_same (by rw[AW _ _ (Ne.symm d)];exact(same _).symm);refine⟨I,L (listed.setIfInBounds j true) W w' N (ready_mono m (Ne.symm d)) T Y I ?_⟩;rw[AW _ _ d];exact h6
theorem bXc{l:List Oper}{b:Oper}{v:Bx}{fuel:Nat}{listed:Array Bool}{a:Act}{w:Bq}(hi:l[i]? = some b)
  (hs:Region.noSelect l.toArray=true) (hf:Region.free md l.toArray listed i=true) (g:(Region.ready md l.toArray listed).contains i=true)
  (j:∀ c a w,Q (.panic c) (a.put b.dst v) w->Q (.panic c) a w) (k:(i != ap)=true) (m:YieldsIf P l.toArray S1 b v a) (d:SD S1 S2 ap listed w)
  (h:SD S1 S2 ap (listed.setIfInBounds i true) w->nZ P md l.toArray Q S1 S2 ap fuel (listed.setIfInBounds i true) (a.put b.dst v) w):nZ P md l.toArray Q S1 S2 ap (fuel+1) listed a w:=
 have e:i≠ap:=(by simpa using k);have f:l.toArray[i]? = some b:=(by simpa using hi)
 aXx (edge:=False) f (Region.noSelect_spec hs) j e (fun h=>h.elim) (fun _ _ _ h=>h.1) fuel listed a w (Region.free_spec f hf) (by simpa using g) (fun h=>h.elim) m d (h (d.of_same (getD_set_ne false e)))
theorem wtk(i:Nat){l:List Oper}{b:Oper}{v:Bx}{listed:Array Bool}{a d:Act}(e:SD S1 S2 ap listed w)(h:SD S1 S2 ap (listed.setIfInBounds i true) w->nZ P md l.toArray Q S1 S2 ap fuel (listed.setIfInBounds i true) d w)
  (hi:l[i]? = some b:=by rfl) (hs:Region.noSelect l.toArray=true:=by kernel_rfl) (hf:Region.free md l.toArray listed i=true:=by kernel_rfl) (f:(Region.ready md l.toArray listed).contains i=true:=by kernel_rfl)
  (g:∀ c a w,Q (.panic c) (a.put b.dst v) w->Q (.panic c) a w:=by exact fun _ _ _ h=>h) (j:(i != ap)=true:=by rfl) (k:Region.wanted b (yielded l.toArray a.tmps)=true:=by rfl)
  (m:∀ w,S1 w->(execOp a.eval b).run P w = .ok (.value v) w:=by(intro w n;(try dsimp only at n);go_simp;(try with_reducible rfl)))
  (ha:a.put b.dst v=d:=by((try simp only[Act.put,List.setIfInBounds_toArray,List.set_cons_zero,List.set_cons_succ]);(try rfl))):nZ P md l.toArray Q S1 S2 ap (fuel+1) listed a w:=
 bXc hi hs hf f g j (Or.inl ⟨k,m⟩) e (fun o=>ha ▸ h o)
theorem nV{l:List Oper}{b:Oper}{v:Bx}{fuel:Nat}{listed:Array Bool}{a:Act}{w:Bq}(hi:l[i]? = some b)
  (hs:Region.noSelect l.toArray=true) (hf:Region.free md l.toArray listed i=true) (g:(Region.ready md l.toArray listed).contains i=true)
  (j:∀ c a w,Q (.panic c) (a.put b.dst v) w->Q (.panic c) a w) (k:(i != ap)=true) (m:bJm md l.toArray ap i=true) (n:listed.getD ap false=false)
  (o:YieldsIf P l.toArray (fun w=>S1 w/\S2 w) b v a) (d:SD S1 S2 ap listed w)
  (h:SD S1 S2 ap (listed.setIfInBounds i true) w->nZ P md l.toArray Q S1 S2 ap fuel (listed.setIfInBounds i true) (a.put b.dst v) w):nZ P md l.toArray Q S1 S2 ap (fuel+1) listed a w:=
 have e:i≠ap:=(by simpa using k);have f:l.toArray[i]? = some b:=(by simpa using hi)
 aXx (edge:=True) f (Region.noSelect_spec hs) j e (fun _=>m) (fun _ _ h1 h=>⟨h.1,h.2 (h1 trivial)⟩) fuel listed a w (Region.free_spec f hf) (by simpa using g) (fun _=>n) o d (h (d.of_same (getD_set_ne false e)))
theorem dQ{l:List Oper}{o:Oper}{fuel:Nat}{listed:Array Bool}{a:Act}{w:Bq}(c:Region.ready md l.toArray listed = [i])(f:l[i]? = some o)
  (h:∀ b:Act->Bq->Prop,Shut (∀ a w,SD S1 S2 ap (listed.setIfInBounds i true) w->(SD S1 S2 ap (listed.setIfInBounds i true) w->nZ P md l.toArray Q S1 S2 ap fuel (listed.setIfInBounds i true) a w)->b a w)->if Region.wanted o (yielded l.toArray a.tmps)=true then Oper.wp P o a w b Q else b (a.put o.dst undef) w) :
  nZ P md l.toArray Q S1 S2 ap (fuel+1) listed a w:=
 ⟨fun d=>(by rw[c]at d;cases d),fun j e=>by
  rw[c]at e;have:=List.mem_singleton.1 e;subst this
  exact wpOp_step (by simpa using f) (fun b g=>h b (fun a w h1 h2=>g a w ⟨h1,h2 h1⟩))⟩
theorem iX{l:List Oper}{listed:Array Bool}{a:Act}(b:Region.ready md l.toArray listed = [])(h:Q .normal a w):∀ fuel,nZ P md l.toArray Q S1 S2 ap fuel listed a w
 | 0=>⟨b,h⟩
 | _+1=>⟨fun _=>h,by rw[b];simp⟩
theorem iZ{l:List Oper}{id:Nat}{a:Act}(S1 S2:Bq->Prop)(ap:Nat)(b:P.follows .mixedOrders=true)(h1:S1 w.drew)(h2:S2 w.drew)
  (h:SD S1 S2 ap (Av l.length false) w.drew->nZ P .any l.toArray Q S1 S2 ap l.length (Av l.length false) a w.drew):(Code.region id l.toArray true).wp P Q a w:=
 wp_region_any b (aKk _ _ _ _ (by
  have c:=h ⟨h1,fun _=>h2⟩;rw[List.size_toArray]
  exact c))
end
theorem aXe:∀ (os:List Int) (a V:List Nat),putV (os.take a.length) (a.take a.length) V=putV os a V
 | [],a,V=>by cases a <;> rfl
 | o :: os,[],V=>rfl
 | o :: os,n :: a,V=>by
  simp only[List.length_cons,List.take_succ_cons,putV];exact aXe os a _
def mY(X:KaS)(f:FrD)(rest:List FrD)(V:List Nat):KaS:={ X with x:={ X.x with st:={ f with V:=V } :: rest } }
def cJk(C:KaC)(X:KaS)(f:FrD)(rest:List FrD)(V:List Nat)(w:Bq)(en:Ending)(w':Bq):Prop:=en = .returned (.tuple #[])/\KRef C (mY X f rest V) w'/\KK X (mY X f rest V) w w'
theorem jZ(C:KaC)(X:KaS)(f:FrD)(rest:List FrD)(g cS:Nat)(vc:Bx)(c:CodeD)(B:Bx)(l:List Nat)(w:Bq)(h:KRef C X w)(P:X.x.st=f :: rest)(Q:X.sv = .slice (some ⟨g,0,none⟩) (rest.length+1) cS)
  (hc:CodeV C.w0 vc c) (s:UR w B l) (D:∀ k,B.ownBlock=some k->X.lab k≠10+rest.length) (R:∀ o∈c.outs,0<=o/\o<(f.V.length:Int)) (hle:l.length<=c.outs.length) :
  Calls cZ 39 #[.pointer (some ⟨g,rest.length*3,none⟩),vc,B] w (cJk C X f rest (putV c.outs l f.V) w):=by
 obtain⟨E,cb,F,rfl,az,_,t,_⟩:=hc;obtain⟨A1,c1,rfl⟩:=s.shape;obtain⟨G,H,rfl⟩:=t.shape;obtain⟨m,r⟩:=cX l.length;obtain⟨T,u⟩:=cX c.outs.length;have z:=(AJ w.heap.size w).alloc (Aj _) (.cells #[.int .i64 c.op,.int .u64 (c.n:Int),E,.slice G c.outs.length H,F] 80);have I:=cQ (h.below z);have J:=cQ (Blk.new w 80 #[.int .i64 c.op,.int .u64 (c.n:Int),E,.slice G c.outs.length H,F]);have U:=cQ (KRef.fresh h.toKRest (Aj w.heap.size));have W:=cQ s;rw[r]at D;have aA:=cQ D;have Y:=cQ t.ir;have aB:=cQ R;have aC:=cQ P;have aD:=cQ Q;have Z:=cQ r;have aE:=cQ u;rw[r,u]at hle;have ah:=s.len.2.2.2.2.1.1;rw[u]at z J I Y ⊢;rw[r]at W ah ⊢;have aw:=h.bel.size;clear h P Q t s D R r u az;go_in;go_wp2_with fail;go_loopw [10] (fun i wr=>∃ k:Nat,k<=m/\i = .int .i64 k/\Hid (KRef C (mY X f rest (putV (c.outs.take k) (l.take k) f.V)) wr/\KK X (mY X f rest (putV (c.outs.take k) (l.take k) f.V)) (w.alloc (.cells #[.int .i64 c.op,.int .u64 (c.n:Int),E,.slice G T H,F] 80)) wr/\∀ j,X.lab j≠10+rest.length->j<w.heap.size->wr.heap[j]? = w.heap[j]?)) (fun i _=>m - (intOf i).toNat)
 case atStart=>
  refine⟨0,by omega,rfl,cQ ?_⟩
  have e:mY X f rest (putV (c.outs.take 0) (l.take 0) f.V)=X:=by
   have:putV (c.outs.take 0) (l.take 0) f.V=f.V:=rfl;rw[this];unfold mY;have h2:=aC.out;cases X;rename_i x _ _ _ _ _ _ _;cases x;simp at h2 ⊢;rw[h2]
  rw[e];exact⟨I.out,KK.refl _ _,fun j _ q=>z.block j q⟩
 case round=>
  obtain⟨k,hk,rfl,K⟩:=hrel;by_cases aF:k<m
  ·have t1:decide ((k:Int)<m)=true:=(by simp;omega);have t2:(k:Int)<m:=(by omega);have t3:(k:Int)<T:=(by omega);obtain⟨y,L⟩:∃ y,l[k]? = some y:=⟨_,Aq (by rw[Z.out];exact aF)⟩;obtain⟨o,A⟩:∃ o,c.outs[k]? = some o:=⟨_,Aq (by rw[aE.out];omega)⟩;have aG:=aB.out o (AZ A);obtain⟨on,rfl⟩:=AQ aG.1;have aH:on<f.V.length:=(by omega);obtain⟨p,d,M⟩:=K.out;obtain⟨g',c',v,vs,a,e2,e3,e4,e5,e6,e7,e8,e9,e10,ax⟩:=KRef.top p.toKRest (f:={ f with V:=putV (c.outs.take k) (l.take k) f.V }) (rest:=rest) rfl;have a:X.sv=_:=a;rw[aD.out]at a;injection a with a _ _;injection a with a;injection a with a;subst a;have N:(putV (c.outs.take k) (l.take k) f.V).length=f.V.length:=aVv _ _ _;have e10:wr.ownsRow C.w0.heap.size 62 1 v (putV (c.outs.take k) (l.take k) f.V).length (u64V (putV (c.outs.take k) (l.take k) f.V)):=e10;rw[N]at e10;obtain⟨pg,pc,rfl,aN,aO,aP⟩:=lV e10 (by omega);obtain⟨pv,aQ⟩:=aQa e10 aH;have aR:wr.frozen? ⟨pg,on,none⟩=false:=e10.frozenAt _;have K3:=(d.blk J.out U.out).cell 3;simp at K3;have yB:=(d.blk J.out U.out).lt;obtain⟨b,ob,rfl,hb,t⟩:=(W.out.heap (Bj z.size d.size) (fun j q O=>M j (aA.out j q) O)).cell L;obtain⟨b2,aS,rfl,aT,aI⟩:=(Y.out.below p.bel (Aj _)).cell A;have ay:(mY X f rest (putV (c.outs.take k) (l.take k) f.V)).lab pg=10+rest.length:=ax pg rfl;have aJ:=cQ p;have aK:=cQ d;have aL:=cQ M;have HY:=cQ L;have HO:=cQ A;have HP:=cQ e3;have aM:=cQ N;clear K p d M L A e3 e10 e4 e5 ax I N;go_wp2_with fail;go_region;go_wp2;refine⟨⟨k+1,by omega,by simp,cQ ?_⟩,by simp[intOf];omega⟩;rw[aXm _ _ _ _ _ _ HO.out HY.out,Ay];have hP:=HP.out;rw[<-aM.out]at hP;have S:=aJ.out.cYs (f:={ f with V:=putV (c.outs.take k) (l.take k) f.V }) (rest:=rest) rfl hP on y;refine⟨S.drew,(aK.out.set (y:=mY X f rest (putV (c.outs.take k) (l.take k) f.V)) (g:=pg) _ _ (.inl (by rw[ay];omega)) rfl).drew.to rfl,fun j q O=>(Az _ _ _ _ (fun e=>q (by have:j=pg:=e;rw[this];exact ay))).trans (aL.out j q O)⟩
  ·have t1:decide ((k:Int)<m)=false:=(by simp;omega);have ak:m=k:=(by omega);subst ak;go_wp2;go_end0;obtain⟨p,d,_⟩:=K.out;rw[<-Z.out,aXe]at p d;exact⟨rfl,p,KK.trans (KK.cWu ((AJ w.heap.size w).alloc (Aj _) _)) d⟩
theorem aJu:(cZ.info? 77).map (fun i=>(i.zero,i.size,i.bytes))=some (some (.agg #[.pointer none,.int .i64 0,.slice none 0 0]),3,40):=by kernel_rfl
structure EnI (w w2:Bq) (P k:Nat) (q:RowD) (L:List Nat) (wr:Bq):Prop where
 own:wr.ownsRow w.heap.size 62 1 (.slice (some ⟨w.heap.size,0,none⟩) P P) P (u64V (putV (q.params.take k) (L.take k) (Aw P 0)))
 bel:Below w.heap.size w wr
 oth:∀ j,j≠w.heap.size->wr.heap[j]? = w2.heap[j]?
 size:wr.heap.size=w2.heap.size
theorem bZx{a b c:Bx}(k:Blk w g e #[a,b,c]):w.cell? ⟨g,0,none⟩=some a/\w.cell? ⟨g,1,none⟩=some b/\w.cell? ⟨g,2,none⟩=some c:=
 ⟨by simpa using k.cell 0,by simpa using k.cell 1,by simpa using k.cell 2⟩
theorem cKx{a N:Nat}(h:v.ownBlock=some a\/a=N):(Ak (some ⟨a,0,none⟩) n c).ownBlock=v.ownBlock\/(Ak (some ⟨a,0,none⟩) n c).ownBlock=some N:=by
 rcases h with h | h
 ·exact .inl h.symm
 ·exact .inr (by rw[h];rfl)
theorem vW{r:Option Nat}(h:w.drew.grownBy w' r):w.grownBy w' r:=⟨h.os,h.tape,h.output,h.size,h.block⟩
theorem cKy{size:Nat}{a:List Bx}(h:w.ownsRow base e size v n a):w.drew.ownsRow base e size v n a:=h
theorem cJn(C:KaC)(f:FrD)(A:Option Addr)(n c:Nat):∀ u∈iK C f (.slice A n c),u.oneCell'=true:=by
 intro u a;simp only[iK,List.mem_cons,List.mem_nil_iff,or_false]at a;rcases a with rfl | rfl | rfl <;> rfl
theorem cXx{C:KaC}{X:KaS}{f:FrD}{w wr w5:Bq}{pv:Bx}{d:Option Addr}{L cS a cap:Nat}{O:Obj}(n:KRef C { X with lab:=eK X.lab pv (10+X.x.st.length) } wr)(l:KK X { X with lab:=eK X.lab pv (10+X.x.st.length) } w wr)(h:X.sv = .slice d L cS)(o:X.x.st.length=L)
  (p:wr.ownsRow C.w0.heap.size 62 1 pv f.V.length (u64V f.V)) (q:w5.ownsRow C.w0.heap.size 77 3 (.slice (some ⟨a,0,none⟩) (L+1) cap) (L+1) (stCells C X.x.st X.ps++iK C f pv)) (hgrow:(wr.alloc O).drew.grownBy w5 (Ak d L cS).ownBlock) (r:(Ak d L cS).ownBlock=some a\/a=wr.heap.size+1) :
  aXf C X { X.x with st:=f :: X.x.st } w (.returned (.tuple #[])) (w5.setCell ⟨C.cb,12,none⟩ (.slice (some ⟨a,0,none⟩) (L+1) cap)):=by
 have i:=(AJ wr.heap.size wr).alloc (Aj _) O;have h1:=n.below i;have hg:=vW hgrow;have m:(Ak (some ⟨a,0,none⟩) (L+1) cap).ownBlock=(Ak d L cS).ownBlock\/(Ak (some ⟨a,0,none⟩) (L+1) cap).ownBlock=some (wr.alloc O).heap.size:=cKx (by simpa using r);have j:∀ k,(Ak d L cS).ownBlock=some k->eK X.lab pv (10+X.x.st.length) k=7:=fun k b=>h1.l7 k (by show X.sv.ownBlock=_;rw[h];exact b)
 have s:(Ak d L cS).ownBlock≠some C.cb:=fun e=>by
  have h8:=j _ e;have h9:eK X.lab pv (10+X.x.st.length) C.cb=1:=h1.cl;omega
 have h2:=h1.toKRest.dQh (v':=.slice (some ⟨a,0,none⟩) (L+1) cap) (pv:=pv) (f:=f) (by show Ac _ _ _ _ _ (X.x.st.length+1) _;rw[o];exact q) (by show World.grownBy _ _ X.sv.ownBlock;rw[h];exact hg) (by show _=X.sv.ownBlock\/_;rw[h];exact m) (aQx p O) (fun k b=>lZ b);have t:=h2.cYg (h1.cb.grown hg s) 12 (.slice (some ⟨a,0,none⟩) (L+1) cap) (by simp[kCells]);refine⟨rfl,_,t,?_,rfl⟩;have u:=(l.below i).grown hg (fun k b=>.inl (by rw[show({ X with lab:=eK X.lab pv (10+X.x.st.length) }:KaS).lab k=7 from j k b];decide))
 have z:=u.cWw (v:=.slice (some ⟨a,0,none⟩) (L+1) cap) (c:=7) (fun k b=>by
  rcases m with e | e
  ·exact .inr (by rw[show({ X with lab:=eK X.lab pv (10+X.x.st.length) }:KaS).lab k=7 from j k (by rw[<-e];exact b)];decide)
  ·rw[b]at e;injection e with e
   exact .inl (by rw[e];exact Bj l.size i.size))
 have A:=KRef.lcb h2;exact(z.set (y:={ X with lab:=eK (eK X.lab pv (10+X.x.st.length)) (.slice (some ⟨a,0,none⟩) (L+1) cap) 7 }) (g:=C.cb) 12 _ (.inl A) rfl).to rfl
theorem bYy(P:Nat):u64V (Aw P 0)=Aw P (.int .u64 0):=by simp[u64V]
theorem aVg(C:KaC)(X:KaS)(n m i:Nat)(g:SigD)(q:RowD)(va:Bx)(a:List Nat)(w:Bq)(h:KRef C X w)(s:KC C)(hg:C.p.env.sigs[n]? = some g)(T:C.p.env.imports=(m:Int))(hi:n=m+i)(hq:C.p.fns[i]? = some q)(ha:UR w va a)(G:a.length=g.inn.length)(hd:X.x.st.length<=15):
  Calls cZ 26 #[.pointer (some ⟨C.mm,0,none⟩),.int .i64 n,va] w (aXf C X { X.x with st:=⟨i,q,0,initV q (lowL g.inn a)⟩ :: X.x.st } w):=by
 have D:=(s.ok.row _ _ hq).1;obtain⟨nf,cf,hf⟩:=s.adr (fun e=>by rw[e]at hq;simp at hq)
 have aK:q.sig=g:=by
  have h1:=(s.ok.row _ _ hq).2;rw[T,Ay,<-hi,hg]at h1;injection h1 with h1;exact h1.symm
 obtain⟨P,U⟩:=AQ D.p1;have bC:P<=4096:=(by have:=D.p2;omega);obtain⟨sb,so,ns,cs,sp,sq,aL,ba,bb,s1,s2,s3,V,_⟩:=s.sig h.bel hg;obtain⟨rp,rq,rs,ru,W,y1,y2,Y,I,y5,_,_,J,_⟩:=s.row h.bel hq;rw[U]at Y;have m0:=h.cWt;have c0:w.cell? ⟨C.cb,0,none⟩=some (.slice (some ⟨sb,so,none⟩) ns cs):=(by rw[h.cell 0];simp[kCells,aL]);have c1:w.cell? ⟨C.cb,1,none⟩=some (.int .i64 m):=(by rw[h.cell 1];simp[kCells,T]);have c5:w.cell? ⟨C.cb,5,none⟩=some (.slice (some ⟨C.zf,C.of_,none⟩) nf cf):=(by rw[h.cell 5];simp[kCells,hf]);have yb:=h.cb.lt;have ym:=h.mm.lt
 have bD:i<nf:=by
  obtain⟨a',b',d',f',e,_,_,_,h4⟩:=s.rows;injection e with e;injection e with e;simp only[List.cons.injEq,and_true]at e;obtain⟨_,_,_,_,_,e6⟩:=e;rw[<-e6,hf]at h4;rw[h4.cWv.1];exact(List.getElem?_eq_some_iff.1 hq).1
 have bc:(i:Int)<(nf:Int):=(by omega);have bd:IntKind.i64.wrap ((n:Int) - (m:Int))=(i:Int):=(by rw[show(n:Int) - (m:Int)=(i:Int) by omega];exact IntWalk.i64_in _ (by omega));have be:(n:Int)<(ns:Int):=(by omega);obtain⟨K,Z⟩:=cX a.length;have aM:(lowL g.inn a).length=K:=(by rw[kV _ _ G.symm,Z]);have ax:q.params.length=K:=(by rw[D.par,aK,<-G,Z]);have bE:K<=8:=(by have:=(nY s.ok.env hg).1;omega);obtain⟨A2,c2,bf⟩:=J.shape;subst bf;rw[ax]at I J;obtain⟨A1,bF,rfl⟩:=V.shape;have mk:=bJs (P:=cZ) 30 62 (.int .u64 0) 8 underlying30 xZ rfl P (by omega) (by omega);have H:=cQ h;have HC:=cQ s;have HA:=cQ ha;have aN:=cQ G;have ay:=cQ aM;have bg:=cQ ax;have bh:=cQ D;have HP:=cQ U;have bj:=cQ V;have bk:=cQ J.ir;clear h ha G aM ax D U V J hg hq aK aL hf Z T hi ba s;go_in;go_wp2_with fail;go_quiet (fail);obtain⟨b,z⟩:=cX (w.drewN nq)
 have q0:∀ a,b.cell? a=w.cell? a:=fun a=>by rw[<-z];rfl
 have qs:b.heap.size=w.heap.size:=(by rw[<-z];rfl);rw[<-q0]at m0 c0 c1 c5 s2 s3 y1 y2 Y I y5;rw[<-qs]at yb ym s1 W;have u:=cQ (show KRef C X b by rw[<-z];exact H.out.drewN nq);have az:=cQ (show KK X X w b by rw[<-z];exact KK.cWu (dV (AJ _ _) nq));have aO:=cQ (show UR b va a by rw[<-z];exact HA.out);rw[z];clear z q0 qs H HA;have aP:=(AJ b.heap.size b).alloc (Aj _) (.cells (Av P (.int .u64 0)) 62);have M:=aP.alloc (by simp) (.cells #[.pointer (some ⟨C.zf,C.of_+i*5,none⟩),.int .i64 0,.slice (some ⟨b.heap.size,0,none⟩) P P] 77);have aQ:=cQ ((Blk.new b 62 (Av P (.int .u64 0))).alloc (.cells #[.pointer (some ⟨C.zf,C.of_+i*5,none⟩),.int .i64 0,.slice (some ⟨b.heap.size,0,none⟩) P P] 77));have aR:=cQ (Blk.newAt (b.alloc (.cells (Av P (.int .u64 0)) 62)) (N:=b.heap.size+1) 77 #[.pointer (some ⟨C.zf,C.of_+i*5,none⟩),.int .i64 0,.slice (some ⟨b.heap.size,0,none⟩) P P] (by simp));have aS:=cQ M;have aT:=cQ (bj.out.ir.below (u.out.bel.trans (M.mono u.out.bel.size)) (Aj _));have aU:=cQ (aO.out.below M (Aj _));have aV:((b.alloc (.cells (Av P (.int .u64 0)) 62)).alloc (.cells #[.pointer (some ⟨C.zf,C.of_+i*5,none⟩),.int .i64 0,.slice (some ⟨b.heap.size,0,none⟩) P P] 77)).heap.size=b.heap.size+2:=(by simp);have aA:=cQ aV;clear aP M aV;go_wp2_with fail;refine(qX _ _ g.inn a _ aT.out aU.out aN.out.symm).mono ?_;rintro e O ⟨v3,rfl,E,B⟩;rw[<-kV g.inn a aN.out.symm,ay.out]at E;rw[aA.out]at E B;obtain⟨A3,c3,rfl,bG⟩:=cJ E;have aW:=cQ (aS.out.trans (B.mono (by omega)));have an:=cQ (aQ.out.below B (by omega));have ao:=cQ (aR.out.below B (by omega));have aB:=cQ E;have bH:b.heap.size+2<=O.heap.size:=(by have:=B.size;rw[aA.out]at this;exact this);clear E B aQ aR aS aT aU aA aO;go_wp2_with fail;go_loopw [53] (fun v wr=>∃ k:Nat,k<=K/\v = .int .i64 k/\Hid (EnI b O P k q (lowL g.inn a) wr)) (fun v _=>K - (intOf v).toNat)
 case atStart=>
  refine⟨0,by omega,rfl,cQ ⟨?_,aW.out,fun _ _=>rfl,rfl⟩⟩
  have e:u64V (putV (q.params.take 0) ((lowL g.inn a).take 0) (Aw P 0))=(Av P (Value.int .u64 0)).toList:=by
   show u64V (Aw P 0)=_;rw[bYy];simp
  rw[e];exact Blk.own an.out (Aj _) (by simp) (by unfold maxLen;omega)
 case round=>
  obtain⟨k,hk,rfl,d⟩:=hrel;have bm:O.heap.size=wr.heap.size:=d.out.size.symm;have K3:Blk wr (b.heap.size+1) 77 _:=(d.out.oth _ (by omega)).trans ao.out;obtain⟨p0,p1,p2⟩:=bZx K3;by_cases aX:k<K
  ·have t1:decide ((k:Int)<K)=true:=(by simp;omega);have t2:(k:Int)<K:=(by omega);obtain⟨y,hy⟩:∃ y,(lowL g.inn a)[k]? = some y:=⟨_,Aq (by rw[ay.out];exact aX)⟩;obtain⟨o,Q⟩:∃ o,q.params[k]? = some o:=⟨_,Aq (by rw[bg.out];exact aX)⟩
   have aC:0<=o/\o<(P:Int):=by
    have h1:=bh.out.pin;unfold within at h1;rw[List.all_eq_true]at h1;have:=h1 o (AZ Q);rw[HP.out]at this
    simpa using this
   obtain⟨on,rfl⟩:=AQ aC.1;have bn:on<P:=(by omega);have bI:wr.cell? ⟨C.zf,C.of_+i*5+3,none⟩=some (.slice A2 K c2):=(d.out.bel.cell (p:=⟨C.zf,_,none⟩) W).trans I;have bJ:C.zf<wr.heap.size:=Ax W d.out.bel.size;obtain⟨pv,bL⟩:=aQa d.out.own bn;have bM:wr.frozen? ⟨b.heap.size,on,none⟩=false:=d.out.own.frozenAt _;have bN:b.heap.size<wr.heap.size:=(by omega);obtain⟨b2,bO,rfl,bP,bo⟩:=(bk.out.below (u.out.bel.trans (d.out.bel.mono u.out.bel.size)) (Aj _)).cell Q;obtain⟨F,bQ,aD,bT,bU,_⟩:=lV aB.out (by omega);injection aD with aD _ aE;subst aD;subst aE
   have bV:wr.cell? ⟨F,k,none⟩=some (.int .u64 (y:Int)):=by
    have h5:O.cell? ⟨F,k,none⟩=some (.int .u64 (y:Int)):=by
     rw[aB.out.cellAt k (by omega)];simp[u64V,hy]
    exact(World.cell?_of_block (a:=⟨F,k,none⟩) (d.out.oth F (by omega))).trans h5
   have bW:F<wr.heap.size:=(by omega);have HY:=cQ hy;have HO:=cQ Q;have bX:(on:Int)<(P:Int):=aC.2;clear hy Q aC bm;go_wp2_with fail;go_region;go_wp2;refine⟨⟨k+1,by omega,by simp,cQ ⟨?_,(d.out.bel.setCell (p:=⟨b.heap.size,on,none⟩) (Aj _) _).drew,fun j r=>(Az _ _ _ _ r).trans (d.out.oth j r),?_⟩⟩,by simp[intOf];omega⟩
   ·rw[aXm _ _ _ _ _ _ HO.out HY.out,Ay,<-aQp];exact(d.out.own.stored on _).1
   ·exact(show(wr.setCell ⟨b.heap.size,on,none⟩ (.int .u64 (y:Int))).heap.size=wr.heap.size by simp[AX]).trans d.out.size
  ·have t1:decide ((k:Int)<K)=false:=(by simp;omega);have aF:k=K:=(by omega);subst aF;have ad:=aXe q.params (lowL g.inn a) (Aw P 0);rw[ay.out]at ad;have aq:putV q.params (lowL g.inn a) (Aw P 0)=initV q (lowL g.inn a):=(by unfold initV;rw[HP.out,Ay]);have R:=d.out.own;rw[ad,aq]at R;have l:=u.out.below d.out.bel
   have ae:∀ j,(Ak (some ⟨b.heap.size,0,none⟩) P P).ownBlock=some j->X.lab j=0/\C.w0.heap.size<=j/\j<wr.heap.size:=fun j r=>by
    injection r with r;subst r;exact⟨KRef.fresh u.out.toKRest (Aj _),u.out.bel.size,(R.lt _ rfl).2⟩
   have HX:=l.cWw (.slice (some ⟨b.heap.size,0,none⟩) P P) (10+X.x.st.length) ae;have aY:=((az.out.below d.out.bel).cWw (v:=.slice (some ⟨b.heap.size,0,none⟩) P P) (c:=10+X.x.st.length) (fun j r=>.inl (by injection r with r;rw[<-r];exact az.out.size)));obtain⟨AS,cS,A,bp⟩:=cJ l.stk;have S:=l.stk;obtain⟨L,hL⟩:=cX X.x.st.length;rw[hL]at A bp S hd;rw[A]at S;have bY:=l.cWt;have bZ:wr.cell? ⟨C.cb,12,none⟩=some (.slice AS L cS):=(by rw[l.cell 12];simp[kCells,A]);have b0:=l.cb.lt;have b1:=l.mm.lt;obtain⟨i0,bq,br,bs,aG⟩:=info_parts aJu;have KB:=l.cb.alloc (.cells #[.pointer (some ⟨C.zf,C.of_+i*5,none⟩),.int .i64 0,.slice (some ⟨b.heap.size,0,none⟩) P P] 77);have aH:=cQ KB
   have aZ:(Ak AS L cS).ownBlock≠some C.cb:=by
    intro e;have:=l.l7 C.cb (by rw[A];exact e);rw[l.cl]at this;cases this
   have aI:=cQ aZ
   have a1:(Ak AS L cS).ownBlock≠some C.mm:=by
    intro e;have:=l.l7 C.mm (by rw[A];exact e);rw[l.ml]at this;cases this
   have a6:=cQ a1;have a7:=cQ (l.mm.alloc (.cells #[.pointer (some ⟨C.zf,C.of_+i*5,none⟩),.int .i64 0,.slice (some ⟨b.heap.size,0,none⟩) P P] 77));have bt:=cQ (aQx S (.cells #[.pointer (some ⟨C.zf,C.of_+i*5,none⟩),.int .i64 0,.slice (some ⟨b.heap.size,0,none⟩) P P] 77));have bu:=cQ HX;have aJ:=cQ aY;have a8:(initV q (lowL g.inn a)).length=P:=(by rw[pK,HP.out,Ay]);have bw:=cQ (show wr.ownsRow C.w0.heap.size 62 1 (.slice (some ⟨b.heap.size,0,none⟩) P P) (initV q (lowL g.inn a)).length (u64V (initV q (lowL g.inn a))) by rw[a8];exact eQ R u.out.bel.size);have bx:=cQ A;have bz:=cQ hL;have y9:=K3.lt;have b3:=l.bel.size;clear HX aY l a8 R S A hL KB aZ a1 aq ad ae d u az aW an ao aB K3 y1 y2 Y I y5 s2 s3 c0 c1 c5 m0;go_wp2_with fail
   go_region_law
    ((refine step_append_lies _ (by rfl) _ _ _ (by rfl) C.w0.heap.size 77 i0 _ 3 40 underlying65 bq br bs aG rfl (by omega) _ L (stCells C X.x.st X.ps) (by rfl) (cKy bt.out) ⟨wr.heap.size,0,none⟩ 1 1 [.pointer (some ⟨C.zf,C.of_+i*5,none⟩),.int .i64 0,.slice (some ⟨b.heap.size,0,none⟩) P P] (by rfl) (by rfl) (World.news_of_block (cs:=#[.pointer (some ⟨C.zf,C.of_+i*5,none⟩),.int .i64 0,.slice (some ⟨b.heap.size,0,none⟩) P P]) (t:=77) (fr:=(0,0)) (Blk.newAt _ _ _ (by simp))) (cJn C ⟨i,q,0,[]⟩ (some ⟨b.heap.size,0,none⟩) P P) (by omega) (by unfold maxLen;omega) (by omega) (by simp;omega) (wr.heap.size+1) (by simp) ?_;intro gg cap w5 ar hgrow bA bB;have b4:w5.cell? ⟨C.cb,12,none⟩=some X.sv:=(aH.out.grown (vW hgrow) aI.out).cell 12;have f12:=frz (aH.out.grown (vW hgrow) aI.out) 12;have b5:=(aH.out.grown (vW hgrow) aI.out).lt;have km:w5.cell? ⟨C.mm,0,none⟩=some (.pointer (some ⟨C.cb,0,none⟩)):=(a7.out.grown (vW hgrow) a6.out).cell 0;have b6:=(a7.out.grown (vW hgrow) a6.out).lt))
   all_goals
    go_end0;exact cXx (f:=⟨i,q,0,initV q (lowL g.inn a)⟩) bu.out aJ.out bx.out bz.out bw.out ar hgrow bA
end Go.Proofs.YtabibkpfgmolkaaDoor

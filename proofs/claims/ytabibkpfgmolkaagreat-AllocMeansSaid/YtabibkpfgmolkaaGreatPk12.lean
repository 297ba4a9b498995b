/- Lemmas for the claim, part 12. Conditions: none. -/
import Derived.Test.YtabibkpfgmolkaaGreatPk05
import Derived.Test.YtabibkpfgmolkaaGreatPk11
import Derived.Deep.AppendLies
import Derived.Laws.CopyOwn
import Derived.RangeFuncBound
import Derived.RangeFuncNested
set_option maxRecDepth 100000
set_option maxHeartbeats 16000000
set_option linter.unusedVariables false
set_option linter.unusedSimpArgs false
open Go.Lib renaming hid→fQ
open Go.Proofs.Tryz renaming prog→fZ
open Go.Proofs.Tryz
open Go.RowKit
open List renaming replicate→Aj,getElem?_eq_getElem→Ax,length_replicate→Az,take_succ_eq_append_getElem→Ak,mem_of_getElem?→Av,getElem?_replicate→Ay,take_of_length_le→AJ,getElem?_append_left→AX,length_set→Aa,getElem?_append_right→Ab,mem_of_find?_eq_some→Ad,eq_of_mem_replicate→Ae,length_take→Ag,getElem?_toArray→Ah,append_toArray→Bz,range→Bk,getElem?_map→Bv,size_toArray→Bw,push_toArray→By,getElem_set→BJ,getElem_mem→BQ,length_cons→BZ,cons_append→BK,find?_some→BV,range_succ→BW,length_nil→Ba,nil_append→Bb,map_append→Bc,map_set→Bf
open Nat renaming le_refl→Aq,le_of_eq→AQ,min_le_right→BX,min_le_left→BY,reduceAdd→Bd,reduceSub→Be,min→Bg,mul_one→Bh
open Go.RowKit.Below renaming refl→Aw,drew→AZ
open Go.World renaming ownsRow_nil→AK,cell?_of_block→Bj
open Int renaming toNat_natCast→AV
open Go.Value renaming int→AW
open Array renaming replicate→AY,replicate_succ→Bq,replicate_zero→Bx
open Bool renaming and_eq_true→Af
open Go renaming World→Bi,Value→Cj,Calls→Cx
open Go.RowKit renaming Below→Cq
namespace Go.Proofs.YtabibkpfgmolkaaGreat
variable {n g i P k b:Nat}{w:Bi}{t:TypeId}{op x:Int}{l:List Int}
theorem dXa{x:Int×Int×Bool×Bool}(h:acc op=some x):40<=op/\op<=62:=by
 unfold acc at h;obtain⟨r,hr,_⟩:=Option.map_eq_some_iff.1 h;have h1:=BV hr;have h2:=Ad hr;have a:∀ r∈aJu,40<=r.1/\r.1<=62:=(by decide);have h4:=a r h2;simp at h1;omega
theorem dXb{g:Int×Int×Int×Int}(h:fY op=some g):69<=op:=by
 unfold fY at h;have h1:=BV h;have h2:=Ad h;have a:∀ r∈tQ,69<=r.1:=(by decide);have h4:=a g h2;unfold inG at h1;simp at h1;omega
theorem yX(h:op<40\/62<op):acc op=none:=by
 cases ha:acc op with
 | none=>rfl
 | some x=>have:=dXa ha;omega
theorem bYl:∀ op ∈ [(256:Int),257,258],(fY op).isSome=false:=by decide
theorem dXc{e:EnvD}{s:SigD}(h1:op≠256)(h2:op<272\/277<op)(a:op≠258)(b:op≠27)(c:op≠16)(d:op≠35)(f:op≠36)(hg:(fY op).isSome=false):iX e s op n=nZ e.mem op n:=by
 unfold iX;simp only[show op≠272 by omega,show op≠273 by omega,show op≠274 by omega,show op≠275 by omega,show op≠276 by omega,show op≠277 by omega,h1,a,b,c,d,f,hg,if_false,or_self,Bool.false_eq_true]
theorem dXd(e:EnvD)(s:SigD)(a:Cj)(op:Int)(n:Nat)(hn:n<18446744073709551616)(w:Bi)(he:EnvV w a e)(t:e.muts.length=e.globals.length)(d:op≠256)(m:op≠27)(hr:op<272\/277<op):
  Cx fZ 96 #[a,.agg #[.int .i64 op,.int .u64 (n:Int),.slice none 0 0,.slice none 0 0],.int .i64 0] w (FmP (iX e s op n) w):=by
 by_cases c:op=258
 ·have h:=cKm e s a op n hn w he c (by rw[c];exact bYl 258 (by simp)) (yX (by omega));subst c;exact h
 cases hg:(fY op).isSome with
 | true=>
  obtain⟨g,u⟩:=Option.isSome_iff_exists.1 hg;have an:=dXb u;have h:=dQy e s a op n hn w he d c hg (yX (by omega))
  have b:iX e s op n=if n=0 then some (gJ op,[kW op])else none:=by
   unfold iX;simp only[show op≠272 by omega,show op≠273 by omega,show op≠274 by omega,show op≠275 by omega,show op≠276 by omega,show op≠277 by omega,d,c,m,show op≠16 by omega,show op≠35 by omega,show op≠36 by omega,hg,if_false,or_self,if_true]
  rw[b];exact h
 | false=>
  by_cases f:op=35
  ·have h:=dVs e s a op n hn w he f hg (yX (by omega)) t;subst f;exact h
  by_cases i:op=36
  ·have h:=dVt e s a op n hn w he i hg (yX (by omega)) t;subst i;exact h
  by_cases j:op=16
  ·have h:=dVu e s a op n hn w he j hg (yX (by omega));subst j;exact h
  rw[dXc d hr c m j f i hg]
  cases l:e.mem with
  | false=>
   have b:nZ false op n=none:=(by simp[nZ]);rw[b]
   cases ha:acc op with
   | none=>exact bVt e s a op n hn w he d c m f i j hg l ha
   | some x=>
    obtain⟨k,wd,st,p⟩:=x;exact bVu e s a op n hn w he d c m f i j hg l k wd st p ha
  | true=>
   by_cases o:op=257
   ·have h:=dQz e s a op n hn w he o hg l (yX (by omega));have b:nZ true op n=if n<=8589934592 then some ([127],[])else none:=(by simp[nZ,o]);rw[b];exact h
   cases ha:acc op with
   | some x=>
    obtain⟨k,wd,st,p⟩:=x;have b:nZ true op n=if n<=4294967295 then some (if st then([127,k],[])else([127],[k]))else none:=(by simp[nZ,o,ha]);rw[b]
    cases st with
    | true=>exact bJn e s a op n hn w he d c m f i j o hg l k wd p ha
    | false=>exact bZe e s a op n hn w he d c m f i j o hg l k wd p ha
   | none=>
    by_cases q:op=63
    ·have h:=dVv e s a op n hn w he q hg l ha;have b:nZ true op n=if n=0 then some ([],[127])else none:=(by subst q;simp[nZ,ha]);rw[b];exact h
    by_cases r:op=64
    ·have h:=dVw e s a op n hn w he r hg l ha;have b:nZ true op n=if n=0 then some ([127],[127])else none:=(by subst r;simp[nZ,ha]);rw[b];exact h
    have b:nZ true op n=none:=(by simp[nZ,o,ha,q,r]);rw[b];exact cKn e s a op n hn w he d c m f i j o q r hg l ha
theorem dXe(e:EnvD)(s:SigD)(c:CodeD)(g vs h:Cj)(w:Bi)(he:EnvV w g e)(hs:SigV w vs s)(hc:CodeV w h c)(i:e.muts.length=e.globals.length)(j:c.op=272):
  Cx fZ 68 #[g,vs,h] w (FmP (if c.n=0 then some ([0],[0])else none) w):=by
 have HE:=fQ he;obtain⟨va,vb,vd,rfl,h1,h2,o⟩:=he;obtain⟨r,cs,rfl,_⟩:=h1.len;obtain⟨t,cg,rfl⟩:=h2.shape;obtain⟨u,v,rfl,_⟩:=o;obtain⟨p,q,rfl,k,d⟩:=hs;obtain⟨x,cp,rfl⟩:=k.shape;obtain⟨y,z,rfl⟩:=d.shape;have HO:=fQ d.ir;obtain⟨p,q,tt,rfl,l,s1,s2,s3⟩:=hc;obtain⟨A,B,rfl⟩:=s1.shape;obtain⟨C,D,rfl⟩:=s2.shape;obtain⟨E,tc,rfl⟩:=s3.shape;have an:=fQ l;have ao:=fQ i;have B0:=fQ (al3 w (.cells #[.slice r e.sigs.length cs,.int .i64 e.imports,.slice t e.globals.length cg,.slice u e.muts.length v,.bool e.mem] 26) (.cells #[.slice x s.inn.length cp,.slice y s.out.length z] 40) (.cells #[.int .i64 c.op,.int .u64 (c.n:Int),.slice A c.args.length B,.slice C c.outs.length D,.slice E c.to.length tc] 52));clear h1 h2 k d s1 s2 s3 l i;have af:(c.op == 272)=true:=(by simp[j]);have ag:(c.op == 273)=false:=(by simp;omega);have ah:(c.op == 277)=false:=(by simp;omega);have ai:(c.op == 274)=false:=(by simp;omega);have aj:(c.op == 275)=false:=(by simp;omega);have ak:(c.op == 276)=false:=(by simp;omega);have aq:(c.op == 27)=false:=(by simp;omega);have al:(c.op == 256)=false:=(by simp;omega);clear j;obtain⟨FF,f⟩:∃ F:Option (List Int×List Int),(if c.n=0 then some ([0],[0])else none)=F:=⟨_,rfl⟩;rw[f];have m:=fQ f;clear f;go_in;by_cases a:c.n=0
 ·have G:=aJh a;have b:=fQ (m.out.symm.trans (if_pos a));clear a;go_wp2_with fail;go_region
  all_goals
   go_wp2;go_ret3
   first
    | (refine FmP.yes b.out (IR.drew (IR.one (Blk.alloc (Blk.newAt _ _ _ ?_) _))) (IR.drew (IR.one (Blk.newAt _ _ _ ?_))) (AZ ((B0.out.alloc B0.out.size _).alloc ?_ _)) <;> ((try simp);(try omega);done))
    | (refine FmP.yes b.out (IR.drew (IR.one (Blk.newAt _ _ _ ?_))) (IR.drew (IR.one (Blk.alloc (Blk.newAt _ _ _ ?_) _))) (AZ ((B0.out.alloc B0.out.size _).alloc ?_ _)) <;> ((try simp);(try omega);done))
 ·have G:=aJi a;have b:=fQ (m.out.symm.trans (if_neg a));clear a;go_wp2_with fail;go_region
  all_goals
   go_wp2;go_ret3
   first
    | (refine FmP.no b.out (IR.drew (IR.one (Blk.alloc (Blk.newAt _ _ _ ?_) _))) (IR.drew (IR.one (Blk.newAt _ _ _ ?_))) (AZ ((B0.out.alloc B0.out.size _).alloc ?_ _)) <;> ((try simp);(try omega);done))
    | (refine FmP.no b.out (IR.drew (IR.one (Blk.newAt _ _ _ ?_))) (IR.drew (IR.one (Blk.alloc (Blk.newAt _ _ _ ?_) _))) (AZ ((B0.out.alloc B0.out.size _).alloc ?_ _)) <;> ((try simp);(try omega);done))
theorem dXf(e:EnvD)(s:SigD)(c:CodeD)(g vs h:Cj)(w:Bi)(he:EnvV w g e)(hs:SigV w vs s)(hc:CodeV w h c)(i:e.muts.length=e.globals.length)(j:c.op=273):
  Cx fZ 68 #[g,vs,h] w (FmP (if c.n=0 then some ([],[])else none) w):=by
 have HE:=fQ he;obtain⟨va,vb,vd,rfl,h1,h2,o⟩:=he;obtain⟨r,cs,rfl,_⟩:=h1.len;obtain⟨t,cg,rfl⟩:=h2.shape;obtain⟨u,v,rfl,_⟩:=o;obtain⟨p,q,rfl,k,b⟩:=hs;obtain⟨x,cp,rfl⟩:=k.shape;obtain⟨y,z,rfl⟩:=b.shape;have HO:=fQ b.ir;obtain⟨p,q,tt,rfl,l,s1,s2,s3⟩:=hc;obtain⟨A,B,rfl⟩:=s1.shape;obtain⟨C,D,rfl⟩:=s2.shape;obtain⟨E,tc,rfl⟩:=s3.shape;have an:=fQ l;have ao:=fQ i;have B0:=fQ (al3 w (.cells #[.slice r e.sigs.length cs,.int .i64 e.imports,.slice t e.globals.length cg,.slice u e.muts.length v,.bool e.mem] 26) (.cells #[.slice x s.inn.length cp,.slice y s.out.length z] 40) (.cells #[.int .i64 c.op,.int .u64 (c.n:Int),.slice A c.args.length B,.slice C c.outs.length D,.slice E c.to.length tc] 52));clear h1 h2 k b s1 s2 s3 l i;have af:(c.op == 272)=false:=(by simp;omega);have ag:(c.op == 273)=true:=(by simp[j]);have ah:(c.op == 277)=false:=(by simp;omega);have ai:(c.op == 274)=false:=(by simp;omega);have aj:(c.op == 275)=false:=(by simp;omega);have ak:(c.op == 276)=false:=(by simp;omega);have aq:(c.op == 27)=false:=(by simp;omega);have al:(c.op == 256)=false:=(by simp;omega);clear j;obtain⟨FF,d⟩:∃ F:Option (List Int×List Int),(if c.n=0 then some ([],[])else none)=F:=⟨_,rfl⟩;rw[d];have m:=fQ d;clear d;go_in;by_cases a:c.n=0
 ·have G:=aJh a;have f:=fQ (m.out.symm.trans (if_pos a));clear a;go_wp2_with fail;go_quiet (fail)
  all_goals
   go_wp2;go_ret3;exact FmP.yes f.out (IR.nil _) (IR.nil _) (fK B0.out _)
 ·have G:=aJi a;have f:=fQ (m.out.symm.trans (if_neg a));clear a;go_wp2_with fail;go_quiet (fail)
  all_goals
   go_wp2;go_ret3;exact FmP.no f.out (IR.nil _) (IR.nil _) (fK B0.out _)
theorem dXg(e:EnvD)(s:SigD)(c:CodeD)(g vs h:Cj)(w:Bi)(he:EnvV w g e)(hs:SigV w vs s)(hc:CodeV w h c)(i:e.muts.length=e.globals.length)(j:c.op=277):
  Cx fZ 68 #[g,vs,h] w (FmP (if c.n=0 then some ([],[])else none) w):=by
 have HE:=fQ he;obtain⟨va,vb,vd,rfl,h1,h2,o⟩:=he;obtain⟨r,cs,rfl,_⟩:=h1.len;obtain⟨t,cg,rfl⟩:=h2.shape;obtain⟨u,v,rfl,_⟩:=o;obtain⟨p,q,rfl,k,b⟩:=hs;obtain⟨x,cp,rfl⟩:=k.shape;obtain⟨y,z,rfl⟩:=b.shape;have HO:=fQ b.ir;obtain⟨p,q,tt,rfl,l,s1,s2,s3⟩:=hc;obtain⟨A,B,rfl⟩:=s1.shape;obtain⟨C,D,rfl⟩:=s2.shape;obtain⟨E,tc,rfl⟩:=s3.shape;have an:=fQ l;have ao:=fQ i;have B0:=fQ (al3 w (.cells #[.slice r e.sigs.length cs,.int .i64 e.imports,.slice t e.globals.length cg,.slice u e.muts.length v,.bool e.mem] 26) (.cells #[.slice x s.inn.length cp,.slice y s.out.length z] 40) (.cells #[.int .i64 c.op,.int .u64 (c.n:Int),.slice A c.args.length B,.slice C c.outs.length D,.slice E c.to.length tc] 52));clear h1 h2 k b s1 s2 s3 l i;have af:(c.op == 272)=false:=(by simp;omega);have ag:(c.op == 273)=false:=(by simp;omega);have ah:(c.op == 277)=true:=(by simp[j]);have ai:(c.op == 274)=false:=(by simp;omega);have aj:(c.op == 275)=false:=(by simp;omega);have ak:(c.op == 276)=false:=(by simp;omega);have aq:(c.op == 27)=false:=(by simp;omega);have al:(c.op == 256)=false:=(by simp;omega);clear j;obtain⟨FF,d⟩:∃ F:Option (List Int×List Int),(if c.n=0 then some ([],[])else none)=F:=⟨_,rfl⟩;rw[d];have m:=fQ d;clear d;go_in;by_cases a:c.n=0
 ·have G:=aJh a;have f:=fQ (m.out.symm.trans (if_pos a));clear a;go_wp2_with fail;go_quiet (fail)
  all_goals
   go_wp2;go_ret3;exact FmP.yes f.out (IR.nil _) (IR.nil _) (fK B0.out _)
 ·have G:=aJi a;have f:=fQ (m.out.symm.trans (if_neg a));clear a;go_wp2_with fail;go_quiet (fail)
  all_goals
   go_wp2;go_ret3;exact FmP.no f.out (IR.nil _) (IR.nil _) (fK B0.out _)
theorem dXh(e:EnvD)(s:SigD)(c:CodeD)(g vs h:Cj)(w:Bi)(he:EnvV w g e)(hs:SigV w vs s)(hc:CodeV w h c)(i:e.muts.length=e.globals.length)(j:c.op=274):
  Cx fZ 68 #[g,vs,h] w (FmP (if c.n=0 then some ([127],[])else none) w):=by
 have HE:=fQ he;obtain⟨va,vb,vd,rfl,h1,h2,o⟩:=he;obtain⟨r,cs,rfl,_⟩:=h1.len;obtain⟨t,cg,rfl⟩:=h2.shape;obtain⟨u,v,rfl,_⟩:=o;obtain⟨p,q,rfl,k,b⟩:=hs;obtain⟨x,cp,rfl⟩:=k.shape;obtain⟨y,z,rfl⟩:=b.shape;have HO:=fQ b.ir;obtain⟨p,q,tt,rfl,l,s1,s2,s3⟩:=hc;obtain⟨A,B,rfl⟩:=s1.shape;obtain⟨C,D,rfl⟩:=s2.shape;obtain⟨E,tc,rfl⟩:=s3.shape;have an:=fQ l;have ao:=fQ i;have B0:=fQ (al3 w (.cells #[.slice r e.sigs.length cs,.int .i64 e.imports,.slice t e.globals.length cg,.slice u e.muts.length v,.bool e.mem] 26) (.cells #[.slice x s.inn.length cp,.slice y s.out.length z] 40) (.cells #[.int .i64 c.op,.int .u64 (c.n:Int),.slice A c.args.length B,.slice C c.outs.length D,.slice E c.to.length tc] 52));clear h1 h2 k b s1 s2 s3 l i;have af:(c.op == 272)=false:=(by simp;omega);have ag:(c.op == 273)=false:=(by simp;omega);have ah:(c.op == 277)=false:=(by simp;omega);have ai:(c.op == 274)=true:=(by simp[j]);have aj:(c.op == 275)=false:=(by simp;omega);have ak:(c.op == 276)=false:=(by simp;omega);have aq:(c.op == 27)=false:=(by simp;omega);have al:(c.op == 256)=false:=(by simp;omega);clear j;obtain⟨FF,d⟩:∃ F:Option (List Int×List Int),(if c.n=0 then some ([127],[])else none)=F:=⟨_,rfl⟩;rw[d];have m:=fQ d;clear d;go_in;by_cases a:c.n=0
 ·have G:=aJh a;have f:=fQ (m.out.symm.trans (if_pos a));clear a;go_wp2_with fail;go_region
  all_goals
   go_wp2;go_ret3;exact FmP.yes f.out ((IR.one (Blk.newAt _ _ _ (by simp))).drew) (IR.nil _) ((B0.out.alloc B0.out.size _).drew)
 ·have G:=aJi a;have f:=fQ (m.out.symm.trans (if_neg a));clear a;go_wp2_with fail;go_region
  all_goals
   go_wp2;go_ret3;exact FmP.no f.out ((IR.one (Blk.newAt _ _ _ (by simp))).drew) (IR.nil _) ((B0.out.alloc B0.out.size _).drew)
theorem dXi(e:EnvD)(s:SigD)(c:CodeD)(g vs h:Cj)(w:Bi)(he:EnvV w g e)(hs:SigV w vs s)(hc:CodeV w h c)(i:e.muts.length=e.globals.length)(j:c.op=275):
  Cx fZ 68 #[g,vs,h] w (FmP (if c.n=0 then some ([127],[])else none) w):=by
 have HE:=fQ he;obtain⟨va,vb,vd,rfl,h1,h2,o⟩:=he;obtain⟨r,cs,rfl,_⟩:=h1.len;obtain⟨t,cg,rfl⟩:=h2.shape;obtain⟨u,v,rfl,_⟩:=o;obtain⟨p,q,rfl,k,b⟩:=hs;obtain⟨x,cp,rfl⟩:=k.shape;obtain⟨y,z,rfl⟩:=b.shape;have HO:=fQ b.ir;obtain⟨p,q,tt,rfl,l,s1,s2,s3⟩:=hc;obtain⟨A,B,rfl⟩:=s1.shape;obtain⟨C,D,rfl⟩:=s2.shape;obtain⟨E,tc,rfl⟩:=s3.shape;have an:=fQ l;have ao:=fQ i;have B0:=fQ (al3 w (.cells #[.slice r e.sigs.length cs,.int .i64 e.imports,.slice t e.globals.length cg,.slice u e.muts.length v,.bool e.mem] 26) (.cells #[.slice x s.inn.length cp,.slice y s.out.length z] 40) (.cells #[.int .i64 c.op,.int .u64 (c.n:Int),.slice A c.args.length B,.slice C c.outs.length D,.slice E c.to.length tc] 52));clear h1 h2 k b s1 s2 s3 l i;have af:(c.op == 272)=false:=(by simp;omega);have ag:(c.op == 273)=false:=(by simp;omega);have ah:(c.op == 277)=false:=(by simp;omega);have ai:(c.op == 274)=false:=(by simp;omega);have aj:(c.op == 275)=true:=(by simp[j]);have ak:(c.op == 276)=false:=(by simp;omega);have aq:(c.op == 27)=false:=(by simp;omega);have al:(c.op == 256)=false:=(by simp;omega);clear j;obtain⟨FF,d⟩:∃ F:Option (List Int×List Int),(if c.n=0 then some ([127],[])else none)=F:=⟨_,rfl⟩;rw[d];have m:=fQ d;clear d;go_in;by_cases a:c.n=0
 ·have G:=aJh a;have f:=fQ (m.out.symm.trans (if_pos a));clear a;go_wp2_with fail;go_region
  all_goals
   go_wp2;go_ret3;exact FmP.yes f.out ((IR.one (Blk.newAt _ _ _ (by simp))).drew) (IR.nil _) ((B0.out.alloc B0.out.size _).drew)
 ·have G:=aJi a;have f:=fQ (m.out.symm.trans (if_neg a));clear a;go_wp2_with fail;go_region
  all_goals
   go_wp2;go_ret3;exact FmP.no f.out ((IR.one (Blk.newAt _ _ _ (by simp))).drew) (IR.nil _) ((B0.out.alloc B0.out.size _).drew)
theorem dXj(e:EnvD)(s:SigD)(c:CodeD)(g vs h:Cj)(w:Bi)(he:EnvV w g e)(hs:SigV w vs s)(hc:CodeV w h c)(i:e.muts.length=e.globals.length)(j:c.op=276):
  Cx fZ 68 #[g,vs,h] w (FmP (if c.n=0 then some (s.out,[])else none) w):=by
 have HE:=fQ he;obtain⟨va,vb,vd,rfl,h1,h2,r⟩:=he;obtain⟨t,cs,rfl,_⟩:=h1.len;obtain⟨u,cg,rfl⟩:=h2.shape;obtain⟨v,x,rfl,_⟩:=r;obtain⟨p,q,rfl,k,b⟩:=hs;obtain⟨y,cp,rfl⟩:=k.shape;obtain⟨z,A,rfl⟩:=b.shape;have l:=fQ b.ir;obtain⟨p,q,tt,rfl,m,s1,s2,s3⟩:=hc;obtain⟨B,C,rfl⟩:=s1.shape;obtain⟨D,E,rfl⟩:=s2.shape;obtain⟨G,tc,rfl⟩:=s3.shape;have an:=fQ m;have ao:=fQ i;have B0:=fQ (al3 w (.cells #[.slice t e.sigs.length cs,.int .i64 e.imports,.slice u e.globals.length cg,.slice v e.muts.length x,.bool e.mem] 26) (.cells #[.slice y s.inn.length cp,.slice z s.out.length A] 40) (.cells #[.int .i64 c.op,.int .u64 (c.n:Int),.slice B c.args.length C,.slice D c.outs.length E,.slice G c.to.length tc] 52));clear h1 h2 k b s1 s2 s3 m i;have af:(c.op == 272)=false:=(by simp;omega);have ag:(c.op == 273)=false:=(by simp;omega);have ah:(c.op == 277)=false:=(by simp;omega);have ai:(c.op == 274)=false:=(by simp;omega);have aj:(c.op == 275)=false:=(by simp;omega);have ak:(c.op == 276)=true:=(by simp[j]);have aq:(c.op == 27)=false:=(by simp;omega);have al:(c.op == 256)=false:=(by simp;omega);clear j;obtain⟨FF,d⟩:∃ F:Option (List Int×List Int),(if c.n=0 then some (s.out,[])else none)=F:=⟨_,rfl⟩;rw[d];have o:=fQ d;clear d;go_in;by_cases a:c.n=0
 ·have H:=aJh a;have f:=fQ (o.out.symm.trans (if_pos a));clear a;go_wp2_with fail;go_quiet (fail)
  all_goals
   go_wp2;go_ret3;exact FmP.yes f.out ((l.out.below B0.out (Aq _)).drewN _) (IR.nil _) (fK B0.out _)
 ·have H:=aJi a;have f:=fQ (o.out.symm.trans (if_neg a));clear a;go_wp2_with fail;go_quiet (fail)
  all_goals
   go_wp2;go_ret3;exact FmP.no f.out ((l.out.below B0.out (Aq _)).drewN _) (IR.nil _) (fK B0.out _)
theorem dVx(e:EnvD)(s:SigD)(c:CodeD)(g vs h:Cj)(w:Bi)(he:EnvV w g e)(hs:SigV w vs s)(hc:CodeV w h c)(i:e.muts.length=e.globals.length)(j:c.op=27):
  Cx fZ 68 #[g,vs,h] w (FmP (if c.n=0 then some ([0,0,127],[0])else none) w):=by
 have HE:=fQ he;obtain⟨va,vb,vd,rfl,h1,h2,o⟩:=he;obtain⟨r,cs,rfl,_⟩:=h1.len;obtain⟨t,cg,rfl⟩:=h2.shape;obtain⟨u,v,rfl,_⟩:=o;obtain⟨p,q,rfl,k,d⟩:=hs;obtain⟨x,cp,rfl⟩:=k.shape;obtain⟨y,z,rfl⟩:=d.shape;have HO:=fQ d.ir;obtain⟨p,q,tt,rfl,l,s1,s2,s3⟩:=hc;obtain⟨A,B,rfl⟩:=s1.shape;obtain⟨C,D,rfl⟩:=s2.shape;obtain⟨E,tc,rfl⟩:=s3.shape;have an:=fQ l;have ao:=fQ i;have B0:=fQ (al3 w (.cells #[.slice r e.sigs.length cs,.int .i64 e.imports,.slice t e.globals.length cg,.slice u e.muts.length v,.bool e.mem] 26) (.cells #[.slice x s.inn.length cp,.slice y s.out.length z] 40) (.cells #[.int .i64 c.op,.int .u64 (c.n:Int),.slice A c.args.length B,.slice C c.outs.length D,.slice E c.to.length tc] 52));clear h1 h2 k d s1 s2 s3 l i;have af:(c.op == 272)=false:=(by simp;omega);have ag:(c.op == 273)=false:=(by simp;omega);have ah:(c.op == 277)=false:=(by simp;omega);have ai:(c.op == 274)=false:=(by simp;omega);have aj:(c.op == 275)=false:=(by simp;omega);have ak:(c.op == 276)=false:=(by simp;omega);have aq:(c.op == 27)=true:=(by simp[j]);have al:(c.op == 256)=false:=(by simp;omega);clear j;obtain⟨FF,f⟩:∃ F:Option (List Int×List Int),(if c.n=0 then some ([0,0,127],[0])else none)=F:=⟨_,rfl⟩;rw[f];have m:=fQ f;clear f;go_in;by_cases a:c.n=0
 ·have G:=aJh a;have b:=fQ (m.out.symm.trans (if_pos a));clear a;go_wp2_with fail;go_region
  all_goals
   go_wp2;go_ret3
   first
    | (refine FmP.yes b.out (IR.drew (IR.three (Blk.alloc (Blk.newAt _ _ _ ?_) _))) (IR.drew (IR.one (Blk.newAt _ _ _ ?_))) (AZ ((B0.out.alloc B0.out.size _).alloc ?_ _)) <;> ((try simp);(try omega);done))
    | (refine FmP.yes b.out (IR.drew (IR.three (Blk.newAt _ _ _ ?_))) (IR.drew (IR.one (Blk.alloc (Blk.newAt _ _ _ ?_) _))) (AZ ((B0.out.alloc B0.out.size _).alloc ?_ _)) <;> ((try simp);(try omega);done))
 ·have G:=aJi a;have b:=fQ (m.out.symm.trans (if_neg a));clear a;go_wp2_with fail;go_region
  all_goals
   go_wp2;go_ret3
   first
    | (refine FmP.no b.out (IR.drew (IR.three (Blk.alloc (Blk.newAt _ _ _ ?_) _))) (IR.drew (IR.one (Blk.newAt _ _ _ ?_))) (AZ ((B0.out.alloc B0.out.size _).alloc ?_ _)) <;> ((try simp);(try omega);done))
    | (refine FmP.no b.out (IR.drew (IR.three (Blk.newAt _ _ _ ?_))) (IR.drew (IR.one (Blk.alloc (Blk.newAt _ _ _ ?_) _))) (AZ ((B0.out.alloc B0.out.size _).alloc ?_ _)) <;> ((try simp);(try omega);done))
theorem dXk(e:EnvD)(s:SigD)(c:CodeD)(d vs f:Cj)(w:Bi)(he:EnvV w d e)(hs:SigV w vs s)(hc:CodeV w f c)(g:e.muts.length=e.globals.length)(h:c.op=256):
  Cx fZ 68 #[d,vs,f] w (FmP (some ([],[0])) w):=by
 have HE:=fQ he;obtain⟨va,vb,vd,rfl,h1,h2,k⟩:=he;obtain⟨l,cs,rfl,_⟩:=h1.len;obtain⟨m,cg,rfl⟩:=h2.shape;obtain⟨o,r,rfl,_⟩:=k;obtain⟨p,q,rfl,i,a⟩:=hs;obtain⟨t,cp,rfl⟩:=i.shape;obtain⟨u,v,rfl⟩:=a.shape;have HO:=fQ a.ir;obtain⟨p,q,tt,rfl,j,s1,s2,s3⟩:=hc;obtain⟨x,y,rfl⟩:=s1.shape;obtain⟨z,A,rfl⟩:=s2.shape;obtain⟨B,tc,rfl⟩:=s3.shape;have an:=fQ j;have ao:=fQ g;have B0:=fQ (al3 w (.cells #[.slice l e.sigs.length cs,.int .i64 e.imports,.slice m e.globals.length cg,.slice o e.muts.length r,.bool e.mem] 26) (.cells #[.slice t s.inn.length cp,.slice u s.out.length v] 40) (.cells #[.int .i64 c.op,.int .u64 (c.n:Int),.slice x c.args.length y,.slice z c.outs.length A,.slice B c.to.length tc] 52));clear h1 h2 i a s1 s2 s3 j g;have ae:(c.op == 272)=false:=(by simp;omega);have af:(c.op == 273)=false:=(by simp;omega);have ag:(c.op == 277)=false:=(by simp;omega);have ah:(c.op == 274)=false:=(by simp;omega);have ai:(c.op == 275)=false:=(by simp;omega);have aj:(c.op == 276)=false:=(by simp;omega);have aq:(c.op == 27)=false:=(by simp;omega);have ak:(c.op == 256)=true:=(by simp[h]);clear h;obtain⟨FF,b⟩:∃ F:Option (List Int×List Int),(some ([],[0]))=F:=⟨_,rfl⟩;rw[b];have C:=fQ b;clear b;go_in;go_wp2;go_ret3;exact FmP.yes C.out.symm (IR.nil _) (IR.one (Blk.newAt _ _ _ (by simp))) (B0.out.alloc B0.out.size _)
theorem dXl(e:EnvD)(s:SigD)(c:CodeD)(h vs j:Cj)(w:Bi)(he:EnvV w h e)(hs:SigV w vs s)(hc:CodeV w j c)(k:e.muts.length=e.globals.length)(l:c.op≠272)(m:c.op≠273)(r:c.op≠277)(t:c.op≠274)(u:c.op≠275)(v:c.op≠276)(a:c.op≠27)(b:c.op≠256):
  Cx fZ 68 #[h,vs,j] w (FmP (iX e s c.op c.n) w):=by
 have D:=fQ he;obtain⟨va,vb,vd,rfl,h1,h2,E⟩:=he;obtain⟨G,cs,rfl,_⟩:=h1.len;obtain⟨H,cg,rfl⟩:=h2.shape;obtain⟨I,J,rfl,_⟩:=E;obtain⟨p,q,rfl,x,d⟩:=hs;obtain⟨K,cp,rfl⟩:=x.shape;obtain⟨L,M,rfl⟩:=d.shape;have HO:=fQ d.ir;obtain⟨p,q,tt,rfl,y,s1,s2,s3⟩:=hc;obtain⟨N,O,rfl⟩:=s1.shape;obtain⟨P,Q,rfl⟩:=s2.shape;obtain⟨R,tc,rfl⟩:=s3.shape;have S:=fQ y;have T:=fQ k;have B0:=fQ (al3 w (.cells #[.slice G e.sigs.length cs,.int .i64 e.imports,.slice H e.globals.length cg,.slice I e.muts.length J,.bool e.mem] 26) (.cells #[.slice K s.inn.length cp,.slice L s.out.length M] 40) (.cells #[.int .i64 c.op,.int .u64 (c.n:Int),.slice N c.args.length O,.slice P c.outs.length Q,.slice R c.to.length tc] 52));clear h1 h2 x d s1 s2 s3 y k;have U:=fQ (dXd e s _ c.op c.n S.out.1 _ (D.out.below B0.out (Aq _)) T.out b a (by omega));have au:(c.op == 272)=false:=(by simp[l]);have av:(c.op == 273)=false:=(by simp[m]);have aw:(c.op == 277)=false:=(by simp[r]);have ax:(c.op == 274)=false:=(by simp[t]);have ay:(c.op == 275)=false:=(by simp[u]);have az:(c.op == 276)=false:=(by simp[v]);have aC:(c.op == 27)=false:=(by simp[a]);have aA:(c.op == 256)=false:=(by simp[b]);clear l m r t u v a b;obtain⟨FF,f⟩:∃ F:Option (List Int×List Int),(iX e s c.op c.n)=F:=⟨_,rfl⟩;rw[f];have V:=fQ f;clear f;go_in;go_wp2_with fail;have g:=U.out;rw[V.out]at g;refine g.mono ?_;rintro en w1 ⟨W,vo,ok,i,o,rfl,q1,z,A,B,C⟩;have X:=fQ q1;have Y:=fQ z;have Z:=fQ A;have Q4:=fQ B;have Q5:=fQ (B0.out.trans (C.mono B0.out.size));clear q1 z A B C g;go_wp2;go_ret3;exact⟨W,vo,ok,i,o,rfl,X.out,Y.out,Z.out,Q4.out,Q5.out⟩
theorem bKp(e:EnvD)(s:SigD)(c:CodeD)(a vs b:Cj)(w:Bi)(he:EnvV w a e)(hs:SigV w vs s)(hc:CodeV w b c)(d:e.muts.length=e.globals.length):
  Cx fZ 68 #[a,vs,b] w (FmP (iX e s c.op c.n) w):=by
 by_cases f:c.op=272
 ·have h:=dXe e s c a vs b w he hs hc d f;rw[f];exact h
 by_cases g:c.op=273
 ·have h:=dXf e s c a vs b w he hs hc d g;rw[g];exact h
 by_cases i:c.op=277
 ·have h:=dXg e s c a vs b w he hs hc d i;rw[i];exact h
 by_cases j:c.op=274
 ·have h:=dXh e s c a vs b w he hs hc d j;rw[j];exact h
 by_cases k:c.op=275
 ·have h:=dXi e s c a vs b w he hs hc d k;rw[k];exact h
 by_cases l:c.op=276
 ·have h:=dXj e s c a vs b w he hs hc d l;rw[l];exact h
 by_cases m:c.op=27
 ·have h:=dVx e s c a vs b w he hs hc d m;rw[m];exact h
 by_cases o:c.op=256
 ·have h:=dXk e s c a vs b w he hs hc d o;rw[o];exact h
 exact dXl e s c a vs b w he hs hc d f g i j k l m o
def uJ(c:CodeD):Bool:=if c.op=273\/c.op=274 then decide (c.to.length=1)else if c.op=275 then decide (1<=c.to.length)else decide (c.to.length=0)
theorem dVr{e:EnvD}{r:RowD}{c:CodeD}(he:envOk e=true)(hs:sigOk r.sig=true):codeOk e r c=true ↔
  ((c.args.length<=8/\c.outs.length<=8/\c.to.length<=65)/\∃ i o,iX e r.sig c.op c.n=some (i,o)/\i.length=c.args.length/\o.length=c.outs.length /\
   kJ r.places c.args false=true/\kJ r.places c.outs true=true/\kJ r.code.length c.to false=true/\uJ c=true):=by
 unfold codeOk
 cases hf:iX e r.sig c.op c.n with
 | none=>simp
 | some x=>
  obtain⟨i,o⟩:=x;have hl:=aXy he hs hf;simp only[Af,decide_eq_true_eq,kJ,Bool.not_false,Bool.true_or,Bool.and_true,Bool.not_true,Bool.false_or]
  have p:(sX c.op<=c.to.length/\(c.to.length:Int)<=nJ c.op)↔(c.to.length<=65/\uJ c=true):=by
   unfold sX nJ uJ;by_cases a:c.op=273\/c.op=274
   ·have s:c.op=273\/c.op=274\/c.op=275:=(by omega);rw[if_pos s,if_pos a,if_pos a,decide_eq_true_eq];omega
   ·by_cases b:c.op=275
    ·rw[if_pos (by omega),if_neg a,if_pos b,if_neg a,if_pos b,decide_eq_true_eq];omega
    ·rw[if_neg (by omega),if_neg a,if_neg b,if_neg a,if_neg b,decide_eq_true_eq];omega
  constructor
  ·rintro⟨⟨h1,h2,f,g⟩,h,j,k,l⟩;have d:=p.1 ⟨f,g⟩;exact⟨⟨by omega,by omega,d.1⟩,i,o,rfl,h1.symm,h2.symm,h,⟨j,k⟩,l,d.2⟩
  ·rintro⟨⟨h1,h2,f⟩,i',o',m,g,h,j,⟨k,l⟩,d,t⟩;injection m with m;injection m with u e2;subst u;subst e2;have q:=p.2 ⟨f,t⟩;exact⟨⟨g.symm,h.symm,q.1,q.2⟩,j,k,l,d⟩
def eJz(b:Bool)(w:Bi)(a:Ending)(w':Bi):Prop:=a = .returned (.bool b)/\Cq w.heap.size w w'
theorem dQx(e:EnvD)(r:RowD)(c:CodeD)(i:Nat)(Z t:Cj)(w:Bi)(he:EnvV w Z e)(hr:RowV w t r)(hi:r.code[i]? = some c)(y:envOk e=true)(hS:sigOk r.sig=true)(aC:r.code.length<=4096):
  Cx fZ 40 #[Z,t,.int .i64 (i:Int)] w (eJz (codeOk e r c) w):=by
 have z:=fQ (dVr (c:=c) (r:=r) y hS)
 have ax:=fQ (show e.muts.length=e.globals.length by
  unfold envOk at y;simp only[Af,decide_eq_true_eq]at y
  exact y.1.2.2.2)
 obtain⟨g,al⟩:∃ b,codeOk e r c=b:=⟨_,rfl⟩;rw[al]at z ⊢;have HE:=fQ he;have HR:=fQ hr;obtain⟨Q,vb,R,rfl,h1,h2,h3⟩:=he;obtain⟨vp,vq,t,vs,rfl,S,T,h6,U⟩:=hr;obtain⟨B,cp,rfl⟩:=S.shape;obtain⟨C,D,rfl⟩:=T.shape;obtain⟨Ac,cc,rfl,_⟩:=U.len;have aD:i<r.code.length:=(List.getElem?_eq_some_iff.1 hi).1;have ay:(i:Int)<(r.code.length:Int):=(by omega);obtain⟨A,go,p,q,tt,rfl,aE,g0,g1,g2,g3,g4,s0,s1,s2,s3⟩:=U.code hi;obtain⟨E,F,rfl⟩:=s1.shape;obtain⟨G,H,rfl⟩:=s2.shape;obtain⟨I,tc,rfl⟩:=s3.shape;have aF:A<w.heap.size+1+1:=(by omega);have az:A<w.heap.size+1:=(by omega);have aA:=fQ (show SigV w (.agg #[.slice B r.sig.inn.length cp,.slice C r.sig.out.length D]) r.sig from⟨_,_,rfl,S,T⟩);have aB:=fQ (show CodeV w (.agg #[.int .i64 c.op,.int .u64 (c.n:Int),.slice E c.args.length F,.slice G c.outs.length H,.slice I c.to.length tc]) c from⟨_,_,_,rfl,s0,s1,s2,s3⟩);have HA:=fQ s1.ir;have HO:=fQ s2.ir;have HT:=fQ s3.ir;have m:=fQ (al3 w (.cells #[Q,.int .i64 e.imports,vb,R,.bool e.mem] 26) (.cells #[.slice B r.sig.inn.length cp,.slice C r.sig.out.length D,.int .i64 r.places,t,.slice (some ⟨A,go,none⟩) r.code.length cc] 43) (.cells #[.int .i64 c.op,.int .u64 (c.n:Int),.slice E c.args.length F,.slice G c.outs.length H,.slice I c.to.length tc] 52));clear h1 h2 h3 S T h6 U hi s0 s1 s2 s3 al y hS;go_in
 have no:=fun(h:¬(c.args.length<=8/\c.outs.length<=8/\c.to.length<=65))=>(show g=false by
  cases g with
  | false=>rfl
  | true=>exact absurd (z.out.1 rfl).1 h)
 have J:=fQ no;clear no;by_cases V:c.args.length<=8
 ·have u1:decide ((8:Int)<(c.args.length:Int))=false:=(by simp;omega);have an:decide (8<c.args.length)=false:=(by simp;omega);by_cases k2:c.outs.length<=8
  ·have u2:decide ((8:Int)<(c.outs.length:Int))=false:=(by simp;omega);have ao:decide (8<c.outs.length)=false:=(by simp;omega);by_cases W:c.to.length<=65
   ·have u3:decide ((65:Int)<(c.to.length:Int))=false:=(by simp;omega);have aq:decide (65<c.to.length)=false:=(by simp;omega);go_wp2_with fail;have ar:=fQ (Blk.alloc (Blk.newAt (w.alloc (.cells #[Q,.int .i64 e.imports,vb,R,.bool e.mem] 26)) (N:=w.heap.size+1) 43 #[.slice B r.sig.inn.length cp,.slice C r.sig.out.length D,.int .i64 r.places,t,.slice (some ⟨A,go,none⟩) r.code.length cc] (by simp)) (.cells #[.int .i64 c.op,.int .u64 (c.n:Int),.slice E c.args.length F,.slice G c.outs.length H,.slice I c.to.length tc] 52));have au:=fQ (Blk.newAt ((w.alloc (.cells #[Q,.int .i64 e.imports,vb,R,.bool e.mem] 26)).alloc (.cells #[.slice B r.sig.inn.length cp,.slice C r.sig.out.length D,.int .i64 r.places,t,.slice (some ⟨A,go,none⟩) r.code.length cc] 43)) (N:=w.heap.size+1+1) 52 #[.int .i64 c.op,.int .u64 (c.n:Int),.slice E c.args.length F,.slice G c.outs.length H,.slice I c.to.length tc] (by simp));refine(bKp e r.sig c _ _ _ _ (HE.out.below m.out (Aq _)) (aA.out.below m.out (Aq _)) (aB.out.below m.out (Aq _)) ax.out).mono ?_;rintro X w1 ⟨vi,vo,ok,ii,u,rfl,q1,q2,q3,q4,K⟩;obtain⟨Ai,ci,rfl⟩:=q1.shape;obtain⟨Ao,co,rfl⟩:=q2.shape;have f:=fQ (m.out.trans (K.mono m.out.size));have av:=fQ (ar.out.below K ar.out.lt);have aw:=fQ (au.out.below K au.out.lt);have Q3:=fQ q3;have Q4:=fQ q4;have L:=fQ (show c.args.length<=8/\c.outs.length<=8/\c.to.length<=65 from⟨V,k2,W⟩);clear q1 q2 q3 q4 K u1 an u2 ao u3 aq g0 g1 g2 g3 g4 J
    cases hf:iX e r.sig c.op c.n with
    | none=>
     have Y:=Q3.out hf;subst Y
     have a:=fQ (show g=false by
      cases g with
      | false=>rfl
      | true=>obtain⟨_,_,_,h,_⟩:=z.out.1 rfl;rw[hf]at h;cases h)
     clear hf;go_wp2;go_ret;exact⟨by rw[a.out];rfl,f.out⟩
    | some x=>
     obtain⟨Y,hx⟩:=Q4.out x hf;subst Y;subst hx;have HV:=fQ hf
     have ae:=fQ (show g=true↔(ii.length=c.args.length/\u.length=c.outs.length/\kJ r.places c.args false=true/\kJ r.places c.outs true=true/\kJ r.code.length c.to false=true/\uJ c=true) by
      rw[z.out];constructor
      ·rintro⟨_,i',o',h,h2⟩;rw[hf]at h;injection h with h;injection h with e1 e2;subst e1;subst e2;exact h2
      ·intro h
       exact⟨L.out,ii,u,hf,h⟩)
     clear hf z Q3 Q4
     have v:=fQ (fun(h:¬(ii.length=c.args.length/\u.length=c.outs.length/\kJ r.places c.args false=true/\kJ r.places c.outs true=true/\kJ r.code.length c.to false=true/\uJ c=true))=>(show g=false by
      cases g with
      | false=>rfl
      | true=>exact absurd (ae.out.1 rfl) h))
     obtain⟨c0,c1,c2,c3,c4⟩:=gQ aw.out;obtain⟨r0,r1,r2,r3,r4⟩:=gQ av.out;have y1:=aw.out.lt;have y2:=av.out.lt;by_cases m1:ii.length=c.args.length
     ·have v1:((ii.length:Int) != (c.args.length:Int))=false:=(by simp;omega);have M1:=fQ m1;clear m1;by_cases m2:u.length=c.outs.length
      ·have v2:((u.length:Int) != (c.outs.length:Int))=false:=(by simp;omega);have M2:=fQ m2;clear m2;go_wp2_with fail;refine(aZm false r.places _ c.args _ (HA.out.below f.out (Aq _)) (by have:=L.out;omega)).mono ?_;rintro X w2 ⟨rfl,m2,rfl⟩
       cases M:kJ r.places c.args false with
       | false=>
        have a:=fQ (v.out (fun h=>by have h:=h.2.2.1;rw[M]at h;cases h));clear M;go_wp2;go_ret;exact⟨by rw[a.out];rfl,fK f.out _⟩
       | true=>
        have P2:=fQ M;clear M;go_wp2_with fail;refine(aZm true r.places _ c.outs _ ((HO.out.below f.out (Aq _)).drewN _) (by have:=L.out;omega)).mono ?_;rintro X w3 ⟨rfl,m3,rfl⟩
        cases O:kJ r.places c.outs true with
        | false=>
         have a:=fQ (v.out (fun h=>by have h:=h.2.2.2.1;rw[O]at h;cases h));clear O;go_wp2;go_ret;exact⟨by rw[a.out];rfl,fK f.out _⟩
        | true=>
         have P3:=fQ O;clear O;go_wp2_with fail;refine(aZm false (r.code.length:Int) _ c.to _ ((HT.out.below f.out (Aq _)).drewN _) (by have:=L.out;omega)).mono ?_;rintro X w4 ⟨rfl,m4,rfl⟩
         cases P:kJ (r.code.length:Int) c.to false with
         | false=>
          have a:=fQ (v.out (fun h=>by have h:=h.2.2.2.2.1;rw[P]at h;cases h));clear P;go_wp2;go_ret;exact⟨by rw[a.out];rfl,fK f.out _⟩
         | true=>
          have P4:=fQ P;clear P
          have o:=fQ (show g=uJ c by
           cases ht:uJ c with
           | true=>exact ae.out.2 ⟨M1.out,M2.out,P2.out,P3.out,P4.out,ht⟩
           | false=>exact v.out (fun h=>by have h:=h.2.2.2.2.2;rw[ht]at h;cases h))
          by_cases j:c.op=273
          ·have z1:(c.op == 273)=true:=(by simp[j]);by_cases d:c.to.length=1
           ·have s:((c.to.length:Int) == 1)=true:=beq_iff_eq.2 (by omega);have a:=fQ (show g=true by rw[o.out];simp[uJ,j,d]);clear j d;go_wp2;go_ret;exact⟨by rw[a.out];rfl,fK f.out _⟩
           ·have s:((c.to.length:Int) == 1)=false:=beq_eq_false_iff_ne.2 (by omega);have a:=fQ (show g=false by rw[o.out];simp[uJ,j,d]);clear j d;go_wp2;go_ret;exact⟨by rw[a.out];rfl,fK f.out _⟩
          have z1:(c.op == 273)=false:=(by simp[j]);by_cases k:c.op=274
          ·have z2:(c.op == 274)=true:=(by simp[k]);by_cases d:c.to.length=1
           ·have s:((c.to.length:Int) == 1)=true:=beq_iff_eq.2 (by omega);have a:=fQ (show g=true by rw[o.out];simp[uJ,k,d]);clear j k d;go_wp2;go_ret;exact⟨by rw[a.out];rfl,fK f.out _⟩
           ·have s:((c.to.length:Int) == 1)=false:=beq_eq_false_iff_ne.2 (by omega);have a:=fQ (show g=false by rw[o.out];simp[uJ,k,d]);clear j k d;go_wp2;go_ret;exact⟨by rw[a.out];rfl,fK f.out _⟩
          have z2:(c.op == 274)=false:=(by simp[k]);by_cases l:c.op=275
          ·have z3:(c.op == 275)=true:=(by simp[l]);by_cases d:1<=c.to.length
           ·have s:decide ((1:Int)<=(c.to.length:Int))=true:=decide_eq_true (by omega);have z5:decide (1<=c.to.length)=true:=decide_eq_true (by omega);have z6:decide (0<c.to.length)=true:=decide_eq_true (by omega);have a:=fQ (show g=true by rw[o.out];unfold uJ;rw[if_neg (by omega),if_pos l];exact decide_eq_true d);clear j k l d;go_wp2;go_ret;exact⟨by rw[a.out];rfl,fK f.out _⟩
           ·have s:decide ((1:Int)<=(c.to.length:Int))=false:=decide_eq_false (by omega);have z5:decide (1<=c.to.length)=false:=decide_eq_false (by omega);have z6:decide (0<c.to.length)=false:=decide_eq_false (by omega);have a:=fQ (show g=false by rw[o.out];unfold uJ;rw[if_neg (by omega),if_pos l];exact decide_eq_false d);clear j k l d;go_wp2;go_ret;exact⟨by rw[a.out];rfl,fK f.out _⟩
          have z3:(c.op == 275)=false:=(by simp[l]);by_cases d:c.to.length=0
          ·have s:((c.to.length:Int) == 0)=true:=beq_iff_eq.2 (by omega);have a:=fQ (show g=true by rw[o.out];unfold uJ;rw[if_neg (by omega),if_neg l];exact decide_eq_true d);clear j k l d;go_wp2;go_ret;exact⟨by rw[a.out];rfl,fK f.out _⟩
          ·have s:((c.to.length:Int) == 0)=false:=beq_eq_false_iff_ne.2 (by omega);have a:=fQ (show g=false by rw[o.out];unfold uJ;rw[if_neg (by omega),if_neg l];exact decide_eq_false d);clear j k l d;go_wp2;go_ret;exact⟨by rw[a.out];rfl,fK f.out _⟩
      ·have v2:((u.length:Int) != (c.outs.length:Int))=true:=(by simp;omega);have a:=fQ (v.out (fun h=>m2 h.2.1));clear m2;go_wp2;go_ret;exact⟨by rw[a.out];rfl,f.out⟩
     ·have v1:((ii.length:Int) != (c.args.length:Int))=true:=(by simp;omega);have a:=fQ (v.out (fun h=>m1 h.1));clear m1;go_wp2;go_ret;exact⟨by rw[a.out];rfl,f.out⟩
   ·have u3:decide ((65:Int)<(c.to.length:Int))=true:=(by simp;omega);have aq:decide (65<c.to.length)=true:=(by simp;omega);have a:=fQ (J.out (fun h=>W h.2.2));clear W;go_wp2;go_ret;exact⟨by rw[a.out];rfl,m.out⟩
  ·have u2:decide ((8:Int)<(c.outs.length:Int))=true:=(by simp;omega);have ao:decide (8<c.outs.length)=true:=(by simp;omega);have a:=fQ (J.out (fun h=>k2 h.2.1));clear k2;go_wp2;go_ret;exact⟨by rw[a.out];rfl,m.out⟩
 ·have u1:decide ((8:Int)<(c.args.length:Int))=true:=(by simp;omega);have an:decide (8<c.args.length)=true:=(by simp;omega);have a:=fQ (J.out (fun h=>V h.1));clear V;go_wp2;go_ret;exact⟨by rw[a.out];rfl,m.out⟩
theorem cKo(l:List Bool):(boolsV l).length=l.length:=by simp[boolsV]
theorem dWc(n:Nat)(f:Nat->Bool):(boolsV (tW n f)).length=n:=by rw[cKo,aKa]
theorem bYn{f:Nat->Bool}(h:i<n):(boolsV (tW n f))[i]? = some (.bool (f i)):=by
 unfold boolsV;rw[Bv,aWr h];rfl
def RB(t:TypeId)(w:Bi)(g n:Nat)(f:Nat->Bool):Prop:=Blk w g t (boolsV (tW n f)).toArray
theorem RB.cell{t:TypeId}{w:Bi}{g n i:Nat}{f:Nat->Bool}(h:RB t w g n f)(hi:i<n):w.cell? ⟨g,i,none⟩=some (.bool (f i)):=by
 have:=Blk.cell h i;rw[this,Ah];exact bYn hi
theorem RB.congr{f f':Nat->Bool}(h:RB t w g n f)(he:∀ i,i<n->f i=f' i):RB t w g n f':=by
 unfold RB at h ⊢
 rwa[cXu he]at h
theorem RB.set{f:Nat->Bool}(h:RB t w g n f)(i:Nat)(b:Bool):RB t (w.setCell ⟨g,i,none⟩ (.bool b)) g n (fun j=>if j=i then b else f j):=by
 have:=heap_setCell_same w g i _ t (.bool b) h;unfold RB Blk;rw[this,<-dXp];simp[boolsV,Bf]
theorem RB.new(w:Bi){N:Nat}(b:Bool)(h:w.heap.size=N):RB t (w.alloc (.cells (AY n (.bool b)) t)) N n (fun _=>b):=by
 unfold RB;rw[<-dXq];have e:(boolsV (Aj n b)).toArray=AY n (.bool b):=(by simp[boolsV]);rw[e];exact Blk.newAt w t _ h
theorem RB.keep{w':Bi}{f:Nat->Bool}(h:RB t w g n f)(a:Cq w.heap.size w w'):RB t w' g n f:=Blk.below h a h.lt
theorem RB.src{f:Nat->Bool}(h:RB t w g n f):Src w (some ⟨g,0,none⟩) n (boolsV (tW n f)):=by
 have:=Blk.fQc h (n:=n) (by simp[dWc])
 simpa using this
theorem bYo{A:Option Addr}{f:Nat->Bool}(h:Src w A n (boolsV (tW n f)))(hi:i<n):∃ b o,A=some ⟨b,o,none⟩/\b<w.heap.size/\w.cell? ⟨b,o+i,none⟩=some (.bool (f i)):=by
 obtain⟨b,o,rfl,a⟩:=h.addr (by omega);have:=h.at_ hi;have e:=(List.getElem?_eq_some_iff.1 (bYn (f:=f) hi)).2;rw[e]at this;exact⟨b,o,rfl,a,this⟩
def TB(w:Bi)(v:Cj)(n P:Nat)(T:Nat->Nat->Bool):Prop:=∃ A c vs,v = .slice A n c/\Src w A n vs/\∀ (i:Nat) u,vs[i]? = some u->∃ B k,u = .slice B P k/\Src w B P (boolsV (tW P (T i)))
theorem TB.below{w w':Bi}{B n P:Nat}{v:Cj}{T:Nat->Nat->Bool}(h:TB w v n P T)(a:Cq B w w')(b:w.heap.size<=B):TB w' v n P T:=by
 obtain⟨A,c,vs,e,h1,h2⟩:=h;refine⟨A,c,vs,e,h1.below a b,fun i u d=>?_⟩;obtain⟨C,k,e2,f⟩:=h2 i u d;exact⟨C,k,e2,f.below a b⟩
theorem TB.shape{v:Cj}{T:Nat->Nat->Bool}(h:TB w v n P T):∃ A c,v = .slice A n c:=by
 obtain⟨A,c,vs,e,_⟩:=h;exact⟨A,c,e⟩
theorem TB.row{A:Option Addr}{c:Nat}{T:Nat->Nat->Bool}(h:TB w (.slice A n c) n P T)(hi:i<n):∃ b o C k,A=some ⟨b,o,none⟩/\b<w.heap.size/\w.cell? ⟨b,o+i,none⟩=some (.slice C P k)/\Src w C P (boolsV (tW P (T i))):=by
 obtain⟨A',c',vs,e,h1,h2⟩:=h;injection e with a e2 e3;subst a;obtain⟨b,o,rfl,d⟩:=h1.addr (by omega);have hc:=h1.at_ hi;have f:i<vs.length:=(by rw[h1.1];exact hi);obtain⟨C,k,e,hr⟩:=h2 i _ (Ax f);rw[e]at hc;exact⟨b,o,C,k,rfl,d,hc,hr⟩
theorem dXr{l:List Nat}(h:l.Nodup)(hn:∀ x∈l,x≠g):(l.set i g).Nodup:=by
 rw[List.Nodup,List.pairwise_iff_getElem];intro a b ha c hab;rw[Aa]at ha c;rw[BJ,BJ]
 split
 ·split
  ·omega
  ·intro e;exact hn _ (BQ c) e.symm
 ·split
  ·intro e;exact hn _ (BQ ha) e
  ·exact List.pairwise_iff_getElem.1 h a b ha c hab
def rowsV(gs:List Nat)(P:Nat):List Cj:=gs.map fun g=>.slice (some ⟨g,0,none⟩) P P
theorem dXs(gs:List Nat)(P:Nat):(rowsV gs P).length=gs.length:=by simp[rowsV]
theorem bKq{gs:List Nat}(h:gs[i]? = some g):(rowsV gs P)[i]? = some (.slice (some ⟨g,0,none⟩) P P):=by simp[rowsV,h]
structure TM (w:Bi) (base:Nat) (v:Cj) (n P:Nat) (T:Nat->Nat->Bool) (gs:List Nat):Prop where
 own:w.ownsRow base 24 1 v n (rowsV gs P)
 len:gs.length=n
 nd:gs.Nodup
 rows:∀ (i g:Nat),gs[i]? = some g->base<=g/\RB 4 w g P (T i)
section
variable {w w':Bi} {base n P:Nat} {v:Cj} {T:Nat->Nat->Bool} {gs:List Nat}
theorem TM.nil(w:Bi)(base P:Nat)(T:Nat->Nat->Bool):TM w base (.slice none 0 0) 0 P T []:=
 ⟨AK _ _ _ _,rfl,by simp,fun i g h=>by simp at h⟩
theorem TM.below(h:TM w base v n P T gs)(a:Cq w.heap.size w w'):TM w' base v n P T gs:=
 ⟨nK h.own a (Aq _),h.len,h.nd,fun i g hg=>⟨(h.rows i g hg).1,(h.rows i g hg).2.keep a⟩⟩
theorem TM.alloc(h:TM w base v n P T gs)(o:Obj):TM (w.alloc o) base v n P T gs:=h.below ((Aw _ _).alloc (Aq _) _)
theorem TM.drew(h:TM w base v n P T gs):TM w.drew base v n P T gs:=⟨h.own,h.len,h.nd,h.rows⟩
theorem TM.drewN(h:TM w base v n P T gs)(k:Nat):TM (w.drewN k) base v n P T gs:=⟨h.own,h.len,h.nd,h.rows⟩
theorem TM.congr{T':Nat->Nat->Bool}(h:TM w base v n P T gs)(he:∀ i p,i<n->p<P->T i p=T' i p):TM w base v n P T' gs:=
 ⟨h.own,h.len,h.nd,fun i g hg=>⟨(h.rows i g hg).1,(h.rows i g hg).2.congr fun p hp=>he i p (by rw[<-h.len];exact(List.getElem?_eq_some_iff.1 hg).1) hp⟩⟩
theorem TM.shape(h:TM w base v n P T gs):∃ A c,v = .slice A n c:=by
 obtain⟨A,c,e,_⟩:=fW h.own;exact⟨A,c,e⟩
theorem TM.tb(h:TM w base v n P T gs):TB w v n P T:=by
 obtain⟨A,c,e,_⟩:=fW h.own;subst e;refine⟨A,c,rowsV gs P,rfl,Src.fQj h.own,fun i u a=>?_⟩;have hi:i<gs.length:=(by rw[<-dXs gs P];exact(List.getElem?_eq_some_iff.1 a).1);have hg:=Ax hi;rw[bKq hg]at a;injection a with a;subst a;exact⟨_,_,rfl,(h.rows i _ hg).2.src⟩
theorem TM.at_(h:TM w base v n P T gs)(hn:0<n):∃ a c,v = .slice (some ⟨a,0,none⟩) n c/\base<=a/\a<w.heap.size/\(∀ i,w.frozen? ⟨a,i,none⟩=false)/\(∀ i g,gs[i]? = some g->w.cell? ⟨a,i,none⟩=some (.slice (some ⟨g,0,none⟩) P P))/\(∀ g∈gs,g≠a):=by
 obtain⟨a,c,rfl,h1,h2,_⟩:=mW h.own (by omega);obtain⟨cur,b⟩:=sW h.own (g:=a) rfl;refine⟨a,c,rfl,h2,h1,fun i=>frz b i,fun i g hg=>?_,fun g hg e=>?_⟩
 ·have hi:i<n:=(by rw[<-h.len];exact(List.getElem?_eq_some_iff.1 hg).1);have:=h.own.cellAt i (by omega);rw[bKq hg]at this;exact this
 ·subst e;obtain⟨i,hi⟩:=List.mem_iff_getElem?.1 hg;exact blk_ne b (show Blk w g 4 _ from(h.rows i g hi).2) (by decide) rfl
theorem TM.push{j:Cj}{f:Nat->Bool}(h:TM w base v n P T gs)(hg:RB 4 w g P f)(d:base<=g)(hn:∀ x∈gs,x≠g)(l:w'.ownsRow base 24 1 j (n+1) (rowsV gs P ++ [.slice (some ⟨g,0,none⟩) P P]))(m:w.grownBy w' v.ownBlock):
  TM w' base j (n+1) P (upd T n f) (gs ++ [g]):=by
 have key:∀ g f,RB 4 w g P f->RB 4 w' g P f:=fun g f k=>Blk.grown k m (own_ne h.own k (by decide));refine⟨by rw[show rowsV (gs ++ [g]) P=rowsV gs P ++ [.slice (some ⟨g,0,none⟩) P P] by simp[rowsV]];exact l,by simp[h.len],?_,fun i x c=>?_⟩
 ·rw[List.nodup_append];exact⟨h.nd,by simp,fun a ha b d e=>by simp at d;subst d;exact hn a ha e⟩
 ·by_cases hi:i<gs.length
  ·rw[AX hi]at c;have:=h.rows i x c;rw[sZ (by have:=h.len;omega)];exact⟨this.1,key _ _ this.2⟩
  ·rw[Ab (by omega)]at c
   have o:i - gs.length=0:=by
    have:=(List.getElem?_eq_some_iff.1 c).1;simp at this;omega
   rw[o]at c;simp at c;subst c;have:i=n:=(by have:=h.len;omega);subst this;rw[tZ];exact⟨d,key _ _ hg⟩
theorem TM.put{a c i:Nat}{f:Nat->Bool}(h:TM w base (.slice (some ⟨a,0,none⟩) n c) n P T gs)(hg:RB 4 w g P f)(l:base<=g)(hn:∀ x∈gs,x≠g):
  TM (w.setCell ⟨a,i,none⟩ (.slice (some ⟨g,0,none⟩) P P)) base (.slice (some ⟨a,0,none⟩) n c) n P (upd T i f) (gs.set i g):=by
 obtain⟨cur,d⟩:=sW h.own (g:=a) rfl;have key:∀ g f,RB 4 w g P f->RB 4 (w.setCell ⟨a,i,none⟩ (.slice (some ⟨g,0,none⟩) P P)) g P f:=fun g f b=>rY b (blk_ne b d (by decide));have k:∀ x g f,RB 4 w g P f->RB 4 (w.setCell ⟨a,i,none⟩ x) g P f:=fun x g f b=>rY b (blk_ne b d (by decide));refine⟨?_,by rw[Aa];exact h.len,?_,fun j x m=>?_⟩
 ·have:=(h.own.stored i (.slice (some ⟨g,0,none⟩) P P)).1;have e:(rowsV gs P).set i (.slice (some ⟨g,0,none⟩) P P)=rowsV (gs.set i g) P:=(by simp[rowsV,Bf]);rw[e]at this;exact this
 ·exact dXr h.nd hn
 ·rcases qV m with⟨e,e2,_⟩ | ⟨e,e2⟩
  ·subst e;subst e2;rw[tZ];exact⟨l,k _ _ _ hg⟩
  ·rw[sZ (fun o=>e o.symm)];have:=h.rows j x e2;exact⟨this.1,k _ _ _ this.2⟩
theorem TM.setAt{p:Nat}{b:Bool}(h:TM w base v n P T gs)(hg:gs[i]? = some g):TM (w.setCell ⟨g,p,none⟩ (.bool b)) base v n P (upd T i (fun q=>if q=p then b else T i q)) gs:=by
 have hr:=h.rows i g hg;refine⟨gY h.own (own_ne h.own hr.2 (by decide)),h.len,h.nd,fun j x a=>?_⟩;by_cases e:j=i
 ·subst e;rw[hg]at a;injection a with a;subst a;rw[tZ];exact⟨hr.1,hr.2.set p b⟩
 ·rw[sZ e];have:=h.rows j x a;refine⟨this.1,rY this.2 (fun e2=>e ?_)⟩;subst e2;exact aXq h.nd a hg
end
theorem eQu{T:Nat->Nat->Bool}{p:Nat}(h:l[k]? = some x):bh (l.take (k+1)) T p=(bh (l.take k) T p || T x.toNat p):=by
 obtain⟨a,e⟩:=List.getElem?_eq_some_iff.1 h;rw[Ak a,e];unfold bh;rw[List.any_append];simp
theorem cXq{o c:Nat}{f:Nat->Bool}(h:IR w (.slice (some ⟨b,o,none⟩) n c) l)(a:l[k]? = some x)(hg:RB t w g P f):b≠g:=by
 intro e;subst e;obtain⟨b',o',e,_,hc⟩:=h.cell a;injection e with e;injection e with d e2;subst d;subst e2;rw[Blk.cell hg]at hc;rw[Ah]at hc;unfold boolsV at hc;rw[Bv,Option.map_eq_some_iff]at hc;obtain⟨_,_,h2⟩:=hc;cases h2
theorem IR.fXl{o c:Nat}{u:Cj}(h:IR w (.slice (some ⟨b,o,none⟩) n c) l)(d:b≠g):IR (w.setCell ⟨g,i,none⟩ u) (.slice (some ⟨b,o,none⟩) n c) l:=
 h.setCell u (fun A n' c' e a ha=>by
  injection e with f e2 e3;subst f;injection ha with ha;subst ha
  exact d)
def lst(f:Nat->Bool)(k:Nat):List Int:=((Bk k).filter f).map fun i:Nat=>(i:Int)
theorem cZk(f:Nat->Bool)(k:Nat):(lst f k).length<=k:=by
 unfold lst;rw[List.length_map];have:=List.length_filter_le f (Bk k)
 simpa using this
theorem dVg(f:Nat->Bool)(k:Nat):lst f (k+1)=if f k then lst f k ++ [(k:Int)]else lst f k:=by
 unfold lst;rw[BW,List.filter_append];cases h:f k <;> simp[h]
theorem eQv(f:Nat->Bool)(P:Nat):IsSet (lst f P) (fun x=>∃ i:Nat,x=i/\i<P/\f i=true):=by
 refine⟨?_,fun x=>?_⟩
 ·unfold lst;rw[List.pairwise_map];exact(List.pairwise_lt_range.filter _).imp (fun h=>by omega)
 ·unfold lst;simp only[List.mem_map,List.mem_filter,List.mem_range];constructor
  ·rintro⟨i,⟨h1,h2⟩,rfl⟩;exact⟨i,rfl,h1,h2⟩
  ·rintro⟨i,rfl,h1,h2⟩;exact⟨i,⟨h1,h2⟩,rfl⟩
theorem IsSet.imp{Q R:Int->Prop}(h:IsSet l Q)(hq:∀ x,Q x↔R x):IsSet l R:=⟨h.1,fun x=>(h.2 x).trans (hq x)⟩
def eJp(P:Nat)(f:Nat->Bool)(w:Bi)(a:Ending)(w':Bi):Prop:=∃ g,a = .returned (.slice (some ⟨g,0,none⟩) P P)/\w.heap.size<=g/\RB 4 w' g P f/\Cq w.heap.size w w'
theorem bXz(r:RowD)(vr v:Cj)(i n P:Nat)(c:CodeD)(T:Nat->Nat->Bool)(w:Bi)(hr:RowV w vr r)(V:TB w v n P T)(hi:r.code[i]? = some c)(hn:r.code.length=n)(W:r.places=P)(aC:P<=4096)(hf:FlowOk r):
  Cx fZ 115 #[vr,v,.int .i64 (i:Int)] w (eJp P (bh (nextOf c i) T) w):=by
 obtain⟨d,f,vs,s,rfl,h4,h5,h6,h7⟩:=hr;obtain⟨A,cA,rfl⟩:=V.shape;have HR:=fQ (show RowV w (.agg #[d,f,.int .i64 (P:Int),vs,s]) r from⟨d,f,vs,s,by rw[W],h4,h5,h6,h7⟩);rw[W];have HT:=fQ V;have M:=fQ hi;have HN:=fQ hn;have X:=fQ hf;have aD:=fQ (show Cq w.heap.size w (w.alloc (.cells #[d,f,.int .i64 (P:Int),vs,s] 43))from(Aw _ _).alloc (Aq _) _);have K0:=fQ (Blk.new w 43 #[d,f,.int .i64 (P:Int),vs,s]);have mk:=vZ (P:=fZ) 24 4 (.bool false) 1 underlying24 aQt rfl P (by omega) (by omega);clear h4 h5 h6 h7 V hi hn hf W;go_in;go_wp2_with fail;have Y:=fQ (show Cq w.heap.size w ((w.alloc (.cells #[d,f,.int .i64 (P:Int),vs,s] 43)).alloc (.cells (AY P (.bool false)) 4))from al2 _ _ _);have G1:=fQ (RB.new (t:=4) (w.alloc (.cells #[d,f,.int .i64 (P:Int),vs,s] 43)) (N:=w.heap.size+1) (n:=P) false (by simp));have K1:=fQ (K0.out.alloc (.cells (AY P (.bool false)) 4));clear mk;refine(bKm r _ i c _ (HR.out.below Y.out (Aq _)) M.out (X.out.to i c M.out).2.1).mono ?_;rintro en w1 ⟨vl,rfl,I,y⟩;obtain⟨B,cB,rfl⟩:=I.shape;obtain⟨l,J⟩:=fX (nextOf c i);have aw:=fQ (show ∀ x∈l,0<=x/\x<(n:Int)from fun x K=>by rw[<-HN.out];exact(X.out.to i c M.out).1 x (by rw[J];exact K));rw[J]at I ⊢;obtain⟨m,O⟩:=fX l.length;rw[O]at I ⊢;have ax:m<=66:=(by rw[<-O,<-J];exact(X.out.to i c M.out).2.2);have ay:=fQ J;have HM:=fQ O;have HL:=fQ I;have HB:=fQ (Y.out.trans (y.mono Y.out.size));have G2:=fQ (G1.out.keep y);have K2:=fQ (K1.out.below y K1.out.lt);clear I y J O;go_wp2_with fail;go_loopw [9] (fun j wr=>∃ k:Nat,k<=m/\j = .int .i64 k/\Hid (RB 4 wr (w.heap.size+1) P (bh (l.take k) T))/\Hid (IR wr (.slice B m cB) l)/\Hid (Blk wr w.heap.size 43 #[d,f,.int .i64 (P:Int),vs,s])/\Hid (Cq w.heap.size w wr)) (fun j _=>m - (intOf j).toNat)
 case atStart=>exact⟨0,by omega,rfl,fQ (G2.out.congr fun p _=>by simp[bh]),HL,K2,HB⟩
 case round=>as_aux_lemma=>
  obtain⟨k,hk,rfl,a,D,E,F⟩:=hrel;by_cases az:k<m
  ·have t1:decide ((k:Int)<m)=true:=(by simp;omega);have t2:(k:Int)<m:=(by omega);obtain⟨x,K⟩:∃ x,l[k]? = some x:=⟨_,Ax (by rw[HM.out];exact az)⟩;have ao:=aw.out x (Av K);obtain⟨z,rfl⟩:∃ z:Nat,x=z:=⟨x.toNat,by omega⟩;have aE:(z:Int)<n:=ao.2;have ai:z<n:=(by omega);have Z:=fQ K;clear K ao;go_wp2_with fail;go_loopw [10] (fun j wr=>∃ p:Nat,p<=P/\j = .int .i64 p/\Hid (RB 4 wr (w.heap.size+1) P (fun q=>bh (l.take (if q<p then k+1 else k)) T q))/\Hid (IR wr (.slice B m cB) l)/\Hid (Blk wr w.heap.size 43 #[d,f,.int .i64 (P:Int),vs,s])/\Hid (Cq w.heap.size w wr)) (fun j _=>P - (intOf j).toNat)
   case atStart=>exact⟨0,by omega,rfl,fQ (a.out.congr fun p _=>by rw[if_neg (by omega)]),D,E,F⟩
   case round=>as_aux_lemma=>
    clear a D E F;obtain⟨p,hp,rfl,a,D,E,F⟩:=hrel;have r2:=E.out.cell 2;simp at r2;have y1:=E.out.lt;by_cases aq:p<P
    ·have t3:decide ((p:Int)<P)=true:=(by simp;omega);have t4:(p:Int)<P:=(by omega);obtain⟨b,o,rfl,y,hc⟩:=D.out.cell Z.out;have ar:=cXq D.out Z.out a.out;obtain⟨b2,o2,C,kC,rfl,aF,aG,au⟩:=(HT.out.below F.out (Aq _)).row ai;obtain⟨b3,o3,rfl,aH,aA⟩:=bYo au aq;have aj:=a.out.cell aq;rw[if_neg (Nat.lt_irrefl p)]at aj;have aI:=Blk.lt a.out;have aJ:=frz a.out p;have H:=fQ (eQu (T:=T) (p:=p) Z.out);rw[AV]at H;have aB:=fQ ar;clear au ar
     have Q:=fun(b:Bool) (y:b=bh (l.take (k+1)) T p)=>fQ ((a.out.set p b).congr (f':=fun q=>bh (l.take (if q<p+1 then k+1 else k)) T q) (fun q _=>by
      by_cases e:q=p
      ·subst e;simp[y]
      ·rw[if_neg e];by_cases h:q<p
       ·rw[if_pos h,if_pos (by omega)]
       ·rw[if_neg h,if_neg (by omega)]))
     have R:=fun(L:Bool)=>fQ (IR.fXl (g:=w.heap.size+1) (i:=p) (u:=.bool L) D.out aB.out);have S:=fun(L:Bool)=>fQ (rY (k:=p) (u:=.bool L) E.out (show w.heap.size≠w.heap.size+1 by omega));have U:=fun(L:Bool)=>fQ (F.out.setCell (p:=⟨w.heap.size+1,p,none⟩) (by simp) (.bool L))
     cases hv:bh (l.take k) T p with
     | true=>
      rw[hv]at aj H;have G:=Q true (by rw[H.out];rfl);have ak:=R true;have al:=S true;have an:=U true;clear Q R S U hv;go_wp2;exact⟨⟨p+1,by omega,by simp,G,ak,al,an⟩,by simp[intOf];omega⟩
     | false=>
      rw[hv]at aj H;obtain⟨tb,av⟩:=fX (T z p);rw[av]at aA H;have G:=Q tb (by rw[H.out];simp);have ak:=R tb;have al:=S tb;have an:=U tb;clear Q R S U hv av;go_wp2;exact⟨⟨p+1,by omega,by simp,G,ak,al,an⟩,by simp[intOf];omega⟩
    ·have t3:decide ((p:Int)<P)=false:=(by simp;omega);have G:=fQ (a.out.congr (f':=bh (l.take (k+1)) T) fun q hq=>by rw[if_pos (by omega)]);clear a;go_wp2;exact⟨⟨k+1,by omega,by simp,G,D,E,F⟩,by simp[intOf];omega⟩
  ·have t1:decide ((k:Int)<m)=false:=(by simp;omega);have G:=fQ (a.out.congr (f':=bh l T) fun q hq=>by rw[AJ (by rw[HM.out];omega)]);clear a;go_wp2;go_ret;exact⟨_,rfl,by omega,by rw[ay.out];exact G.out,F.out⟩
def eQw(P:Nat)(f:Nat->Bool)(w:Bi)(a:Ending)(w':Bi):Prop:=∃ v p,a = .returned v/\w'.ownsRow w.heap.size 3 1 v p.length (i64s p)/\p.length<=P/\IsSet p (fun x=>∃ i:Nat,x=i/\i<P/\f i=true)/\Cq w.heap.size w w'
theorem aVn(A:Option Addr)(P c:Nat)(f:Nat->Bool)(w:Bi)(hs:Src w A P (boolsV (tW P f)))(ag:P<=4096):Cx fZ 92 #[.slice A P c] w (eQw P f w):=by
 have r:=fQ hs;clear hs;go_in;go_wp2;go_loopw [3,4] (fun v j wr=>∃ k q:Nat,k<=P/\j = .int .i64 k/\Hid ((lst f k).length=q)/\Hid (wr.ownsRow w.heap.size 3 1 v q (i64s (lst f k)))/\Hid (Cq w.heap.size w wr)) (fun _ j _=>P - (intOf j).toNat)
 case atStart=>exact⟨0,0,by omega,rfl,fQ (by simp[lst]),fQ (AK _ _ _ _),fQ (Aw _ _)⟩
 case round=>
  obtain⟨k,q,hk,rfl,d,iO,g⟩:=hrel;obtain⟨l,m,s,_⟩:=fW iO.out;subst s;have ah:q<=k:=(by have:=cZk f k;have:=d.out;omega);have t:=g.out.size;by_cases u:k<P
  ·have x:decide ((k:Int)<P)=true:=(by simp;omega);have t2:(k:Int)<P:=(by omega);obtain⟨b,o,rfl,y,hc⟩:=bYo r.out u;have n:=(g.out.cell (p:=⟨b,o+k,none⟩) y).trans hc;have ai:b<wr.heap.size:=(by omega);have a:=fQ (dVg f k);clear hc
   cases hf:f k with
   | true=>
    rw[hf]at n a;rw[if_pos rfl]at a;clear hf;go_wp2_with (at_builtin;refine aXd _ rfl (.tmp 15) (.tmp 17) 23 rfl w.heap.size 3 (.int .i64 0) 8 underlying23 oK rfl (.slice l q m) q (i64s (lst f k)) rfl (iJ iO.out _) (some ⟨wr.heap.size,0,none⟩) 1 1 [.int .i64 (k:Int)] rfl (aYm _ _ _) (aZo _ _) (by unfold maxLen;omega) (by omega) (by simp;omega) ?_);rintro z w' h1 h2
    have h:=fQ (show w'.ownsRow w.heap.size 3 1 z (q+1) (i64s (lst f (k+1))) by
     rw[a.out];have e:i64s (lst f k ++ [(k:Int)])=i64s (lst f k) ++ [.int .i64 (k:Int)]:=(by simp[i64s]);rw[e]
     exact h1)
    have i:=fQ (show(lst f (k+1)).length=q+1 by rw[a.out];simp[d.out]);have B:=fQ ((g.out.alloc t (.cells #[.int .i64 (k:Int)] 3)).trans h2);clear h1 h2;go_wp2;exact⟨⟨k+1,q+1,by omega,by simp,i,h,B⟩,by simp[intOf];omega⟩
   | false=>
    rw[hf]at n a;rw[if_neg (by simp)]at a;clear hf;have h:=fQ (show wr.ownsRow w.heap.size 3 1 (.slice l q m) q (i64s (lst f (k+1))) by rw[a.out];exact iO.out);have i:=fQ (show(lst f (k+1)).length=q by rw[a.out];exact d.out);clear iO d;go_wp2;exact⟨⟨k+1,q,by omega,by simp,i,h,g⟩,by simp[intOf];omega⟩
  ·have x:decide ((k:Int)<P)=false:=(by simp;omega);have C:k=P:=(by omega);subst C;go_wp2;go_ret;exact⟨_,lst f k,rfl,by rw[d.out];exact iO.out,cZk f k,eQv f k,g.out⟩
theorem eQx(v:Cj)(l:List Int)(x:Int)(w:Bi)(hs:IR w v l)(p:l.length<=9223372036854775806):
  Cx fZ 93 #[v,.int .i64 x] w fun e w'=>e = .returned (.bool (decide (x∈l)))/\w=w':=by
 obtain⟨A,c,rfl⟩:=hs.shape;have g:=fQ hs;obtain⟨n,hn⟩:=fX l.length;obtain⟨F,hF⟩:∃ F:Bool,decide (x∈l)=F:=⟨_,rfl⟩;rw[hn]at g p ⊢;rw[hF];have j:=fQ hn;have m:=fQ hF;clear hs hn hF;go_in;go_wp2;go_loop [5] (fun i=>∃ k:Nat,k<=n/\i = .int .i64 k/\Hid (x ∉ l.take k)) (fun i=>n - (intOf i).toNat)
 case atStart=>exact⟨0,by omega,rfl,fQ (by simp)⟩
 case round=>
  obtain⟨k,hk,rfl,d⟩:=hrel;by_cases q:k<n
  ·have r:decide ((k:Int)<n)=true:=(by simp;omega);have t2:(k:Int)<n:=(by omega);obtain⟨y,f⟩:∃ y,l[k]? = some y:=⟨_,Ax (by rw[j.out];exact q)⟩;obtain⟨ab,ao,rfl,hab,hcl⟩:=g.out.cell f;have o:=fQ f;clear f;by_cases a:y=x
   ·have s:(y == x)=true:=(by simp[a]);have b:=fQ (show F=true by rw[<-m.out,decide_eq_true_eq,<-a];exact Av o.out);clear a;go_wp2;go_ret;exact⟨by rw[b.out];rfl,rfl⟩
   ·have s:(y == x)=false:=by simp[a]
    have b:=fQ (show x ∉ l.take (k+1) by
     rw[oQ o.out];rintro(h | h)
     ·exact d.out h
     ·exact a h.symm)
    clear a d;go_wp2;go_round
    case rel=>exact⟨k+1,by omega,by simp,b⟩
    case measure=>simp[intOf];omega
  ·have r:decide ((k:Int)<n)=false:=by simp;omega
   have b:=fQ (show F=false by
    rw[<-m.out,decide_eq_false_iff_not];have:=d.out
    rwa[AJ (by rw[j.out];omega)]at this)
   go_wp2;go_ret;exact⟨by rw[b.out];rfl,rfl⟩
theorem bJu{D:List Int}(hn:∀ i,i<n->D[i]? = some x)(a:n+k<=D.length):splice (i64s D) n (Aj k (.int .i64 x))=i64s (splice D n (Aj k x))/\(splice D n (Aj k x)).length=D.length/\∀ i,i<n+k->(splice D n (Aj k x))[i]? = some x:=by
 refine⟨by simp[splice,i64s,List.map_take,List.map_drop],length_splice _ _ _ (by simpa using a),fun i hi=>?_⟩;unfold splice;by_cases h:i<n
 ·rw[AX (by rw[Ag];omega),List.getElem?_take,if_pos h];exact hn i h
 ·rw[Ab (by rw[Ag];omega),Ag,Nat.min_eq_left (by omega),AX (by simp;omega)];rw[Ay,if_pos (by omega)]
theorem cZa(x:Int)(A P:Nat)(w:Bi)(B:Blk w A 3 #[.int .i64 x])(hP:P<=4096):
  Cx fZ 57 #[.slice (some ⟨A,0,none⟩) 1 1,.int .i64 (P:Int)] w fun L w'=>L = .returned (.slice (some ⟨w.heap.size,0,none⟩) P P)/\Blk w' w.heap.size 3 (i64s (Aj P x)).toArray/\Cq w.heap.size w w':=by
 have HB:=fQ B;have y1:=B.lt;have mk:=vZ (P:=fZ) 23 3 (.int .i64 0) 8 underlying23 oK rfl P (by omega) (by omega);clear B
 have hmul:∀ W,Cx fZ 86 #[.int .u64 1,.int .u64 (P:Int)] W fun e w'=>e = .returned (.tuple #[.int .u64 0,.int .u64 (P:Int)])/\w'=W:=fun W=>by
  have e1:((1*P / 18446744073709551616:Nat):Int)=0:=(by omega);have e2:((1*P % 18446744073709551616:Nat):Int)=(P:Int):=(by omega);have h:=Tryz.bits_Mul 1 P (by omega) (by omega) W;rw[e1,e2]at h;exact h
 go_in;go_wp2_with fail;refine(hmul _).mono ?_;rintro L w1 ⟨rfl,rfl⟩;clear hmul;have t1:decide ((9223372036854775807:Int)<(P:Int))=false:=(by simp;omega);obtain⟨a,C⟩:∃ g,w1.heap.size=g:=⟨_,rfl⟩;have E:=fQ C;have M:(Aj P (AW .i64 0)).toArray=(i64s (Aj P 0)).toArray:=(by simp[i64s]);have N:=fQ (show Blk (w1.alloc (.cells (i64s (Aj P 0)).toArray 3)) a 3 (i64s (Aj P 0)).toArray from Blk.newAt _ _ _ C);have O:=fQ (Blk.alloc HB.out (.cells (i64s (Aj P 0)).toArray 3));have Q:=fQ ((Aw a w1).alloc (AQ C.symm) (.cells (i64s (Aj P 0)).toArray 3));rw[M]at mk;clear M;obtain⟨b,c⟩:∃ k,Bg 1 P=k:=⟨_,rfl⟩;have aw:b<=P:=(by rw[<-c];exact BX _ _);have aH:b<=1:=(by rw[<-c];exact BY _ _)
 have ax:0<P->1<=b:=fun h=>by rw[<-c];exact Nat.le_min.2 ⟨Aq _,h⟩
 have ay:=fQ c;clear c
 have d:∀ j v,(Aj b (AW .i64 x))[j]? = some v->(w1.alloc (.cells (i64s (Aj P 0)).toArray 3)).cell? ((⟨A,0,none⟩:Addr).add j)=some v:=by
  intro j v hj;have R:=(List.getElem?_eq_some_iff.1 hj).1;rw[Az]at R;have az:j=0:=(by omega);subst az;rw[Ay,if_pos R]at hj;injection hj with hj;subst hj;have:=O.out.cell 0;rw[Addr.add_lit]
  simpa using this
 have f:=fQ d;clear d;have F:=fQ (show(Aj b (AW .i64 x)).length=Bg 1 P from by rw[Az];exact ay.out.symm);have G:=fQ (show 0+(Aj b (AW .i64 x)).length<=(i64s (Aj P 0)).length from by rw[Az,bQw,Az];omega);obtain⟨cs,H⟩:=fX (Aj b (AW .i64 x));have r:=fQ H;rw[H]at f F G;clear H;go_wp2_with ((with_reducible show wpList _ _ _ _ _ _);refine wpList_copy_splice rfl (.tmp 31) (.tmp 32) 23 23 rfl 3 underlying23 (by kernel_rfl) _ _ P P 1 1 rfl rfl a 0 (i64s (Aj P 0)) 3 N.out cs F.out (fun _=>⟨rfl,_,rfl,f.out⟩) G.out (fun v s=>by rw[<-r.out]at s;rw[Ae s];rfl) a w1 Q.out (Aq _) ?_);rintro S T U;have hcl:cs.length=b:=(by rw[<-r.out,Az]);rw[hcl];have q0:=bJu (D:=Aj P 0) (n:=0) (k:=b) (x:=x) (fun i hi=>by omega) (by simp;omega);obtain⟨q1,l,o⟩:=q0;have t:=fQ (show ∃ D:List Int,D.length=P/\(∀ i,i<b->D[i]? = some x)/\Blk S a 3 (i64s D).toArray/\Cq a w1 S from⟨_,by rw[l];simp,fun i hi=>o i (by omega),by rw[<-q1,r.out];exact T.out,U⟩);clear T U q1 l o N O Q f F G hcl r;go_wp2;go_loopw [8] (fun i wr=>∃ n:Nat,(0<P->1<=n)/\n<=P/\i = .int .i64 n/\Hid (∃ D:List Int,D.length=P/\(∀ i,i<n->D[i]? = some x)/\Blk wr a 3 (i64s D).toArray/\Cq a w1 wr)) (fun i _=>P - (intOf i).toNat)
 case atStart=>exact⟨b,ax,aw,rfl,t⟩
 case round=>
  clear t mk;obtain⟨n,aA,aI,rfl,I⟩:=hrel;by_cases aJ:n<P
  ·have t2:decide ((n:Int)<P)=true:=(by simp;omega);obtain⟨D,J,u,y,z⟩:=I.out;have V:=fQ y;have p:=fQ z;have X:=fQ u;have K:=fQ J;obtain⟨m,q⟩:=fX (Bg n (P - n));have aB:=aA (by omega);have aK:1<=m:=(by rw[<-q];exact Nat.le_min.2 ⟨by omega,by omega⟩);have aL:m<=P - n:=(by rw[<-q];exact BX _ _);have aM:n+m<=P:=(by omega);have aN:m<=n:=(by rw[<-q];exact BY _ _);have aC:=fQ q;have u1:(n:Int)<=(P:Int):=(by omega);have hcut:¬P=n:=(by omega);have u2:((P:Int) - (n:Int))=((P - n:Nat):Int):=(by omega);have aO:IntKind.i64.wrap ((n:Int)+(m:Int))=((n+m:Nat):Int):=(by rw[show(n:Int)+(m:Int)=((n+m:Nat):Int) by omega];exact IntWalk.i64_in _ (by omega));clear y z u J I q
   have d:∀ j v,(Aj m (AW .i64 x))[j]? = some v->wr.drew.cell? ((⟨a,0,none⟩:Addr).add j)=some v:=by
    intro j v hj;have Y:=(List.getElem?_eq_some_iff.1 hj).1;rw[Az]at Y;rw[Ay,if_pos Y]at hj;injection hj with hj;subst hj;have:=mV V.out.drew (X.out j (by omega));rw[Addr.add_lit]
    simpa using this
   have f:=fQ d;have aD:=fQ (show(Aj m (AW .i64 x)).length=Bg n (P - n)from by rw[Az];exact aC.out.symm);have aE:=fQ (show n+(Aj m (AW .i64 x)).length<=(i64s D).length from by rw[bQw,K.out,Az];omega);have aF:=fQ (show Cq a w1 wr.drew from⟨p.out.os,p.out.tape,p.out.output,p.out.size,p.out.block⟩);clear d;go_wp2_with fail;go_region_law ((refine step_copy_splice (by rfl) (.tmp 41) (.tmp 44) 23 23 (by rfl) 3 underlying23 (by kernel_rfl) (some ⟨a,n,none⟩) (some ⟨a,0,none⟩) (P - n) (P - n) n P (by go_simp) (by go_simp) a n (i64s D) 3 V.out.drew (Aj m (.int .i64 x)) aD.out (fun _=>⟨rfl,⟨a,0,none⟩,rfl,f.out⟩) aE.out (fun v s=>by rw[Ae s];rfl) a w1 aF.out (Aq _) ?_;intro Z au av))
   all_goals
    obtain⟨q1,l,o⟩:=bJu (D:=D) (n:=n) (k:=m) (x:=x) X.out (by rw[K.out];omega);have t:=fQ (show ∃ D:List Int,D.length=P/\(∀ i,i<n+m->D[i]? = some x)/\Blk Z a 3 (i64s D).toArray/\Cq a w1 Z from⟨_,by rw[l];exact K.out,o,by rw[<-q1];exact au.out,av⟩);clear q1 l o au av;go_simp;go_wp2;exact⟨⟨n+m,fun _=>by omega,by omega,rfl,t⟩,by simp[intOf];omega⟩
  ·have t2:decide ((n:Int)<P)=false:=(by simp;omega);go_wp2;go_ret;have aG:n=P:=(by omega);subst aG;obtain⟨D,J,u,y,z⟩:=I.out
   have e:D=Aj n x:=by
    apply List.ext_getElem?;intro i;rw[Ay];by_cases hi:i<n
    ·rw[if_pos hi];exact u i hi
    ·rw[if_neg hi,List.getElem?_eq_none (by omega)]
   subst e;exact⟨by rw[E.out];rfl,by rw[E.out];exact y,by rw[E.out];exact z⟩
theorem dKg(n:Nat)(w:Bi)(hn:n<=1000000):
  Cx fZ 109 #[.slice none 0 0,.int .i64 (n:Int)] w fun i w'=>∃ v,i = .returned v/\w'.ownsRow w.heap.size 3 1 v 0 []/\Cq w.heap.size w w':=by
 go_in;by_cases j:n=0
 ·subst j;go_wp2;go_ret;exact⟨_,rfl,AK _ _ _ _,Aw _ _⟩
 ·have t1:decide ((0:Int)<(n:Int))=true:=(by simp;omega);have ad:decide (0<n)=true:=(by simp;omega);go_wp2_with (at_builtin;refine aJr _ rfl (.tmp 20) (.tmp 21) 23 3 rfl w.heap.size 3 (.int .i64 0) 8 .i64 underlying23 underlying3 oK rfl rfl (.slice none 0 0) 0 [] rfl (AK _ _ _ _) .i64 n _ rfl rfl (by unfold maxLen;omega) (by omega) (Aq _) ?_);rintro v' w' b f;obtain⟨A,c,rfl,ae⟩:=fW b
  have d:A≠none:=by
   intro e;subst e;rcases b.2 with⟨e,_⟩ | ⟨g,cap,cur,e,_⟩
   ·injection e;omega
   ·injection e;simp_all
  obtain⟨a,rfl⟩:∃ a,A=some a:=Option.ne_none_iff_exists'.1 d;have h:=bQx (k:=0) b (by omega) d;have l:=fQ h;have m:=fQ f;clear b f h d;go_wp2;go_ret;exact⟨_,rfl,by simpa using l.out,m.out⟩
theorem dYw(A B:List Int)(J vb:Cj)(K:Nat)(w:Bi)(L:Blk w K 23 #[J,vb])(M:IR w J A)(N:IR w vb B)(la:A.length<=100)(lb:B.length<=100):
  Cx fZ 83 #[.slice (some ⟨K,0,none⟩) 2 2] w fun O w'=>∃ v,O = .returned v/\w'.ownsRow w.heap.size 3 1 v (A.length+B.length) (i64s (A++B))/\Cq w.heap.size w w':=by
 have e:=fQ L;have p:=fQ M;have q:=fQ N;obtain⟨S,T,rfl,_⟩:=M;obtain⟨U,cb,rfl,_⟩:=N;obtain⟨ma,r⟩:∃ m,A.length=m:=⟨_,rfl⟩;obtain⟨mb,t⟩:∃ m,B.length=m:=⟨_,rfl⟩;rw[r]at e p la ⊢;rw[t]at e q lb ⊢;have V:=fQ r;have W:=fQ t;clear L r t;obtain⟨f,X⟩:∃ s,ma+mb=s:=⟨_,rfl⟩;have Y:(ma:Int)+(mb:Int)=(f:Int):=(by omega);rw[X];have k:=e.out.cell 0;have c1:=e.out.cell 1;simp at k c1;have y1:=e.out.lt;go_in;go_wp2;go_loopw [3,11] (fun u a wr=>w=wr/\((a = .int .i64 0/\u = .int .i64 0)\/(a = .int .i64 1/\u = .int .i64 ma)\/(a = .int .i64 2/\u = .int .i64 (f:Int)))) (fun _ a _=>2 - (intOf a).toNat)
 case atStart=>exact⟨rfl,.inl ⟨rfl,rfl⟩⟩
 case round=>
  obtain⟨x,⟨rfl,rfl⟩ | ⟨rfl,rfl⟩ | ⟨rfl,rfl⟩⟩:=hrel
  ·subst x;have w1:IntKind.i64.wrap (0+(ma:Int))=(ma:Int):=(by rw[Int.zero_add];exact IntWalk.i64_in _ (by omega));have Z:decide ((ma:Int)<0)=false:=(by simp);go_wp2;exact⟨⟨trivial,.inr (.inl ⟨rfl,rfl⟩)⟩,by simp[intOf]⟩
  ·subst x;have w1:IntKind.i64.wrap ((ma:Int)+(mb:Int))=(f:Int):=(by rw[Y];exact IntWalk.i64_in _ (by omega));have Z:decide ((f:Int)<0)=false:=(by simp);go_wp2;exact⟨⟨trivial,.inr (.inr ⟨rfl,rfl⟩)⟩,by simp[intOf]⟩
  ·subst x;go_wp2_with fail;refine(dKg f _ (by omega)).mono ?_;rintro O w1 ⟨v,rfl,y,g⟩;obtain⟨base,hbase⟩:∃ b,w.heap.size=b:=⟨_,rfl⟩;have c:=fQ hbase;rw[hbase]at y g;have P:=fQ (show w1.ownsRow base 3 1 v 0 (i64s ([]:List Int))from y);have Q:=fQ g;have av:=fQ (p.out.below g (AQ hbase));have aw:=fQ (q.out.below g (AQ hbase));have R:=fQ (e.out.below g (by omega));have hsz:=g.size;have y2:=R.out.lt;clear y g hbase k c1;go_wp2;go_loopw [6,27] (fun v a wr=>Hid (Cq base w wr)/\((a = .int .i64 0/\Hid (wr.ownsRow base 3 1 v 0 (i64s ([]:List Int))))\/(a = .int .i64 1/\Hid (wr.ownsRow base 3 1 v ma (i64s A)))\/(a = .int .i64 2/\Hid (wr.ownsRow base 3 1 v f (i64s (A++B)))))) (fun _ a _=>2 - (intOf a).toNat)
   case atStart=>exact⟨Q,.inl ⟨rfl,P⟩⟩
   case round=>
    clear P Q R y2 av aw hsz;obtain⟨h,IC⟩:=hrel;have o:=e.out.below h.out (by have:=c.out;omega);have k:=o.cell 0;have c1:=o.cell 1;simp at k c1;have y2:=o.lt;have hsz:=h.out.size;clear o;rcases IC with⟨rfl,iO⟩ | ⟨rfl,iO⟩ | ⟨rfl,iO⟩
    ·obtain⟨z,C,D,_⟩:=fW iO.out;subst D;obtain⟨_,_,d,i⟩:=p.out.below h.out (by have:=c.out;omega);rw[V.out]at d i;injection d with d _ e2;subst d;subst e2;have E:=fQ i;clear i;go_wp2_with (at_builtin;refine jY _ rfl (.tmp 31) (.tmp 32) 23 rfl base 3 (.int .i64 0) 1 8 underlying23 oK rfl (by omega) (.slice z 0 C) 0 (i64s ([]:List Int)) rfl iO.out S ma T (i64s A) rfl (by rw[Bh];exact E.out) (aVe _) (by unfold maxLen;omega) (by omega) (by have:=c.out;omega) ?_);rintro F w' l n G _;have H:=fQ (show w'.ownsRow base 3 1 F ma (i64s A)from by simpa[i64s]using l);have I:=fQ (iK h.out n (by have:=c.out;omega) (fun j hj=>(iO.out.lt j hj).1));clear l n G;go_wp2;exact⟨⟨I,.inr (.inl ⟨rfl,H⟩)⟩,by simp[intOf]⟩
    ·obtain⟨z,C,D,_⟩:=fW iO.out;subst D;obtain⟨_,_,d,i⟩:=q.out.below h.out (by have:=c.out;omega);rw[W.out]at d i;injection d with d _ e2;subst d;subst e2;have E:=fQ i;clear i;go_wp2_with (at_builtin;refine jY _ rfl (.tmp 31) (.tmp 32) 23 rfl base 3 (.int .i64 0) 1 8 underlying23 oK rfl (by omega) (.slice z ma C) ma (i64s A) rfl iO.out U mb cb (i64s B) rfl (by rw[Bh];exact E.out) (aVe _) (by unfold maxLen;omega) (by omega) (by have:=c.out;omega) ?_);rintro F w' l n G _;have H:=fQ (show w'.ownsRow base 3 1 F f (i64s (A++B))from by rw[bWm];exact l);have I:=fQ (iK h.out n (by have:=c.out;omega) (fun j hj=>(iO.out.lt j hj).1));clear l n G;go_wp2;exact⟨⟨I,.inr (.inr ⟨rfl,H⟩)⟩,by simp[intOf]⟩
    ·clear k c1;go_wp2;go_ret;exact⟨_,rfl,by rw[c.out];exact iO.out,by rw[c.out];exact h.out⟩
section
open Go.Shelf
attribute [local go_sem] Oper.semAt_some
def plF{len:Nat}(f:Nat->List Cj)(x:Fin len):Array Cj:=#[.int .i64 (x.1:Int),.agg (f x.1).toArray]
def FiveAt(w:Bi)(b off:Nat)(l:List Cj)(j:Nat):Prop:=∃ a c1 c d c4,l = [a,c1,c,d,c4]/\w.cell? ⟨b,off+j*5,none⟩=some a/\w.cell? ⟨b,off+j*5+1,none⟩=some c1/\w.cell? ⟨b,off+j*5+2,none⟩=some c/\w.cell? ⟨b,off+j*5+3,none⟩=some d/\w.cell? ⟨b,off+j*5+4,none⟩=some c4
theorem FiveAt.below{w':Bi}{off j N:Nat}{l:List Cj}(h:FiveAt w b off l j)(a:Cq N w w')(c:b<N):FiveAt w' b off l j:=by
 obtain⟨d,c1,e,f,g,hf,i,k,m,n,o⟩:=h;exact⟨d,c1,e,f,g,hf,(a.cell (p:=⟨b,_,none⟩) c).trans i,(a.cell (p:=⟨b,_,none⟩) c).trans k,(a.cell (p:=⟨b,_,none⟩) c).trans m,(a.cell (p:=⟨b,_,none⟩) c).trans n,(a.cell (p:=⟨b,_,none⟩) c).trans o⟩
def KbC(b a:Nat)(A B:Bi):Prop:=Cq b A B/\B.cell? ⟨a,0,none⟩=A.cell? ⟨a,0,none⟩
theorem KbC.refl(a b:Nat)(A:Bi):KbC a b A A:=⟨Aw _ _,rfl⟩
theorem KbC.trans{a b:Nat}{A B C:Bi}(h:KbC a b A B)(c:KbC a b B C):KbC a b A C:=⟨h.1.trans c.1,c.2.trans h.2⟩
theorem KbC.put{c a:Nat}(hn:c<=w.heap.size)(hB:a<w.heap.size)(W:Bi)(l:Nat)(o b:Obj)(d:w.heap.size<=l)(h:W.heap[l]? = some o)(h1:o.isCells=false)(h2:o.isWalk=false):KbC c a W (W.putObj l b):=by
 refine⟨belowK_b hn W l o b d h h1 h2,Bj (w:=W) ?_⟩;show(W.heap.setIfInBounds l b)[a]? = W.heap[a]?;rw[Array.getElem?_setIfInBounds_ne (by omega)]
theorem cVh(a:Option Addr)(len cap:Nat)(w:Bi):
  Cx fZ 82 #[.slice a len cap] w fun e w'=>e = .returned (.func (.func 108) #[] #[.pointer (some ⟨w.heap.size,0,none⟩)])/\w.alloc (.cells #[.slice a len cap] 41)=w':=by
 go_in;go_wp2;go_ret;exact⟨rfl,rfl⟩
end
section
open Go.Shelf
attribute [local go_sem] Oper.semAt_some
def aKy(len k:Nat):List Nat:=(Bk k).map fun q=>len - 1 - q
theorem cZz(len k:Nat):aKy len (k+1)=aKy len k ++ [len - 1 - k]:=by simp[aKy,BW]
theorem dKh(F:Fence)(n:Nat)(w:F.fn 108)(y:F.round=none)(hn:1<=n)(l c g b off len cap:Nat)(f:Nat->List Cj)(ab:len<=1000000)(z:b<g)(J o:List (Fin len)->Bi->Prop)
  (p:∀ pre (x:Fin len) W,J pre W->pre.length<len->YieldAt F (n - 1) fZ l (plF f x) W fun e a=>
   (e = .returned (.bool true)/\J (pre ++ [x]) a/\KbC g c W a)\/(e = .returned (.bool false)/\o (pre ++ [x]) a))
  (W:Bi) (A:W.cell? ⟨c,0,none⟩=some (.slice (some ⟨b,off,none⟩) len cap)) (av:b<W.heap.size) (hc:∀ j,j<len->FiveAt W b off (f j) j) (B:J [] W) :
  CallsIn F n fZ 108 #[.func (.yield l) #[] #[],.pointer (some ⟨c,0,none⟩)] W fun e a=>(∃ v,e = .returned v) /\
   ((∃ ys:List (Fin len),ys.map Fin.val=aKy len len/\J ys a)\/(∃ pre,o pre a)):=by
 refine callsIn_of_wp func108 rfl w ?_ y;simp only[ntmps108,Bw,BZ,Ba,Bd,Be,Bq,Bx,By,Bz,Bb,BK];have C:=fQ hc;have D:=fQ p;clear hc p
 gi_wp2
 gi_loopw [3] (fun i wr=>∃ k:Nat,∃ ys:List (Fin len),(ys.length=k/\ys.map Fin.val=aKy len k)/\k<=len/\i = .int .i64 ((len:Int) - 1 - k)/\J ys wr/\KbC g c W wr)
  (fun i _=>(intOf i+1).toNat)
 case atStart=>exact⟨0,[],⟨rfl,rfl⟩,Nat.zero_le _,by simp,B,KbC.refl _ _ _⟩
 case round=>
  obtain⟨k,ys,⟨h,q⟩,hk,rfl,r,d⟩:=hrel;have s:=fQ q;clear q;have aw:wr.cell? ⟨c,0,none⟩=some (.slice (some ⟨b,off,none⟩) len cap):=d.2.trans A;by_cases E:k<len
  ·obtain⟨j,hj⟩:=fX (len - 1 - k);have m:(len:Int) - 1 - k=(j:Int):=(by omega);have t:j<len:=(by omega);obtain⟨c0,c1,c2,c3,c4,hf,g0,g1,g2,g3,g4⟩:=(C.out j t).below d.1 z;obtain⟨fn,tmps,assign,body,u,G⟩:=D.out ys ⟨j,t⟩ wr r (by rw[h];exact E);simp only[plF]at u;rw[hf]at u;have y1:b<wr.heap.size:=(by have:=d.1.size;omega);rw[m];have H:=fQ hj;have I:=fQ m;have K:=fQ h;clear hj m hf h
   gi_wp2
   refine G.mono ?_;rintro e W3 (⟨rfl,L,M⟩ | ⟨rfl,N⟩)
   ·gi_wp2
    go_roundw
    case rel=>exact⟨k+1,_,⟨by simp[K.out],by rw[Bc,s.out,cZz,H.out];rfl⟩,by omega,by have:=I.out;go_num,L,d.trans M⟩
    case measure=>simp[intOf]
   ·gi_wp2
    refine bodyPost_ret (results_none rfl _ _ _) rfl ?_;exact⟨⟨_,rfl⟩,.inr ⟨_,N⟩⟩
  ·obtain rfl:k=len:=by omega
   gi_wp2
   go_end0;exact⟨⟨_,rfl⟩,.inl ⟨_,s.out,r⟩⟩
theorem bVm(F:Fence)(n:Nat)(h:F.fn 108)(i:F.round=none)(hn:1<=n)(a c b off len cap:Nat)(f:Nat->List Cj)(k:len<=1000000)(w:Bi)(l:a<w.heap.size)(m:c<=w.heap.size)
  (hc:w.cell? ⟨a,0,none⟩=some (.slice (some ⟨b,off,none⟩) len cap)) (g:b<c) (o:∀ j,j<len->FiveAt w b off (f j) j) :
  SeqStopsK F n fZ 108 #[.pointer (some ⟨a,0,none⟩)] (plF (len:=len) f) (KbC c a) (fun ys=>ys.map Fin.val=aKy len len) (fun _=>True) len w:=fun q J r W d _ _ s t=>by
 have u:=(d.cell (p:=⟨a,0,none⟩) l).trans hc;have v:b<w.heap.size:=Nat.lt_of_lt_of_le g m;refine(dKh F n h i hn q a c b off len cap f k g J r s W u (by have:=d.size;omega) (fun j hj=>(o j hj).below d v) t).mono ?_;rintro e W' ⟨he,⟨ys,x,hj⟩ | ⟨pre,hj⟩⟩
 ·exact⟨he,.inl ⟨_,x,hj⟩⟩
 ·exact⟨he,.inr ⟨_,trivial,hj⟩⟩
end
section
open Go.Shelf
attribute [local go_sem] Oper.semAt_some
theorem bZz{β:Type}(g:Nat)(t:TypeId)(cs:Array Cj):Own (fun(_:β) W=>Blk W g t cs):=fun s W W' row hs hg hr=>hs.grown hg (fun e=>by
 obtain⟨o,a,hn⟩:=hr g e;have:some o=some (Obj.cells cs t (0,0)):=a.symm.trans hs;injection this with this;subst this
 cases hn)
theorem cQt{W a:Bi}(h:Cq W.heap.size W a):KeepsOthers W a:=KeepsOthers.of_grownBy (rQ h) (fun j o e=>by cases e)
structure CodeAt (w:Bi) (b off j:Nat) (l:List Cj) (c:CodeD):Prop where
 five:FiveAt w b off l j
 val:∃ p q t,l = [.int .i64 c.op,.int .u64 (c.n:Int),p,q,t]/\Ints w p c.args/\Ints w q c.outs/\Ints w t c.to
theorem dKi{d:Option Addr}{cc:Nat}{l:List CodeD}(h:Structs 5 CodeC w (.slice d n cc) l)(hn:l.length=n)(h0:0<n):
  ∃ b off,d=some ⟨b,off,none⟩/\b<w.heap.size/\∃ f:Nat->List Cj,∀ j,j<n->∃ c,l[j]? = some c/\CodeAt w b off j (f j) c:=by
 obtain⟨c0,g⟩:∃ c,l[0]? = some c:=⟨_,Ax (by omega)⟩;obtain⟨b,off,_,_,_,e,i,_⟩:=h.code g;refine⟨b,off,e,i,?_⟩
 have key:∀ j,∃ v:List Cj,j<n->∃ c,l[j]? = some c/\CodeAt w b off j v c:=by
  intro j;by_cases hj:j<n
  ·obtain⟨c,hc⟩:∃ c,l[j]? = some c:=⟨_,Ax (by omega)⟩;obtain⟨b',ad,p,q,t,a,_,k,m,o,r,s,_,s1,s2,s3⟩:=h.code hc;rw[e]at a;injection a with a;injection a with u e2;subst u;subst e2;exact⟨[.int .i64 c.op,.int .u64 (c.n:Int),p,q,t],fun _=>⟨c,hc,⟨⟨_,_,_,_,_,rfl,k,m,o,r,s⟩,⟨p,q,t,rfl,s1,s2,s3⟩⟩⟩⟩
  ·exact⟨[],fun h=>absurd h hj⟩
 exact Classical.skolem.1 key
theorem aWf{e:EnvD}{r:RowD}{c:CodeD}(hc:CheckP e r)(a:codeOk e r c=true):c.args.length<=100/\c.outs.length<=100:=by
 unfold codeOk at a
 cases hf:iX e r.sig c.op c.n with
 | none=>rw[hf]at a;cases a
 | some b=>
  obtain⟨i1,o1⟩:=b;rw[hf]at a;simp only[Af,decide_eq_true_eq]at a;have:=aXy hc.env hc.sig hf;omega
end
def aZr(j:Nat)(l:List Int)(D:List Int):List Int:=l.foldl (fun D p=>D.set p.toNat (j:Int)) D
theorem cVi(j:Nat)(l:List Int)(p:Int)(D:List Int):aZr j (l ++ [p]) D=(aZr j l D).set p.toNat (j:Int):=by simp[aZr]
theorem bQp(j:Nat):∀ (l:List Int) (D:List Int),(aZr j l D).length=D.length
 | [],_=>rfl
 | p :: l,D=>by
  show(aZr j l (D.set p.toNat (j:Int))).length=_;rw[bQp j l,Aa]
def bXk(r:RowD)(j:Nat):List Int:=match r.code[j]? with
 | some c=>c.args++c.outs
 | none=>[]
def aKd(r:RowD)(a:List Nat)(D:List Int):List Int:=a.foldl (fun D j=>aZr j (bXk r j) D) D
theorem cVj(r:RowD)(a:List Nat)(j:Nat)(D:List Int):aKd r (a ++ [j]) D=aZr j (bXk r j) (aKd r a D):=by simp[aKd]
theorem aKz(r:RowD):∀ (a:List Nat) (D:List Int),(aKd r a D).length=D.length
 | [],_=>rfl
 | j :: a,D=>by
  show(aKd r a (aZr j (bXk r j) D)).length=_;rw[aKz r a,bQp]
def aZs(l:List Int)(D:List Int):List Int:=l.foldl (fun D p=>D.set p.toNat (-1)) D
theorem cVk(l:List Int)(p:Int)(D:List Int):aZs (l ++ [p]) D=(aZs l D).set p.toNat (-1):=by simp[aZs]
theorem bQq:∀ (l:List Int) (D:List Int),(aZs l D).length=D.length
 | [],_=>rfl
 | p :: l,D=>by
  show(aZs l (D.set p.toNat (-1))).length=_;rw[bQq l,Aa]
def aWg(r:RowD):List Int:=aZs r.params (aKd r ((Bk r.code.length).map fun q=>r.code.length - 1 - q) (Aj r.places.toNat (r.code.length:Int)))
theorem dKj(r:RowD):(aWg r).length=r.places.toNat:=by simp[aWg,bQq,aKz]
section
open Go.Shelf
attribute [local go_sem] Oper.semAt_some
def BegX(gA:Nat)(D:List Int)(W:Bi):Prop:=Blk W gA 3 (i64s D).toArray
theorem BegX.own{β:Type}(gA:Nat)(F:β->List Int):Own (fun(s:β) W=>BegX gA (F s) W):=fun s W a row h2 hg hr=>bZz (β:=β) gA 3 _ s W a row h2 hg hr
theorem BegX.below{gA N:Nat}{D:List Int}{W a:Bi}(h:BegX gA D W)(b:Cq N W a)(c:gA<N):BegX gA D a:=Blk.below h b c
theorem BegX.put{gA:Nat}{D:List Int}{W:Bi}(h:BegX gA D W)(i:Nat)(x:Int):BegX gA (D.set i x) (W.setCell ⟨gA,i,none⟩ (.int .i64 x)):=qK h i x
theorem BegX.cell{gA P:Nat}{D:List Int}{W:Bi}(h:BegX gA D W)(hl:D.length=P){i:Nat}(hi:i<P):(∃ u,W.cell? ⟨gA,i,none⟩=some u)/\W.frozen? ⟨gA,i,none⟩=false/\gA<W.heap.size:=
 ⟨sY h (by omega),frozen_of_row W gA i _ _ h,Blk.lt h⟩
theorem dYx(e:EnvD)(r:RowD)(vr:Cj)(w:Bi)(P n:Nat)(hr:RowV w vr r)(hc:CheckP e r)(hP:r.places=P)(hn:r.code.length=n):
  CallsIn Fence.wide 10 fZ 53 #[vr] w fun en w'=>∃ gA,en = .returned (.slice (some ⟨gA,0,none⟩) P P)/\w.heap.size<=gA/\BegX gA (aWg r) w'/\Cq w.heap.size w w':=by
 obtain⟨vp,vq,a8,vs,rfl,h4,h5,h6,h7⟩:=hr;obtain⟨Ac,cc,rfl,_⟩:=h7.len;rw[hP];have HN:=fQ hn;have HP:=fQ hP;have HC:=fQ hc;have bb:P<=4096:=(by have:=hc.p2;omega);have bI:n<=4096:=(by have:=hc.n2;omega);have bc:0<n:=(by have:=hc.n1;omega);obtain⟨D,aq⟩:=fX r.params.length;have aL:=fQ aq
 have bd:D<=4096:=by
  have:=qJ (m:=r.places.toNat) hc.pun (fun x hx=>by have:=pQ hc.pin hx;omega);omega
 obtain⟨Ar,cr,rfl⟩:=h6.shape;have ar:=fQ h6.ir;rw[aq]at ar ⊢;rw[hn]at h7 ⊢;obtain⟨cb,off,rfl,bJ,f,hf⟩:=dKi h7 hn bc;have HF:=fQ hf;obtain⟨s0,ah⟩:∃ s,w.heap.size=s:=⟨_,rfl⟩;have Q:=fQ ah;clear hf h4 h5 h6 h7 aq hn hc hP;refine callsIn_of_wp_marks func53 rfl trivial ?_ rfl;simp only[ntmps53,Bw,BZ,Ba,Bd,Be,Bq,Bx,By,Bz,Bb,BK];have ad:=fQ (Blk.newAt w (N:=s0) 43 #[vp,vq,.int .i64 (P:Int),.slice Ar D cr,.slice (some ⟨cb,off,none⟩) n cc] ah);obtain⟨wa,au⟩:=fX (w.alloc (.cells #[vp,vq,.int .i64 (P:Int),.slice Ar D cr,.slice (some ⟨cb,off,none⟩) n cc] 43));have ae:wa.heap.size=s0+1:=(by rw[<-au];simp[ah]);have KN:=fQ (Blk.newAt wa (N:=s0+1) 3 #[.int .i64 (n:Int)] ae);have be:=fQ (show Cq s0 w wa from by rw[<-au];exact(Aw s0 w).alloc (AQ ah.symm) _);rw[au]at ad;obtain⟨F,G,H,I,J⟩:=gQ ad.out;have y1:=ad.out.lt
 gi_wp2_with fail
 refine⟨trivial,?_⟩;refine(callsIn_wide.2 (cZa (n:Int) (s0+1) P _ KN.out bb)).mono ?_;rintro en w1 ⟨rfl,ai,aj⟩;have av:(wa.alloc (.cells #[.int .i64 (n:Int)] 3)).heap.size=s0+2:=(by simp[ae]);rw[av]at ai aj ⊢;have aM:=fQ (show BegX (s0+2) (Aj P (n:Int)) w1 from ai);have aw:=fQ (show Cq s0 w w1 from(be.out.alloc (by omega) (.cells #[.int .i64 (n:Int)] 3)).trans (aj.mono (by omega)));have aN:=fQ ((Blk.alloc ad.out (.cells #[.int .i64 (n:Int)] 3)).below aj (by omega));have bL:s0+2<w1.heap.size:=ai.lt;obtain⟨a,ax⟩:∃ b,w1.heap.size=b:=⟨_,rfl⟩;have aO:=fQ (Blk.newAt w1 (N:=a) 23 #[.slice (some ⟨s0+2,0,none⟩) P P] ax);have ak:=fQ (Blk.alloc aN.out (.cells #[.slice (some ⟨s0+2,0,none⟩) P P] 23));clear F G H I J y1 ai aj KN ad;obtain⟨F,G,H,I,J⟩:=gQ ak.out;have y1:=ak.out.lt
 gi_wp2_with fail
 refine⟨trivial,?_⟩;refine(callsIn_wide.2 (cVh (some ⟨cb,off,none⟩) n cc _)).mono ?_;rintro en w2 ⟨rfl,rfl⟩
 gi_wp2_with fail
 clear F G H I J y1;have KX:=fQ (Blk.newAt (w1.alloc (.cells #[.slice (some ⟨s0+2,0,none⟩) P P] 23)) (N:=a+1) 41 #[.slice (some ⟨cb,off,none⟩) n cc] (by simp[ax]));have aP:=fQ (Blk.alloc aO.out (.cells #[.slice (some ⟨cb,off,none⟩) n cc] 41));have aQ:=fQ (Blk.alloc ak.out (.cells #[.slice (some ⟨cb,off,none⟩) n cc] 41));have aR:=fQ (show BegX (s0+2) (Aj P (n:Int)) ((w1.alloc (.cells #[.slice (some ⟨s0+2,0,none⟩) P P] 23)).alloc (.cells #[.slice (some ⟨cb,off,none⟩) n cc] 41))from(Blk.alloc (Blk.alloc aM.out _) _));have al:=fQ (show Cq s0 w ((w1.alloc (.cells #[.slice (some ⟨s0+2,0,none⟩) P P] 23)).alloc (.cells #[.slice (some ⟨cb,off,none⟩) n cc] 41))from(aw.out.alloc (by omega) _).alloc (by simp;omega) _);obtain⟨wR,ay⟩:=fX ((w1.alloc (.cells #[.slice (some ⟨s0+2,0,none⟩) P P] 23)).alloc (.cells #[.slice (some ⟨cb,off,none⟩) n cc] 41));rw[ay]at KX aP aQ aR al ⊢;have bf:wR.heap.size=a+2:=(by rw[<-ay];simp[ax]);clear ay aO aN ak aM;have bg:s0+2<a:=(by omega);have bj:cb<s0:=(by omega)
 refine wpIn_rangeFunc_ownH rfl (by omega) (gf:=108) (lb:=#[.pointer (some ⟨a+1,0,none⟩)]) rfl trivial (enters_of func108 (by kernel_rfl) rfl)
  (bVm Fence.wide (10 - 1) trivial rfl (by omega) (a+1) (s0+2) cb off n cc f (by omega) wR (by omega) (by omega) (by have:=KX.out.cell 0;simpa using this) (by omega)
   (fun j hj=>by
    obtain⟨c,_,af⟩:=HF.out j hj
    exact af.five.below al.out (by omega))) KbC.trans (KbC.put (by omega) (by omega)) (Aw _ _) (fun _=>rfl)
  (fun(pre:List (Fin n)) W=>(Blk W a 23 #[.slice (some ⟨s0+2,0,none⟩) P P]/\BegX (s0+2) (aKd r (pre.map Fin.val) (Aj P (n:Int))) W)/\Cq (s0+2) wR W)
  (fun _ _ _=>False)
  (OwnFrom.and (OwnFrom.and (Own.from (bZz _ _ _) _) (Own.from (BegX.own _ (fun pre:List (Fin n)=>aKd r (pre.map Fin.val) (Aj P (n:Int)))) _)) (ownFrom_below (by omega) (by omega)))
  (fun _ _ _ _ _ hs _ _=>hs)
  ⟨⟨aP.out,aR.out⟩,Aw _ _⟩
  (fun x a' W=>∃ L,a+1<L/\Blk W L 52 (f x.1).toArray/\a'={ tmps:=#[.agg #[vp,vq,.int .i64 (P:Int),.slice Ar D cr,.slice (some ⟨cb,off,none⟩) n cc],.pointer (some ⟨s0,0,none⟩),.slice none 0 0,.pointer (some ⟨a,0,none⟩),.int .i64 (x.1:Int),.pointer (some ⟨L,0,none⟩),undef,undef,undef,undef,.pointer (some ⟨s0,4,none⟩),.slice (some ⟨cb,off,none⟩) n cc,.int .i64 (n:Int),.slice (some ⟨s0+1,0,none⟩) 1 1,.pointer (some ⟨s0,2,none⟩),.int .i64 (P:Int),.slice (some ⟨s0+2,0,none⟩) P P,.pointer (some ⟨s0,4,none⟩),.slice (some ⟨cb,off,none⟩) n cc,.func (.func 108) #[] #[.pointer (some ⟨a+1,0,none⟩)],.int .i64 (x.1:Int),.agg (f x.1).toArray,undef,undef,undef,undef,undef,undef,undef,undef,undef,undef,undef,undef,undef,undef,undef,undef,undef,undef,undef,undef,undef,undef,undef,undef,undef,undef,undef,undef],defers:=[] })
  (fun x a' _ X Y row hs hg hr=>by obtain⟨L,h1,h2,h3⟩:=hs;exact⟨L,h1,bZz (β:=Unit) L 52 _ () X Y row h2 hg (fun r e=>(hr r e).2),h3⟩)
  ?assign ?body ?done ?stop
 case assign=>
  rintro l pre x W K ⟨⟨R,E⟩,B⟩ hK;obtain⟨c,_,af⟩:=HF.out x.1 x.2;obtain⟨p,q,t,S,g,o,d⟩:=af.val;obtain⟨T,U,rfl⟩:=g.shape;obtain⟨V,Z,rfl⟩:=o.shape;obtain⟨tA,tc,rfl⟩:=d.shape;have aS:=B.size;simp only[plF];rw[S];clear g o d
  gi_wp2
  exact hK _ _ ((KeepsOthers.alloc _ _).from _) ⟨(Aw _ W).alloc (by omega) _,Bj (w:=W) (Below.heap_alloc W _ (a+1) (by omega))⟩
   ⟨⟨R.alloc _,(BegX.own (β:=Unit) _ (fun _=>_)) () _ _ none E (World.grownBy_alloc W _ none) (fun r e=>by cases e)⟩,B.alloc (by omega) _⟩
   ⟨W.heap.size,by omega,by rw[S];exact Blk.new W 52 _,by rw[S]⟩
 case body=>
  rintro l pre x a' W hl ⟨rr,bM⟩ ⟨⟨R,E⟩,B⟩ ⟨L,bN,bX,rfl⟩ bO;obtain⟨c,aT,af⟩:=HF.out x.1 x.2;obtain⟨p,q,t,S,g,o,d⟩:=af.val;obtain⟨T,U,rfl⟩:=g.shape;obtain⟨V,Z,rfl⟩:=o.shape;obtain⟨tA,tc,rfl⟩:=d.shape;have az:=HC.out.code c (Av aT);have aU:=fQ (qY az);have aV:=aWf HC.out az;obtain⟨DD,aW⟩:=fX (aKd r (pre.map Fin.val) (Aj P (n:Int)));have aX:=fQ aW;have bk:=fQ (show bXk r x.1=c.args++c.outs from by unfold bXk;rw[aT]);rw[aW]at E;rw[S]at bX ⊢;have aS:=B.size;have aA:=al.out.trans (B.mono (by omega));have bl:=fQ ((g.below aA (by omega)).ir);have bm:=fQ ((o.below aA (by omega)).ir);obtain⟨F,G,H,I,J⟩:=gQ bX;have y1:=bX.lt;obtain⟨N,hN⟩:=fX W.heap.size;have K2:=fQ (Blk.newAt W (N:=N) 23 #[.slice T c.args.length U,.slice V c.outs.length Z] hN);have aB:=fQ (bl.out.alloc (.cells #[.slice T c.args.length U,.slice V c.outs.length Z] 23));have aC:=fQ (bm.out.alloc (.cells #[.slice T c.args.length U,.slice V c.outs.length Z] 23));clear S g o d az aA
  gi_wp2_with fail
  refine⟨trivial,?_⟩;refine(CallsIn.inRound l (callsIn_wide.2 (dYw c.args c.outs (.slice T c.args.length U) (.slice V c.outs.length Z) N _ K2.out aB.out aC.out aV.1 aV.2))).mono ?_;rintro en W1 ⟨v,rfl,ho,hb⟩;obtain⟨m,hm⟩:=fX (c.args.length+c.outs.length);have aY:(c.args++c.outs).length=m:=(by simp[hm]);have aZ:=fQ aY;have bP:m<=200:=(by omega);rw[hm]at ho;obtain⟨vA,vc,rfl,_⟩:=fW ho;have ag:(W.alloc (.cells #[.slice T c.args.length U,.slice V c.outs.length Z] 23)).heap.size=N+1:=(by simp[hN]);have ab:Cq W.heap.size W W1:=((Aw W.heap.size W).alloc (Aq _) _).trans (hb.mono (by simp));have bn:=fQ (show IR W1 (.slice vA m vc) (c.args++c.outs)from IR.of (Src.fQj ho) aY);have bo:=fQ (cQt ab);have aw:=fQ (ab.mono (show s0+2<=W.heap.size by omega));have bp:=fQ (show W1.cell? ⟨a+1,0,none⟩=W.cell? ⟨a+1,0,none⟩from ab.cell (p:=⟨a+1,0,none⟩) (show a+1<W.heap.size by omega));have bq:=fQ (R.below ab (by omega));have br:=fQ (E.below ab (by omega))
  have bs:=fQ (show ∀ y∈c.args++c.outs,0<=y/\y<(P:Int)from fun y A=>by
   rw[<-HP.out];rcases List.mem_append.1 A with h | h
   ·exact aU.out.1 y h
   ·exact aU.out.2.1 y h)
  have bQ:s0+2<N:=(by omega);have bt:=fQ (show ∀ j,(Value.slice vA m vc).ownBlock=some j->N+1<=j from fun j h=>by have:=(ho.lt j h).1;rw[ag]at this;exact this);clear ho hb ab ag F G H I J y1 hm
  gi_wp2_with fail
  have bu:DD.length=P:=by rw[<-aX.out,aKz];simp
  gi_loopw [29] (fun i wr=>∃ k:Nat,k<=m/\i = .int .i64 k/\Hid (KeepsOthers W wr/\KbC (s0+2) (a+1) W wr/\Blk wr a 23 #[.slice (some ⟨s0+2,0,none⟩) P P]/\BegX (s0+2) (aZr x.1 ((c.args++c.outs).take k) DD) wr/\IR wr (.slice vA m vc) (c.args++c.outs))) (fun i _=>m - (intOf i).toNat)
  case atStart=>exact⟨0,by omega,rfl,fQ ⟨bo.out,⟨aw.out,bp.out⟩,bq.out,br.out,bn.out⟩⟩
  case round=>
   obtain⟨k,hk,rfl,IH⟩:=hrel;by_cases aD:k<m
   ·have t1:decide ((k:Int)<m)=true:=(by simp;omega);have t2:(k:Int)<m:=(by omega);obtain⟨y,A⟩:∃ y,(c.args++c.outs)[k]? = some y:=⟨_,Ax (by rw[aZ.out];exact aD)⟩;have aE:=bs.out y (Av A);obtain⟨M,rfl⟩:∃ z:Nat,y=z:=⟨y.toNat,by omega⟩;have aF:M<P:=(by omega);have bw:(M:Int)<P:=(by omega);obtain⟨g,o,d,C,i5⟩:=IH.out;obtain⟨vb,vo,rfl,bx,bz⟩:=i5.cell A;have c0:=d.cell 0;simp at c0;have y0:=d.lt;obtain⟨⟨u,c1⟩,c2,c3⟩:=C.cell (by rw[bQp];exact bu) aF;have bT:=bt.out vb rfl;have bD:=fQ i5;have aG:=fQ C;have aH:=fQ d;have an:=fQ o;have aI:=fQ g
    have aJ:=fQ (show aZr x.1 ((c.args++c.outs).take (k+1)) DD=(aZr x.1 ((c.args++c.outs).take k) DD).set M (x.1:Int)from by
     obtain⟨h1,h2⟩:=List.getElem?_eq_some_iff.1 A
     rw[Ak h1,h2,cVi,AV])
    clear A aE g o d C i5 IH
    gi_wp2_with fail
    refine⟨⟨k+1,by omega,by simp,fQ ⟨aI.out.trans (KeepsOthers.setCell _ _ _),⟨an.out.1.setCell (p:=⟨s0+2,_,none⟩) (Aq _) _,(World.cell?_setCell_other _ _ _ _ (by simp;try omega)).trans an.out.2⟩,aH.out.setCell _ (by simp;try omega),(by rw[aJ.out];exact aG.out.put _ _),IR.fXl bD.out (by omega)⟩⟩,by simp[intOf];omega⟩
   ·have t1:decide ((k:Int)<m)=false:=(by simp;omega);obtain⟨g,o,d,C,i5⟩:=IH.out
    gi_wp2_with fail
    have aa:(c.args++c.outs).take k=c.args++c.outs:=AJ (by rw[aZ.out];omega);rw[aa,<-aX.out,<-bk.out,<-cVj]at C;exact⟨g.from _,o,⟨d,by rw[Bc];exact C⟩,B.trans o.1⟩
 case done=>
  rintro O ys W bU a1 ⟨⟨R,E⟩,B⟩ hK;rw[a1]at E;obtain⟨DE,ao⟩:=fX (aKd r (aKy n n) (Aj P (n:Int)));have bE:=fQ ao;have bF:DE.length=P:=(by rw[<-ao,aKz];simp);rw[ao]at E;clear ao a1;have aS:=B.size;have aK:=aQ.out.below B (by omega);have a6:=fQ (al.out.trans (B.mono (by omega)));have bV:=fQ (ar.out.below a6.out (AQ Q.out))
  have bG:=fQ (show ∀ y∈r.params,0<=y/\y<(P:Int)from fun y A=>by
   rw[<-HP.out]
   exact pQ HC.out.pin A)
  obtain⟨F,G,H,I,J⟩:=gQ aK;have y1:=aK.lt;have a7:=fQ (show W.heap[O]? = some (.deferred (some []))/\Blk W a 23 #[.slice (some ⟨s0+2,0,none⟩) P P]/\BegX (s0+2) (aZs (r.params.take 0) DE) W/\Cq s0 w W/\O<W.heap.size from⟨hK,R,E,a6.out,(Array.getElem?_eq_some_iff.1 hK).1⟩);clear hK R E B aK
  gi_wp2_with fail
  clear F G H I J y1
  gi_loopw [41] (fun i wr=>∃ k:Nat,k<=D/\i = .int .i64 k/\Hid (wr.heap[O]? = some (.deferred (some []))/\Blk wr a 23 #[.slice (some ⟨s0+2,0,none⟩) P P]/\BegX (s0+2) (aZs (r.params.take k) DE) wr/\Cq s0 w wr/\O<wr.heap.size)) (fun i _=>D - (intOf i).toNat)
  case atStart=>exact⟨0,by omega,rfl,a7⟩
  case round=>
   clear a7;obtain⟨k,hk,rfl,IH⟩:=hrel;obtain⟨g,o,d,C,i5⟩:=IH.out;have c0:=o.cell 0;simp at c0;have y0:=o.lt;by_cases aD:k<D
   ·have t1:decide ((k:Int)<D)=true:=(by simp;omega);have t2:(k:Int)<D:=(by omega);obtain⟨y,A⟩:∃ y,r.params[k]? = some y:=⟨_,Ax (by rw[aL.out];exact aD)⟩;have aE:=bG.out y (Av A);obtain⟨M,rfl⟩:∃ z:Nat,y=z:=⟨y.toNat,by omega⟩;have aF:M<P:=(by omega);have bw:(M:Int)<P:=(by omega);obtain⟨vb,vo,rfl,bx,bz⟩:=(ar.out.below C (AQ Q.out)).cell A;obtain⟨⟨u,c1⟩,c2,c3⟩:=d.cell (by rw[bQq];exact bF) aF;have aG:=fQ C;have aH:=fQ d;have an:=fQ o;have aI:=fQ g
    have aJ:=fQ (show aZs (r.params.take (k+1)) DE=(aZs (r.params.take k) DE).set M (-1)from by
     obtain⟨h1,h2⟩:=List.getElem?_eq_some_iff.1 A
     rw[Ak h1,h2,cVk,AV])
    clear A aE g o d C IH
    gi_wp2_with fail
    refine⟨⟨k+1,by omega,by simp,fQ ⟨(KeepsOthers.setCell _ _ _).same O _ aI.out rfl,an.out.setCell _ (by simp;try omega),(by rw[aJ.out];exact aH.out.put _ _),aG.out.setCell (p:=⟨s0+2,_,none⟩) (by simp;try omega) _,by simpa using i5⟩⟩,by simp[intOf];omega⟩
   ·have t1:decide ((k:Int)<D)=false:=by simp;omega
    gi_wp2_with fail
    refine⟨by simp,.inl ⟨_,_,rfl,run_takeDeferred g,?_⟩⟩;have aa:r.params.take k=r.params:=AJ (by rw[aL.out];omega)
    have bH:aZs r.params DE=aWg r:=by
     unfold aWg;rw[<-bE.out,HP.out,HN.out,AV];rfl
    rw[aa,bH]at d;refine⟨_,results_tmp (t:=2) rfl _ _ _,s0+2,rfl,by rw[Q.out];omega,(BegX.own (β:=Unit) _ (fun _=>_)).putObj (s:=()) _ d g rfl,?_⟩;rw[Q.out];exact C.trans (belowK_b (w:=w) (AQ Q.out.symm) wr O _ _ (by have:=Q.out;omega) g rfl rfl)
 case stop=>
  rintro O c pre W _ _ h _;exact h.elim
theorem eWl(e:EnvD)(r:RowD)(a:Cj)(w:Bi)(P n:Nat)(hr:RowV w a r)(hc:CheckP e r)(b:r.places=P)(hn:r.code.length=n):
  Cx fZ 53 #[a] w fun c w'=>∃ gA,c = .returned (.slice (some ⟨gA,0,none⟩) P P)/\w.heap.size<=gA/\BegX gA (aWg r) w'/\Cq w.heap.size w w':=
 (callsIn_wide (n:=10)).1 (dYx e r a w P n hr hc b hn)
end
end Go.Proofs.YtabibkpfgmolkaaGreat

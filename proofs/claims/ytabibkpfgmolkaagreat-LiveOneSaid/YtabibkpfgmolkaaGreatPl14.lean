/- Lemmas for the claim, part 14. Conditions: none. -/
import Derived.Test.YtabibkpfgmolkaaGreatPl06
import Derived.Test.YtabibkpfgmolkaaGreatPl13
import Derived.Deep.AppendLies
import Derived.Deep.RegionHeld3
import Derived.Laws.CopyOwn
import Derived.RangeFuncBound
import Derived.RangeFuncNested
import Derived.StillTailTactics
set_option maxRecDepth 100000
set_option maxHeartbeats 16000000
set_option linter.unusedVariables false
set_option linter.unusedSimpArgs false
open Go.Lib renaming hid→fQ
open Go.Proofs.Tryz renaming prog→fZ
open Go.Proofs.Tryz
open Go.RowKit
open Nat renaming le_refl→Aj
open Go.Act renaming put→Aq
open List renaming getElem?_eq_getElem→Ax,take_succ_eq_append_getElem→Ak,mem_of_find?_eq_some→Aw,take_of_length_le→AJ,mem_of_getElem?→AX,find?_some→AZ
open Go.RowKit.Below renaming drew→Az,refl→Ay
open Go.IntWalk renaming i64_in→Av
open Array renaming replicate→AQ
open Go renaming World→AK,Value→AV,Calls→AY
open Go.RowKit renaming Below→AW
namespace Go.Proofs.YtabibkpfgmolkaaGreat
theorem cJu{op:Int}{x:Int×Int×Bool×Bool}(h:acc op=some x):40<=op/\op<=62:=by
 unfold acc at h;obtain⟨r,a,_⟩:=Option.map_eq_some_iff.1 h;have h1:=AZ a;have h2:=Aw a;have b:∀ r∈aXv,40<=r.1/\r.1<=62:=(by decide);have h4:=b r h2;simp at h1;omega
theorem cJv{op:Int}{g:Int×Int×Int×Int}(h:fV op=some g):69<=op:=by
 unfold fV at h;have h1:=AZ h;have h2:=Aw h;have a:∀ r∈qY,69<=r.1:=(by decide);have h4:=a g h2;unfold inG at h1;simp at h1;omega
theorem vX{op:Int}(h:op<40\/62<op):acc op=none:=by
 cases ha:acc op with
 | none=>rfl
 | some x=>have:=cJu ha;omega
theorem bJy:∀ op ∈ [(256:Int),257,258],(fV op).isSome=false:=by decide
theorem cJw{e:EnvD}{s:SigD}{op:Int}{n:Nat}(h1:op≠256)(h2:op<272\/277<op)(a:op≠258)(b:op≠27)(c:op≠16)(d:op≠35)(f:op≠36)(hg:(fV op).isSome=false):iZ e s op n=mY e.mem op n:=by
 unfold iZ;simp only[show op≠272 by omega,show op≠273 by omega,show op≠274 by omega,show op≠275 by omega,show op≠276 by omega,show op≠277 by omega,h1,a,b,c,d,f,hg,if_false,or_self,Bool.false_eq_true]
theorem cJx(e:EnvD)(s:SigD)(a:AV)(op:Int)(n:Nat)(hn:n<18446744073709551616)(w:AK)(he:EnvV w a e)(t:e.muts.length=e.globals.length)(d:op≠256)(m:op≠27)(u:op<272\/277<op):
  AY fZ 96 #[a,.agg #[.int .i64 op,.int .u64 (n:Int),.slice none 0 0,.slice none 0 0],.int .i64 0] w (FmP (iZ e s op n) w):=by
 by_cases c:op=258
 ·have h:=cQe e s a op n hn w he c (by rw[c];exact bJy 258 (by simp)) (vX (by omega));subst c;exact h
 cases hg:(fV op).isSome with
 | true=>
  obtain⟨g,v⟩:=Option.isSome_iff_exists.1 hg;have an:=cJv v;have h:=cJs e s a op n hn w he d c hg (vX (by omega))
  have b:iZ e s op n=if n=0 then some (gX op,[kW op])else none:=by
   unfold iZ;simp only[show op≠272 by omega,show op≠273 by omega,show op≠274 by omega,show op≠275 by omega,show op≠276 by omega,show op≠277 by omega,d,c,m,show op≠16 by omega,show op≠35 by omega,show op≠36 by omega,hg,if_false,or_self,if_true]
  rw[b];exact h
 | false=>
  by_cases f:op=35
  ·have h:=cYt e s a op n hn w he f hg (vX (by omega)) t;subst f;exact h
  by_cases i:op=36
  ·have h:=cYu e s a op n hn w he i hg (vX (by omega)) t;subst i;exact h
  by_cases j:op=16
  ·have h:=cYv e s a op n hn w he j hg (vX (by omega));subst j;exact h
  rw[cJw d u c m j f i hg]
  cases l:e.mem with
  | false=>
   have b:mY false op n=none:=(by simp[mY]);rw[b]
   cases ha:acc op with
   | none=>exact bZq e s a op n hn w he d c m f i j hg l ha
   | some x=>
    obtain⟨k,wd,st,p⟩:=x;exact bZr e s a op n hn w he d c m f i j hg l k wd st p ha
  | true=>
   by_cases o:op=257
   ·have h:=cJt e s a op n hn w he o hg l (vX (by omega));have b:mY true op n=if n<=8589934592 then some ([127],[])else none:=(by simp[mY,o]);rw[b];exact h
   cases ha:acc op with
   | some x=>
    obtain⟨k,wd,st,p⟩:=x;have b:mY true op n=if n<=4294967295 then some (if st then([127,k],[])else([127],[k]))else none:=(by simp[mY,o,ha]);rw[b]
    cases st with
    | true=>exact bQp e s a op n hn w he d c m f i j o hg l k wd p ha
    | false=>exact aYf e s a op n hn w he d c m f i j o hg l k wd p ha
   | none=>
    by_cases q:op=63
    ·have h:=cYw e s a op n hn w he q hg l ha;have b:mY true op n=if n=0 then some ([],[127])else none:=(by subst q;simp[mY,ha]);rw[b];exact h
    by_cases r:op=64
    ·have h:=cYx e s a op n hn w he r hg l ha;have b:mY true op n=if n=0 then some ([127],[127])else none:=(by subst r;simp[mY,ha]);rw[b];exact h
    have b:mY true op n=none:=(by simp[mY,o,ha,q,r]);rw[b];exact cQf e s a op n hn w he d c m f i j o q r hg l ha
theorem cJy(e:EnvD)(s:SigD)(c:CodeD)(g vs h:AV)(w:AK)(he:EnvV w g e)(hs:SigV w vs s)(hc:CodeV w h c)(i:e.muts.length=e.globals.length)(ho:c.op=272):
  AY fZ 68 #[g,vs,h] w (FmP (if c.n=0 then some ([0],[0])else none) w):=by
 have HE:=fQ he;obtain⟨va,vb,vd,rfl,h1,h2,m⟩:=he;obtain⟨o,cs,rfl,_⟩:=h1.len;obtain⟨r,cg,rfl⟩:=h2.shape;obtain⟨t,u,rfl,_⟩:=m;obtain⟨p,q,rfl,j,d⟩:=hs;obtain⟨v,x,rfl⟩:=j.shape;obtain⟨y,z,rfl⟩:=d.shape;have HO:=fQ d.ir;obtain⟨p,q,tt,rfl,k,s1,s2,s3⟩:=hc;obtain⟨A,B,rfl⟩:=s1.shape;obtain⟨C,D,rfl⟩:=s2.shape;obtain⟨E,tc,rfl⟩:=s3.shape;have an:=fQ k;have ao:=fQ i;have B0:=fQ (al3 w (.cells #[.slice o e.sigs.length cs,.int .i64 e.imports,.slice r e.globals.length cg,.slice t e.muts.length u,.bool e.mem] 26) (.cells #[.slice v s.inn.length x,.slice y s.out.length z] 40) (.cells #[.int .i64 c.op,.int .u64 (c.n:Int),.slice A c.args.length B,.slice C c.outs.length D,.slice E c.to.length tc] 52));clear h1 h2 j d s1 s2 s3 k i;have af:(c.op == 272)=true:=(by simp[ho]);have ag:(c.op == 273)=false:=(by simp;omega);have ah:(c.op == 277)=false:=(by simp;omega);have ai:(c.op == 274)=false:=(by simp;omega);have aj:(c.op == 275)=false:=(by simp;omega);have ak:(c.op == 276)=false:=(by simp;omega);have aq:(c.op == 27)=false:=(by simp;omega);have al:(c.op == 256)=false:=(by simp;omega);clear ho;obtain⟨FF,f⟩:∃ F:Option (List Int×List Int),(if c.n=0 then some ([0],[0])else none)=F:=⟨_,rfl⟩;rw[f];have l:=fQ f;clear f;go_in;by_cases a:c.n=0
 ·have G:=aXk a;have b:=fQ (l.out.symm.trans (if_pos a));clear a;go_wp2_with fail;go_region
  all_goals
   go_wp2;go_ret3
   first
    | (refine FmP.yes b.out (IR.drew (IR.one (Blk.alloc (Blk.newAt _ _ _ ?_) _))) (IR.drew (IR.one (Blk.newAt _ _ _ ?_))) (Az ((B0.out.alloc B0.out.size _).alloc ?_ _)) <;> ((try simp);(try omega);done))
    | (refine FmP.yes b.out (IR.drew (IR.one (Blk.newAt _ _ _ ?_))) (IR.drew (IR.one (Blk.alloc (Blk.newAt _ _ _ ?_) _))) (Az ((B0.out.alloc B0.out.size _).alloc ?_ _)) <;> ((try simp);(try omega);done))
 ·have G:=aXl a;have b:=fQ (l.out.symm.trans (if_neg a));clear a;go_wp2_with fail;go_region
  all_goals
   go_wp2;go_ret3
   first
    | (refine FmP.no b.out (IR.drew (IR.one (Blk.alloc (Blk.newAt _ _ _ ?_) _))) (IR.drew (IR.one (Blk.newAt _ _ _ ?_))) (Az ((B0.out.alloc B0.out.size _).alloc ?_ _)) <;> ((try simp);(try omega);done))
    | (refine FmP.no b.out (IR.drew (IR.one (Blk.newAt _ _ _ ?_))) (IR.drew (IR.one (Blk.alloc (Blk.newAt _ _ _ ?_) _))) (Az ((B0.out.alloc B0.out.size _).alloc ?_ _)) <;> ((try simp);(try omega);done))
theorem cJz(e:EnvD)(s:SigD)(c:CodeD)(g vs h:AV)(w:AK)(he:EnvV w g e)(hs:SigV w vs s)(hc:CodeV w h c)(i:e.muts.length=e.globals.length)(ho:c.op=273):
  AY fZ 68 #[g,vs,h] w (FmP (if c.n=0 then some ([],[])else none) w):=by
 have HE:=fQ he;obtain⟨va,vb,vd,rfl,h1,h2,m⟩:=he;obtain⟨o,cs,rfl,_⟩:=h1.len;obtain⟨r,cg,rfl⟩:=h2.shape;obtain⟨t,u,rfl,_⟩:=m;obtain⟨p,q,rfl,j,b⟩:=hs;obtain⟨v,x,rfl⟩:=j.shape;obtain⟨y,z,rfl⟩:=b.shape;have HO:=fQ b.ir;obtain⟨p,q,tt,rfl,k,s1,s2,s3⟩:=hc;obtain⟨A,B,rfl⟩:=s1.shape;obtain⟨C,D,rfl⟩:=s2.shape;obtain⟨E,tc,rfl⟩:=s3.shape;have an:=fQ k;have ao:=fQ i;have B0:=fQ (al3 w (.cells #[.slice o e.sigs.length cs,.int .i64 e.imports,.slice r e.globals.length cg,.slice t e.muts.length u,.bool e.mem] 26) (.cells #[.slice v s.inn.length x,.slice y s.out.length z] 40) (.cells #[.int .i64 c.op,.int .u64 (c.n:Int),.slice A c.args.length B,.slice C c.outs.length D,.slice E c.to.length tc] 52));clear h1 h2 j b s1 s2 s3 k i;have af:(c.op == 272)=false:=(by simp;omega);have ag:(c.op == 273)=true:=(by simp[ho]);have ah:(c.op == 277)=false:=(by simp;omega);have ai:(c.op == 274)=false:=(by simp;omega);have aj:(c.op == 275)=false:=(by simp;omega);have ak:(c.op == 276)=false:=(by simp;omega);have aq:(c.op == 27)=false:=(by simp;omega);have al:(c.op == 256)=false:=(by simp;omega);clear ho;obtain⟨FF,d⟩:∃ F:Option (List Int×List Int),(if c.n=0 then some ([],[])else none)=F:=⟨_,rfl⟩;rw[d];have l:=fQ d;clear d;go_in;by_cases a:c.n=0
 ·have G:=aXk a;have f:=fQ (l.out.symm.trans (if_pos a));clear a;go_wp2_with fail;go_quiet (fail)
  all_goals
   go_wp2;go_ret3;exact FmP.yes f.out (IR.nil _) (IR.nil _) (fK B0.out _)
 ·have G:=aXl a;have f:=fQ (l.out.symm.trans (if_neg a));clear a;go_wp2_with fail;go_quiet (fail)
  all_goals
   go_wp2;go_ret3;exact FmP.no f.out (IR.nil _) (IR.nil _) (fK B0.out _)
theorem cKa(e:EnvD)(s:SigD)(c:CodeD)(g vs h:AV)(w:AK)(he:EnvV w g e)(hs:SigV w vs s)(hc:CodeV w h c)(i:e.muts.length=e.globals.length)(ho:c.op=277):
  AY fZ 68 #[g,vs,h] w (FmP (if c.n=0 then some ([],[])else none) w):=by
 have HE:=fQ he;obtain⟨va,vb,vd,rfl,h1,h2,m⟩:=he;obtain⟨o,cs,rfl,_⟩:=h1.len;obtain⟨r,cg,rfl⟩:=h2.shape;obtain⟨t,u,rfl,_⟩:=m;obtain⟨p,q,rfl,j,b⟩:=hs;obtain⟨v,x,rfl⟩:=j.shape;obtain⟨y,z,rfl⟩:=b.shape;have HO:=fQ b.ir;obtain⟨p,q,tt,rfl,k,s1,s2,s3⟩:=hc;obtain⟨A,B,rfl⟩:=s1.shape;obtain⟨C,D,rfl⟩:=s2.shape;obtain⟨E,tc,rfl⟩:=s3.shape;have an:=fQ k;have ao:=fQ i;have B0:=fQ (al3 w (.cells #[.slice o e.sigs.length cs,.int .i64 e.imports,.slice r e.globals.length cg,.slice t e.muts.length u,.bool e.mem] 26) (.cells #[.slice v s.inn.length x,.slice y s.out.length z] 40) (.cells #[.int .i64 c.op,.int .u64 (c.n:Int),.slice A c.args.length B,.slice C c.outs.length D,.slice E c.to.length tc] 52));clear h1 h2 j b s1 s2 s3 k i;have af:(c.op == 272)=false:=(by simp;omega);have ag:(c.op == 273)=false:=(by simp;omega);have ah:(c.op == 277)=true:=(by simp[ho]);have ai:(c.op == 274)=false:=(by simp;omega);have aj:(c.op == 275)=false:=(by simp;omega);have ak:(c.op == 276)=false:=(by simp;omega);have aq:(c.op == 27)=false:=(by simp;omega);have al:(c.op == 256)=false:=(by simp;omega);clear ho;obtain⟨FF,d⟩:∃ F:Option (List Int×List Int),(if c.n=0 then some ([],[])else none)=F:=⟨_,rfl⟩;rw[d];have l:=fQ d;clear d;go_in;by_cases a:c.n=0
 ·have G:=aXk a;have f:=fQ (l.out.symm.trans (if_pos a));clear a;go_wp2_with fail;go_quiet (fail)
  all_goals
   go_wp2;go_ret3;exact FmP.yes f.out (IR.nil _) (IR.nil _) (fK B0.out _)
 ·have G:=aXl a;have f:=fQ (l.out.symm.trans (if_neg a));clear a;go_wp2_with fail;go_quiet (fail)
  all_goals
   go_wp2;go_ret3;exact FmP.no f.out (IR.nil _) (IR.nil _) (fK B0.out _)
theorem cKb(e:EnvD)(s:SigD)(c:CodeD)(g vs h:AV)(w:AK)(he:EnvV w g e)(hs:SigV w vs s)(hc:CodeV w h c)(i:e.muts.length=e.globals.length)(ho:c.op=274):
  AY fZ 68 #[g,vs,h] w (FmP (if c.n=0 then some ([127],[])else none) w):=by
 have HE:=fQ he;obtain⟨va,vb,vd,rfl,h1,h2,m⟩:=he;obtain⟨o,cs,rfl,_⟩:=h1.len;obtain⟨r,cg,rfl⟩:=h2.shape;obtain⟨t,u,rfl,_⟩:=m;obtain⟨p,q,rfl,j,b⟩:=hs;obtain⟨v,x,rfl⟩:=j.shape;obtain⟨y,z,rfl⟩:=b.shape;have HO:=fQ b.ir;obtain⟨p,q,tt,rfl,k,s1,s2,s3⟩:=hc;obtain⟨A,B,rfl⟩:=s1.shape;obtain⟨C,D,rfl⟩:=s2.shape;obtain⟨E,tc,rfl⟩:=s3.shape;have an:=fQ k;have ao:=fQ i;have B0:=fQ (al3 w (.cells #[.slice o e.sigs.length cs,.int .i64 e.imports,.slice r e.globals.length cg,.slice t e.muts.length u,.bool e.mem] 26) (.cells #[.slice v s.inn.length x,.slice y s.out.length z] 40) (.cells #[.int .i64 c.op,.int .u64 (c.n:Int),.slice A c.args.length B,.slice C c.outs.length D,.slice E c.to.length tc] 52));clear h1 h2 j b s1 s2 s3 k i;have af:(c.op == 272)=false:=(by simp;omega);have ag:(c.op == 273)=false:=(by simp;omega);have ah:(c.op == 277)=false:=(by simp;omega);have ai:(c.op == 274)=true:=(by simp[ho]);have aj:(c.op == 275)=false:=(by simp;omega);have ak:(c.op == 276)=false:=(by simp;omega);have aq:(c.op == 27)=false:=(by simp;omega);have al:(c.op == 256)=false:=(by simp;omega);clear ho;obtain⟨FF,d⟩:∃ F:Option (List Int×List Int),(if c.n=0 then some ([127],[])else none)=F:=⟨_,rfl⟩;rw[d];have l:=fQ d;clear d;go_in;by_cases a:c.n=0
 ·have G:=aXk a;have f:=fQ (l.out.symm.trans (if_pos a));clear a;go_wp2_with fail;go_region
  all_goals
   go_wp2;go_ret3;exact FmP.yes f.out ((IR.one (Blk.newAt _ _ _ (by simp))).drew) (IR.nil _) ((B0.out.alloc B0.out.size _).drew)
 ·have G:=aXl a;have f:=fQ (l.out.symm.trans (if_neg a));clear a;go_wp2_with fail;go_region
  all_goals
   go_wp2;go_ret3;exact FmP.no f.out ((IR.one (Blk.newAt _ _ _ (by simp))).drew) (IR.nil _) ((B0.out.alloc B0.out.size _).drew)
theorem cKc(e:EnvD)(s:SigD)(c:CodeD)(g vs h:AV)(w:AK)(he:EnvV w g e)(hs:SigV w vs s)(hc:CodeV w h c)(i:e.muts.length=e.globals.length)(ho:c.op=275):
  AY fZ 68 #[g,vs,h] w (FmP (if c.n=0 then some ([127],[])else none) w):=by
 have HE:=fQ he;obtain⟨va,vb,vd,rfl,h1,h2,m⟩:=he;obtain⟨o,cs,rfl,_⟩:=h1.len;obtain⟨r,cg,rfl⟩:=h2.shape;obtain⟨t,u,rfl,_⟩:=m;obtain⟨p,q,rfl,j,b⟩:=hs;obtain⟨v,x,rfl⟩:=j.shape;obtain⟨y,z,rfl⟩:=b.shape;have HO:=fQ b.ir;obtain⟨p,q,tt,rfl,k,s1,s2,s3⟩:=hc;obtain⟨A,B,rfl⟩:=s1.shape;obtain⟨C,D,rfl⟩:=s2.shape;obtain⟨E,tc,rfl⟩:=s3.shape;have an:=fQ k;have ao:=fQ i;have B0:=fQ (al3 w (.cells #[.slice o e.sigs.length cs,.int .i64 e.imports,.slice r e.globals.length cg,.slice t e.muts.length u,.bool e.mem] 26) (.cells #[.slice v s.inn.length x,.slice y s.out.length z] 40) (.cells #[.int .i64 c.op,.int .u64 (c.n:Int),.slice A c.args.length B,.slice C c.outs.length D,.slice E c.to.length tc] 52));clear h1 h2 j b s1 s2 s3 k i;have af:(c.op == 272)=false:=(by simp;omega);have ag:(c.op == 273)=false:=(by simp;omega);have ah:(c.op == 277)=false:=(by simp;omega);have ai:(c.op == 274)=false:=(by simp;omega);have aj:(c.op == 275)=true:=(by simp[ho]);have ak:(c.op == 276)=false:=(by simp;omega);have aq:(c.op == 27)=false:=(by simp;omega);have al:(c.op == 256)=false:=(by simp;omega);clear ho;obtain⟨FF,d⟩:∃ F:Option (List Int×List Int),(if c.n=0 then some ([127],[])else none)=F:=⟨_,rfl⟩;rw[d];have l:=fQ d;clear d;go_in;by_cases a:c.n=0
 ·have G:=aXk a;have f:=fQ (l.out.symm.trans (if_pos a));clear a;go_wp2_with fail;go_region
  all_goals
   go_wp2;go_ret3;exact FmP.yes f.out ((IR.one (Blk.newAt _ _ _ (by simp))).drew) (IR.nil _) ((B0.out.alloc B0.out.size _).drew)
 ·have G:=aXl a;have f:=fQ (l.out.symm.trans (if_neg a));clear a;go_wp2_with fail;go_region
  all_goals
   go_wp2;go_ret3;exact FmP.no f.out ((IR.one (Blk.newAt _ _ _ (by simp))).drew) (IR.nil _) ((B0.out.alloc B0.out.size _).drew)
theorem cKd(e:EnvD)(s:SigD)(c:CodeD)(g vs h:AV)(w:AK)(he:EnvV w g e)(hs:SigV w vs s)(hc:CodeV w h c)(i:e.muts.length=e.globals.length)(ho:c.op=276):
  AY fZ 68 #[g,vs,h] w (FmP (if c.n=0 then some (s.out,[])else none) w):=by
 have HE:=fQ he;obtain⟨va,vb,vd,rfl,h1,h2,o⟩:=he;obtain⟨r,cs,rfl,_⟩:=h1.len;obtain⟨t,cg,rfl⟩:=h2.shape;obtain⟨u,v,rfl,_⟩:=o;obtain⟨p,q,rfl,j,b⟩:=hs;obtain⟨x,y,rfl⟩:=j.shape;obtain⟨z,A,rfl⟩:=b.shape;have k:=fQ b.ir;obtain⟨p,q,tt,rfl,l,s1,s2,s3⟩:=hc;obtain⟨B,C,rfl⟩:=s1.shape;obtain⟨D,E,rfl⟩:=s2.shape;obtain⟨G,tc,rfl⟩:=s3.shape;have an:=fQ l;have ao:=fQ i;have B0:=fQ (al3 w (.cells #[.slice r e.sigs.length cs,.int .i64 e.imports,.slice t e.globals.length cg,.slice u e.muts.length v,.bool e.mem] 26) (.cells #[.slice x s.inn.length y,.slice z s.out.length A] 40) (.cells #[.int .i64 c.op,.int .u64 (c.n:Int),.slice B c.args.length C,.slice D c.outs.length E,.slice G c.to.length tc] 52));clear h1 h2 j b s1 s2 s3 l i;have af:(c.op == 272)=false:=(by simp;omega);have ag:(c.op == 273)=false:=(by simp;omega);have ah:(c.op == 277)=false:=(by simp;omega);have ai:(c.op == 274)=false:=(by simp;omega);have aj:(c.op == 275)=false:=(by simp;omega);have ak:(c.op == 276)=true:=(by simp[ho]);have aq:(c.op == 27)=false:=(by simp;omega);have al:(c.op == 256)=false:=(by simp;omega);clear ho;obtain⟨FF,d⟩:∃ F:Option (List Int×List Int),(if c.n=0 then some (s.out,[])else none)=F:=⟨_,rfl⟩;rw[d];have m:=fQ d;clear d;go_in;by_cases a:c.n=0
 ·have H:=aXk a;have f:=fQ (m.out.symm.trans (if_pos a));clear a;go_wp2_with fail;go_quiet (fail)
  all_goals
   go_wp2;go_ret3;exact FmP.yes f.out ((k.out.below B0.out (Aj _)).drewN _) (IR.nil _) (fK B0.out _)
 ·have H:=aXl a;have f:=fQ (m.out.symm.trans (if_neg a));clear a;go_wp2_with fail;go_quiet (fail)
  all_goals
   go_wp2;go_ret3;exact FmP.no f.out ((k.out.below B0.out (Aj _)).drewN _) (IR.nil _) (fK B0.out _)
theorem cYy(e:EnvD)(s:SigD)(c:CodeD)(g vs h:AV)(w:AK)(he:EnvV w g e)(hs:SigV w vs s)(hc:CodeV w h c)(i:e.muts.length=e.globals.length)(ho:c.op=27):
  AY fZ 68 #[g,vs,h] w (FmP (if c.n=0 then some ([0,0,127],[0])else none) w):=by
 have HE:=fQ he;obtain⟨va,vb,vd,rfl,h1,h2,m⟩:=he;obtain⟨o,cs,rfl,_⟩:=h1.len;obtain⟨r,cg,rfl⟩:=h2.shape;obtain⟨t,u,rfl,_⟩:=m;obtain⟨p,q,rfl,j,d⟩:=hs;obtain⟨v,x,rfl⟩:=j.shape;obtain⟨y,z,rfl⟩:=d.shape;have HO:=fQ d.ir;obtain⟨p,q,tt,rfl,k,s1,s2,s3⟩:=hc;obtain⟨A,B,rfl⟩:=s1.shape;obtain⟨C,D,rfl⟩:=s2.shape;obtain⟨E,tc,rfl⟩:=s3.shape;have an:=fQ k;have ao:=fQ i;have B0:=fQ (al3 w (.cells #[.slice o e.sigs.length cs,.int .i64 e.imports,.slice r e.globals.length cg,.slice t e.muts.length u,.bool e.mem] 26) (.cells #[.slice v s.inn.length x,.slice y s.out.length z] 40) (.cells #[.int .i64 c.op,.int .u64 (c.n:Int),.slice A c.args.length B,.slice C c.outs.length D,.slice E c.to.length tc] 52));clear h1 h2 j d s1 s2 s3 k i;have af:(c.op == 272)=false:=(by simp;omega);have ag:(c.op == 273)=false:=(by simp;omega);have ah:(c.op == 277)=false:=(by simp;omega);have ai:(c.op == 274)=false:=(by simp;omega);have aj:(c.op == 275)=false:=(by simp;omega);have ak:(c.op == 276)=false:=(by simp;omega);have aq:(c.op == 27)=true:=(by simp[ho]);have al:(c.op == 256)=false:=(by simp;omega);clear ho;obtain⟨FF,f⟩:∃ F:Option (List Int×List Int),(if c.n=0 then some ([0,0,127],[0])else none)=F:=⟨_,rfl⟩;rw[f];have l:=fQ f;clear f;go_in;by_cases a:c.n=0
 ·have G:=aXk a;have b:=fQ (l.out.symm.trans (if_pos a));clear a;go_wp2_with fail;go_region
  all_goals
   go_wp2;go_ret3
   first
    | (refine FmP.yes b.out (IR.drew (IR.three (Blk.alloc (Blk.newAt _ _ _ ?_) _))) (IR.drew (IR.one (Blk.newAt _ _ _ ?_))) (Az ((B0.out.alloc B0.out.size _).alloc ?_ _)) <;> ((try simp);(try omega);done))
    | (refine FmP.yes b.out (IR.drew (IR.three (Blk.newAt _ _ _ ?_))) (IR.drew (IR.one (Blk.alloc (Blk.newAt _ _ _ ?_) _))) (Az ((B0.out.alloc B0.out.size _).alloc ?_ _)) <;> ((try simp);(try omega);done))
 ·have G:=aXl a;have b:=fQ (l.out.symm.trans (if_neg a));clear a;go_wp2_with fail;go_region
  all_goals
   go_wp2;go_ret3
   first
    | (refine FmP.no b.out (IR.drew (IR.three (Blk.alloc (Blk.newAt _ _ _ ?_) _))) (IR.drew (IR.one (Blk.newAt _ _ _ ?_))) (Az ((B0.out.alloc B0.out.size _).alloc ?_ _)) <;> ((try simp);(try omega);done))
    | (refine FmP.no b.out (IR.drew (IR.three (Blk.newAt _ _ _ ?_))) (IR.drew (IR.one (Blk.alloc (Blk.newAt _ _ _ ?_) _))) (Az ((B0.out.alloc B0.out.size _).alloc ?_ _)) <;> ((try simp);(try omega);done))
theorem cKe(e:EnvD)(s:SigD)(c:CodeD)(d vs f:AV)(w:AK)(he:EnvV w d e)(hs:SigV w vs s)(hc:CodeV w f c)(g:e.muts.length=e.globals.length)(ho:c.op=256):
  AY fZ 68 #[d,vs,f] w (FmP (some ([],[0])) w):=by
 have HE:=fQ he;obtain⟨va,vb,vd,rfl,h1,h2,j⟩:=he;obtain⟨k,cs,rfl,_⟩:=h1.len;obtain⟨l,cg,rfl⟩:=h2.shape;obtain⟨m,o,rfl,_⟩:=j;obtain⟨p,q,rfl,h,a⟩:=hs;obtain⟨r,t,rfl⟩:=h.shape;obtain⟨u,v,rfl⟩:=a.shape;have HO:=fQ a.ir;obtain⟨p,q,tt,rfl,i,s1,s2,s3⟩:=hc;obtain⟨x,y,rfl⟩:=s1.shape;obtain⟨z,A,rfl⟩:=s2.shape;obtain⟨B,tc,rfl⟩:=s3.shape;have an:=fQ i;have ao:=fQ g;have B0:=fQ (al3 w (.cells #[.slice k e.sigs.length cs,.int .i64 e.imports,.slice l e.globals.length cg,.slice m e.muts.length o,.bool e.mem] 26) (.cells #[.slice r s.inn.length t,.slice u s.out.length v] 40) (.cells #[.int .i64 c.op,.int .u64 (c.n:Int),.slice x c.args.length y,.slice z c.outs.length A,.slice B c.to.length tc] 52));clear h1 h2 h a s1 s2 s3 i g;have ae:(c.op == 272)=false:=(by simp;omega);have af:(c.op == 273)=false:=(by simp;omega);have ag:(c.op == 277)=false:=(by simp;omega);have ah:(c.op == 274)=false:=(by simp;omega);have ai:(c.op == 275)=false:=(by simp;omega);have aj:(c.op == 276)=false:=(by simp;omega);have aq:(c.op == 27)=false:=(by simp;omega);have ak:(c.op == 256)=true:=(by simp[ho]);clear ho;obtain⟨FF,b⟩:∃ F:Option (List Int×List Int),(some ([],[0]))=F:=⟨_,rfl⟩;rw[b];have C:=fQ b;clear b;go_in;go_wp2;go_ret3;exact FmP.yes C.out.symm (IR.nil _) (IR.one (Blk.newAt _ _ _ (by simp))) (B0.out.alloc B0.out.size _)
theorem cKf(e:EnvD)(s:SigD)(c:CodeD)(h vs j:AV)(w:AK)(he:EnvV w h e)(hs:SigV w vs s)(hc:CodeV w j c)(k:e.muts.length=e.globals.length)(l:c.op≠272)(m:c.op≠273)(r:c.op≠277)(t:c.op≠274)(u:c.op≠275)(v:c.op≠276)(a:c.op≠27)(b:c.op≠256):
  AY fZ 68 #[h,vs,j] w (FmP (iZ e s c.op c.n) w):=by
 have D:=fQ he;obtain⟨va,vb,vd,rfl,h1,h2,E⟩:=he;obtain⟨G,cs,rfl,_⟩:=h1.len;obtain⟨H,cg,rfl⟩:=h2.shape;obtain⟨I,J,rfl,_⟩:=E;obtain⟨p,q,rfl,x,d⟩:=hs;obtain⟨K,L,rfl⟩:=x.shape;obtain⟨M,N,rfl⟩:=d.shape;have HO:=fQ d.ir;obtain⟨p,q,tt,rfl,y,s1,s2,s3⟩:=hc;obtain⟨O,P,rfl⟩:=s1.shape;obtain⟨Q,R,rfl⟩:=s2.shape;obtain⟨S,tc,rfl⟩:=s3.shape;have T:=fQ y;have U:=fQ k;have B0:=fQ (al3 w (.cells #[.slice G e.sigs.length cs,.int .i64 e.imports,.slice H e.globals.length cg,.slice I e.muts.length J,.bool e.mem] 26) (.cells #[.slice K s.inn.length L,.slice M s.out.length N] 40) (.cells #[.int .i64 c.op,.int .u64 (c.n:Int),.slice O c.args.length P,.slice Q c.outs.length R,.slice S c.to.length tc] 52));clear h1 h2 x d s1 s2 s3 y k;have V:=fQ (cJx e s _ c.op c.n T.out.1 _ (D.out.below B0.out (Aj _)) U.out b a (by omega));have au:(c.op == 272)=false:=(by simp[l]);have av:(c.op == 273)=false:=(by simp[m]);have aw:(c.op == 277)=false:=(by simp[r]);have ax:(c.op == 274)=false:=(by simp[t]);have ay:(c.op == 275)=false:=(by simp[u]);have az:(c.op == 276)=false:=(by simp[v]);have aC:(c.op == 27)=false:=(by simp[a]);have aA:(c.op == 256)=false:=(by simp[b]);clear l m r t u v a b;obtain⟨FF,f⟩:∃ F:Option (List Int×List Int),(iZ e s c.op c.n)=F:=⟨_,rfl⟩;rw[f];have W:=fQ f;clear f;go_in;go_wp2_with fail;have g:=V.out;rw[W.out]at g;refine g.mono ?_;rintro en w1 ⟨X,vo,ok,i,o,rfl,q1,z,A,B,C⟩;have Y:=fQ q1;have Z:=fQ z;have Q3:=fQ A;have Q4:=fQ B;have Q5:=fQ (B0.out.trans (C.mono B0.out.size));clear q1 z A B C g;go_wp2;go_ret3;exact⟨X,vo,ok,i,o,rfl,Y.out,Z.out,Q3.out,Q4.out,Q5.out⟩
theorem bXo(e:EnvD)(s:SigD)(c:CodeD)(a vs b:AV)(w:AK)(he:EnvV w a e)(hs:SigV w vs s)(hc:CodeV w b c)(d:e.muts.length=e.globals.length):
  AY fZ 68 #[a,vs,b] w (FmP (iZ e s c.op c.n) w):=by
 by_cases f:c.op=272
 ·have h:=cJy e s c a vs b w he hs hc d f;rw[f];exact h
 by_cases g:c.op=273
 ·have h:=cJz e s c a vs b w he hs hc d g;rw[g];exact h
 by_cases i:c.op=277
 ·have h:=cKa e s c a vs b w he hs hc d i;rw[i];exact h
 by_cases j:c.op=274
 ·have h:=cKb e s c a vs b w he hs hc d j;rw[j];exact h
 by_cases k:c.op=275
 ·have h:=cKc e s c a vs b w he hs hc d k;rw[k];exact h
 by_cases l:c.op=276
 ·have h:=cKd e s c a vs b w he hs hc d l;rw[l];exact h
 by_cases m:c.op=27
 ·have h:=cYy e s c a vs b w he hs hc d m;rw[m];exact h
 by_cases o:c.op=256
 ·have h:=cKe e s c a vs b w he hs hc d o;rw[o];exact h
 exact cKf e s c a vs b w he hs hc d f g i j k l m o
def rV(c:CodeD):Bool:=if c.op=273\/c.op=274 then decide (c.to.length=1)else if c.op=275 then decide (1<=c.to.length)else decide (c.to.length=0)
theorem cYs{e:EnvD}{r:RowD}{c:CodeD}(he:envOk e=true)(hs:sigOk r.sig=true):codeOk e r c=true ↔
  ((c.args.length<=8/\c.outs.length<=8/\c.to.length<=65)/\∃ i o,iZ e r.sig c.op c.n=some (i,o)/\i.length=c.args.length/\o.length=c.outs.length /\
   kZ r.places c.args false=true/\kZ r.places c.outs true=true/\kZ r.code.length c.to false=true/\rV c=true):=by
 unfold codeOk
 cases hf:iZ e r.sig c.op c.n with
 | none=>simp
 | some x=>
  obtain⟨i,o⟩:=x;have hl:=aQq he hs hf;simp only[Bool.and_eq_true,decide_eq_true_eq,kZ,Bool.not_false,Bool.true_or,Bool.and_true,Bool.not_true,Bool.false_or]
  have m:(qK c.op<=c.to.length/\(c.to.length:Int)<=nX c.op)↔(c.to.length<=65/\rV c=true):=by
   unfold qK nX rV;by_cases a1:c.op=273\/c.op=274
   ·have q:c.op=273\/c.op=274\/c.op=275:=(by omega);rw[if_pos q,if_pos a1,if_pos a1,decide_eq_true_eq];omega
   ·by_cases a:c.op=275
    ·rw[if_pos (by omega),if_neg a1,if_pos a,if_neg a1,if_pos a,decide_eq_true_eq];omega
    ·rw[if_neg (by omega),if_neg a1,if_neg a,if_neg a1,if_neg a,decide_eq_true_eq];omega
  constructor
  ·rintro⟨⟨h1,h2,d,f⟩,g,h,j,k⟩;have b:=m.1 ⟨d,f⟩;exact⟨⟨by omega,by omega,b.1⟩,i,o,rfl,h1.symm,h2.symm,g,⟨h,j⟩,k,b.2⟩
  ·rintro⟨⟨h1,h2,d⟩,i',o',l,f,g,h,⟨j,k⟩,b,s⟩;injection l with l;injection l with t e2;subst t;subst e2;have p:=m.2 ⟨d,s⟩;exact⟨⟨f.symm,g.symm,p.1,p.2⟩,h,j,k,b⟩
def dKx(b:Bool)(w:AK)(a:Ending)(w':AK):Prop:=a = .returned (.bool b)/\AW w.heap.size w w'
theorem cJr(e:EnvD)(r:RowD)(c:CodeD)(i:Nat)(Z t:AV)(w:AK)(he:EnvV w Z e)(hr:RowV w t r)(hi:r.code[i]? = some c)(y:envOk e=true)(hS:sigOk r.sig=true)(aC:r.code.length<=4096):
  AY fZ 40 #[Z,t,.int .i64 (i:Int)] w (dKx (codeOk e r c) w):=by
 have z:=fQ (cYs (c:=c) (r:=r) y hS)
 have ax:=fQ (show e.muts.length=e.globals.length by
  unfold envOk at y;simp only[Bool.and_eq_true,decide_eq_true_eq]at y
  exact y.1.2.2.2)
 obtain⟨g,al⟩:∃ b,codeOk e r c=b:=⟨_,rfl⟩;rw[al]at z ⊢;have HE:=fQ he;have HR:=fQ hr;obtain⟨Q,vb,R,rfl,h1,h2,h3⟩:=he;obtain⟨vp,vq,t,vs,rfl,S,T,h6,U⟩:=hr;obtain⟨A,B,rfl⟩:=S.shape;obtain⟨C,D,rfl⟩:=T.shape;obtain⟨Ac,cc,rfl,_⟩:=U.len;have aD:i<r.code.length:=(List.getElem?_eq_some_iff.1 hi).1;have ay:(i:Int)<(r.code.length:Int):=(by omega);obtain⟨gb,go,p,q,tt,rfl,aE,g0,g1,g2,g3,g4,s0,s1,s2,s3⟩:=U.code hi;obtain⟨E,F,rfl⟩:=s1.shape;obtain⟨G,H,rfl⟩:=s2.shape;obtain⟨I,tc,rfl⟩:=s3.shape;have aF:gb<w.heap.size+1+1:=(by omega);have az:gb<w.heap.size+1:=(by omega);have aA:=fQ (show SigV w (.agg #[.slice A r.sig.inn.length B,.slice C r.sig.out.length D]) r.sig from⟨_,_,rfl,S,T⟩);have aB:=fQ (show CodeV w (.agg #[.int .i64 c.op,.int .u64 (c.n:Int),.slice E c.args.length F,.slice G c.outs.length H,.slice I c.to.length tc]) c from⟨_,_,_,rfl,s0,s1,s2,s3⟩);have HA:=fQ s1.ir;have HO:=fQ s2.ir;have HT:=fQ s3.ir;have m:=fQ (al3 w (.cells #[Q,.int .i64 e.imports,vb,R,.bool e.mem] 26) (.cells #[.slice A r.sig.inn.length B,.slice C r.sig.out.length D,.int .i64 r.places,t,.slice (some ⟨gb,go,none⟩) r.code.length cc] 43) (.cells #[.int .i64 c.op,.int .u64 (c.n:Int),.slice E c.args.length F,.slice G c.outs.length H,.slice I c.to.length tc] 52));clear h1 h2 h3 S T h6 U hi s0 s1 s2 s3 al y hS;go_in
 have no:=fun(h:¬(c.args.length<=8/\c.outs.length<=8/\c.to.length<=65))=>(show g=false by
  cases g with
  | false=>rfl
  | true=>exact absurd (z.out.1 rfl).1 h)
 have J:=fQ no;clear no;by_cases V:c.args.length<=8
 ·have u1:decide ((8:Int)<(c.args.length:Int))=false:=(by simp;omega);have an:decide (8<c.args.length)=false:=(by simp;omega);by_cases k2:c.outs.length<=8
  ·have u2:decide ((8:Int)<(c.outs.length:Int))=false:=(by simp;omega);have ao:decide (8<c.outs.length)=false:=(by simp;omega);by_cases W:c.to.length<=65
   ·have u3:decide ((65:Int)<(c.to.length:Int))=false:=(by simp;omega);have aq:decide (65<c.to.length)=false:=(by simp;omega);go_wp2_with fail;have ar:=fQ (Blk.alloc (Blk.newAt (w.alloc (.cells #[Q,.int .i64 e.imports,vb,R,.bool e.mem] 26)) (N:=w.heap.size+1) 43 #[.slice A r.sig.inn.length B,.slice C r.sig.out.length D,.int .i64 r.places,t,.slice (some ⟨gb,go,none⟩) r.code.length cc] (by simp)) (.cells #[.int .i64 c.op,.int .u64 (c.n:Int),.slice E c.args.length F,.slice G c.outs.length H,.slice I c.to.length tc] 52));have au:=fQ (Blk.newAt ((w.alloc (.cells #[Q,.int .i64 e.imports,vb,R,.bool e.mem] 26)).alloc (.cells #[.slice A r.sig.inn.length B,.slice C r.sig.out.length D,.int .i64 r.places,t,.slice (some ⟨gb,go,none⟩) r.code.length cc] 43)) (N:=w.heap.size+1+1) 52 #[.int .i64 c.op,.int .u64 (c.n:Int),.slice E c.args.length F,.slice G c.outs.length H,.slice I c.to.length tc] (by simp));refine(bXo e r.sig c _ _ _ _ (HE.out.below m.out (Aj _)) (aA.out.below m.out (Aj _)) (aB.out.below m.out (Aj _)) ax.out).mono ?_;rintro X w1 ⟨vi,vo,ok,ii,u,rfl,q1,q2,q3,q4,K⟩;obtain⟨Ai,ci,rfl⟩:=q1.shape;obtain⟨Ao,co,rfl⟩:=q2.shape;have f:=fQ (m.out.trans (K.mono m.out.size));have av:=fQ (ar.out.below K ar.out.lt);have aw:=fQ (au.out.below K au.out.lt);have Q3:=fQ q3;have Q4:=fQ q4;have L:=fQ (show c.args.length<=8/\c.outs.length<=8/\c.to.length<=65 from⟨V,k2,W⟩);clear q1 q2 q3 q4 K u1 an u2 ao u3 aq g0 g1 g2 g3 g4 J
    cases hf:iZ e r.sig c.op c.n with
    | none=>
     have Y:=Q3.out hf;subst Y
     have a:=fQ (show g=false by
      cases g with
      | false=>rfl
      | true=>obtain⟨_,_,_,h,_⟩:=z.out.1 rfl;rw[hf]at h;cases h)
     clear hf;go_wp2;go_ret;exact⟨by rw[a.out];rfl,f.out⟩
    | some x=>
     obtain⟨Y,hx⟩:=Q4.out x hf;subst Y;subst hx;have HV:=fQ hf
     have ae:=fQ (show g=true↔(ii.length=c.args.length/\u.length=c.outs.length/\kZ r.places c.args false=true/\kZ r.places c.outs true=true/\kZ r.code.length c.to false=true/\rV c=true) by
      rw[z.out];constructor
      ·rintro⟨_,i',o',h,h2⟩;rw[hf]at h;injection h with h;injection h with e1 e2;subst e1;subst e2;exact h2
      ·intro h
       exact⟨L.out,ii,u,hf,h⟩)
     clear hf z Q3 Q4
     have v:=fQ (fun(h:¬(ii.length=c.args.length/\u.length=c.outs.length/\kZ r.places c.args false=true/\kZ r.places c.outs true=true/\kZ r.code.length c.to false=true/\rV c=true))=>(show g=false by
      cases g with
      | false=>rfl
      | true=>exact absurd (ae.out.1 rfl) h))
     obtain⟨c0,c1,c2,c3,c4⟩:=gJ aw.out;obtain⟨r0,r1,r2,r3,r4⟩:=gJ av.out;have y1:=aw.out.lt;have y2:=av.out.lt;by_cases m1:ii.length=c.args.length
     ·have v1:((ii.length:Int) != (c.args.length:Int))=false:=(by simp;omega);have M1:=fQ m1;clear m1;by_cases m2:u.length=c.outs.length
      ·have v2:((u.length:Int) != (c.outs.length:Int))=false:=(by simp;omega);have M2:=fQ m2;clear m2;go_wp2_with fail;refine(aQz false r.places _ c.args _ (HA.out.below f.out (Aj _)) (by have:=L.out;omega)).mono ?_;rintro X w2 ⟨rfl,m2,rfl⟩
       cases M:kZ r.places c.args false with
       | false=>
        have a:=fQ (v.out (fun h=>by have h:=h.2.2.1;rw[M]at h;cases h));clear M;go_wp2;go_ret;exact⟨by rw[a.out];rfl,fK f.out _⟩
       | true=>
        have P2:=fQ M;clear M;go_wp2_with fail;refine(aQz true r.places _ c.outs _ ((HO.out.below f.out (Aj _)).drewN _) (by have:=L.out;omega)).mono ?_;rintro X w3 ⟨rfl,m3,rfl⟩
        cases O:kZ r.places c.outs true with
        | false=>
         have a:=fQ (v.out (fun h=>by have h:=h.2.2.2.1;rw[O]at h;cases h));clear O;go_wp2;go_ret;exact⟨by rw[a.out];rfl,fK f.out _⟩
        | true=>
         have P3:=fQ O;clear O;go_wp2_with fail;refine(aQz false (r.code.length:Int) _ c.to _ ((HT.out.below f.out (Aj _)).drewN _) (by have:=L.out;omega)).mono ?_;rintro X w4 ⟨rfl,m4,rfl⟩
         cases P:kZ (r.code.length:Int) c.to false with
         | false=>
          have a:=fQ (v.out (fun h=>by have h:=h.2.2.2.2.1;rw[P]at h;cases h));clear P;go_wp2;go_ret;exact⟨by rw[a.out];rfl,fK f.out _⟩
         | true=>
          have P4:=fQ P;clear P
          have o:=fQ (show g=rV c by
           cases ht:rV c with
           | true=>exact ae.out.2 ⟨M1.out,M2.out,P2.out,P3.out,P4.out,ht⟩
           | false=>exact v.out (fun h=>by have h:=h.2.2.2.2.2;rw[ht]at h;cases h))
          by_cases j:c.op=273
          ·have z1:(c.op == 273)=true:=(by simp[j]);by_cases d:c.to.length=1
           ·have s:((c.to.length:Int) == 1)=true:=beq_iff_eq.2 (by omega);have a:=fQ (show g=true by rw[o.out];simp[rV,j,d]);clear j d;go_wp2;go_ret;exact⟨by rw[a.out];rfl,fK f.out _⟩
           ·have s:((c.to.length:Int) == 1)=false:=beq_eq_false_iff_ne.2 (by omega);have a:=fQ (show g=false by rw[o.out];simp[rV,j,d]);clear j d;go_wp2;go_ret;exact⟨by rw[a.out];rfl,fK f.out _⟩
          have z1:(c.op == 273)=false:=(by simp[j]);by_cases k:c.op=274
          ·have z2:(c.op == 274)=true:=(by simp[k]);by_cases d:c.to.length=1
           ·have s:((c.to.length:Int) == 1)=true:=beq_iff_eq.2 (by omega);have a:=fQ (show g=true by rw[o.out];simp[rV,k,d]);clear j k d;go_wp2;go_ret;exact⟨by rw[a.out];rfl,fK f.out _⟩
           ·have s:((c.to.length:Int) == 1)=false:=beq_eq_false_iff_ne.2 (by omega);have a:=fQ (show g=false by rw[o.out];simp[rV,k,d]);clear j k d;go_wp2;go_ret;exact⟨by rw[a.out];rfl,fK f.out _⟩
          have z2:(c.op == 274)=false:=(by simp[k]);by_cases l:c.op=275
          ·have z3:(c.op == 275)=true:=(by simp[l]);by_cases d:1<=c.to.length
           ·have s:decide ((1:Int)<=(c.to.length:Int))=true:=decide_eq_true (by omega);have z5:decide (1<=c.to.length)=true:=decide_eq_true (by omega);have z6:decide (0<c.to.length)=true:=decide_eq_true (by omega);have a:=fQ (show g=true by rw[o.out];unfold rV;rw[if_neg (by omega),if_pos l];exact decide_eq_true d);clear j k l d;go_wp2;go_ret;exact⟨by rw[a.out];rfl,fK f.out _⟩
           ·have s:decide ((1:Int)<=(c.to.length:Int))=false:=decide_eq_false (by omega);have z5:decide (1<=c.to.length)=false:=decide_eq_false (by omega);have z6:decide (0<c.to.length)=false:=decide_eq_false (by omega);have a:=fQ (show g=false by rw[o.out];unfold rV;rw[if_neg (by omega),if_pos l];exact decide_eq_false d);clear j k l d;go_wp2;go_ret;exact⟨by rw[a.out];rfl,fK f.out _⟩
          have z3:(c.op == 275)=false:=(by simp[l]);by_cases d:c.to.length=0
          ·have s:((c.to.length:Int) == 0)=true:=beq_iff_eq.2 (by omega);have a:=fQ (show g=true by rw[o.out];unfold rV;rw[if_neg (by omega),if_neg l];exact decide_eq_true d);clear j k l d;go_wp2;go_ret;exact⟨by rw[a.out];rfl,fK f.out _⟩
          ·have s:((c.to.length:Int) == 0)=false:=beq_eq_false_iff_ne.2 (by omega);have a:=fQ (show g=false by rw[o.out];unfold rV;rw[if_neg (by omega),if_neg l];exact decide_eq_false d);clear j k l d;go_wp2;go_ret;exact⟨by rw[a.out];rfl,fK f.out _⟩
      ·have v2:((u.length:Int) != (c.outs.length:Int))=true:=(by simp;omega);have a:=fQ (v.out (fun h=>m2 h.2.1));clear m2;go_wp2;go_ret;exact⟨by rw[a.out];rfl,f.out⟩
     ·have v1:((ii.length:Int) != (c.args.length:Int))=true:=(by simp;omega);have a:=fQ (v.out (fun h=>m1 h.1));clear m1;go_wp2;go_ret;exact⟨by rw[a.out];rfl,f.out⟩
   ·have u3:decide ((65:Int)<(c.to.length:Int))=true:=(by simp;omega);have aq:decide (65<c.to.length)=true:=(by simp;omega);have a:=fQ (J.out (fun h=>W h.2.2));clear W;go_wp2;go_ret;exact⟨by rw[a.out];rfl,m.out⟩
  ·have u2:decide ((8:Int)<(c.outs.length:Int))=true:=(by simp;omega);have ao:decide (8<c.outs.length)=true:=(by simp;omega);have a:=fQ (J.out (fun h=>k2 h.2.1));clear k2;go_wp2;go_ret;exact⟨by rw[a.out];rfl,m.out⟩
 ·have u1:decide ((8:Int)<(c.args.length:Int))=true:=(by simp;omega);have an:decide (8<c.args.length)=true:=(by simp;omega);have a:=fQ (J.out (fun h=>V h.1));clear V;go_wp2;go_ret;exact⟨by rw[a.out];rfl,m.out⟩
theorem dQc{n:Nat}{f:Nat->Bool}{i:Nat}(h:i<n):(boolsV (aQn n f))[i]? = some (.bool (f i)):=by
 unfold boolsV;rw[List.getElem?_map,aKh h];rfl
def RB(t:TypeId)(w:AK)(g n:Nat)(f:Nat->Bool):Prop:=Blk w g t (boolsV (aQn n f)).toArray
theorem RB.cell{t:TypeId}{w:AK}{g n i:Nat}{f:Nat->Bool}(h:RB t w g n f)(hi:i<n):w.cell? ⟨g,i,none⟩=some (.bool (f i)):=by
 have:=Blk.cell h i;rw[this,List.getElem?_toArray];exact dQc hi
theorem RB.set{t:TypeId}{w:AK}{g n:Nat}{f:Nat->Bool}(h:RB t w g n f)(i:Nat)(b:Bool):RB t (w.setCell ⟨g,i,none⟩ (.bool b)) g n (fun j=>if j=i then b else f j):=by
 have:=heap_setCell_same w g i _ t (.bool b) h;unfold RB Blk;rw[this,<-cKj];simp[boolsV,List.map_set]
theorem RB.new{t:TypeId}(w:AK){N n:Nat}(b:Bool)(h:w.heap.size=N):RB t (w.alloc (.cells (AQ n (.bool b)) t)) N n (fun _=>b):=by
 unfold RB;rw[<-cKk];have e:(boolsV (List.replicate n b)).toArray=AQ n (.bool b):=(by simp[boolsV]);rw[e];exact Blk.newAt w t _ h
theorem RB.keep{t:TypeId}{w w':AK}{g n:Nat}{f:Nat->Bool}(h:RB t w g n f)(hb:AW w.heap.size w w'):RB t w' g n f:=Blk.below h hb h.lt
def rowsV(gs:List Nat)(P:Nat):List AV:=gs.map fun g=>.slice (some ⟨g,0,none⟩) P P
structure TM (w:AK) (base:Nat) (v:AV) (n P:Nat) (T:Nat->Nat->Bool) (gs:List Nat):Prop where
 own:w.ownsRow base 24 1 v n (rowsV gs P)
 len:gs.length=n
 nd:gs.Nodup
 rows:∀ (i g:Nat),gs[i]? = some g->base<=g/\RB 4 w g P (T i)
section
variable {w w':AK} {base n P:Nat} {v:AV} {T:Nat->Nat->Bool} {gs:List Nat}
end
end Go.Proofs.YtabibkpfgmolkaaGreat
namespace Go.Proofs.YtabibkpfgmolkaaGreat
section
open Go.Shelf
attribute [local go_sem] Oper.semAt_some
end
section
open Go.Shelf
attribute [local go_sem] Oper.semAt_some
end
section
open Go.Shelf
attribute [local go_sem] Oper.semAt_some
end
section
open Go.Shelf
attribute [local go_sem] Oper.semAt_some
end
theorem bYq{l:List Int}{g:Nat->Bool}{k:Nat}{x:Int}(h:l[k]? = some x):qV g (l.take (k+1))=(qV g (l.take k) || !g x.toNat):=by
 obtain⟨a,e⟩:=List.getElem?_eq_some_iff.1 h;rw[Ak a,e];unfold qV;rw[List.any_append];simp
def CcM(w:AK)(n:Nat)(rv:Array AV)(g:Nat->Bool)(a:AK):Prop:=RB 4 a (w.heap.size+1) n g/\Blk a w.heap.size 43 rv/\AW w.heap.size w a
theorem CcM.keep{w:AK}{n:Nat}{rv:Array AV}{g:Nat->Bool}{a b:AK}(h:CcM w n rv g a)(hb:AW a.heap.size a b):CcM w n rv g b:=
 ⟨h.1.keep hb,h.2.1.below hb h.2.1.lt,h.2.2.trans (hb.mono h.2.2.size)⟩
theorem CcM.set{w:AK}{n:Nat}{rv:Array AV}{g:Nat->Bool}{a:AK}(h:CcM w n rv g a)(i:Nat):CcM w n rv (fun j=>if j=i then true else g j) (a.setCell ⟨w.heap.size+1,i,none⟩ (.bool true)):=
 ⟨h.1.set i true,bQy h.2.1 (by omega),h.2.2.setCell (p:=⟨w.heap.size+1,i,none⟩) (by simp) _⟩
def CcS(r:RowD)(w:AK)(n:Nat)(rv:Array AV)(M k:Nat)(b:Bool)(g:Nat->Bool)(a:AK):Prop:=
 CcM w n rv g a/\GInv r g/\aKi n g<=M/\(b=true->aKi n g<M)/\(b=false->∀ j,k<=j->j<n->g j=false->qV g (edges r j)=true)
theorem CcS.stay{r:RowD}{w:AK}{n M k:Nat}{rv:Array AV}{b:Bool}{g:Nat->Bool}{a c:AK}(h:CcS r w n rv M (k+1) b g a)(hb:AW a.heap.size a c)(hs:g k=false->qV g (edges r k)=true):CcS r w n rv M k b g c:=
 ⟨h.1.keep hb,h.2.1,h.2.2.1,h.2.2.2.1,fun d j hj hn hg=>by
  by_cases e:j=k
  ·subst e;exact hs hg
  ·exact h.2.2.2.2 d j (by omega) hn hg⟩
theorem CcS.gone{r:RowD}{w:AK}{n M k:Nat}{rv:Array AV}{b:Bool}{g:Nat->Bool}{a c:AK}(h:CcS r w n rv M (k+1) b g a)(hb:AW a.heap.size a c)(hf:FlowOk r)(hn:k<n)(hg:g k=false)(hs:qV g (edges r k)=false):
  CcS r w n rv M k true (fun j=>if j=k then true else g j) (c.setCell ⟨w.heap.size+1,k,none⟩ (.bool true)):=by
 have hc:=dQb (g:=g) hn hg;exact⟨(h.1.keep hb).set k,h.2.1.gone hf hs,by have:=h.2.2.1;omega,fun _=>by have:=h.2.2.1;omega,fun e=>by cases e⟩
theorem bVy(r:RowD)(vr:AV)(w:AK)(hr:RowV w vr r)(hf:FlowOk r):AY fZ 42 #[vr] w (cKg r w):=by
 obtain⟨s,u,vs,vd,rfl,h4,h5,h6,G⟩:=hr;obtain⟨A,cc,rfl,_⟩:=G.len;obtain⟨_,l7,aB⟩:=G.eXi;have H7:=fQ G;have D:=fQ hf;have ar:=hf.n2;have au:=hf.n1;have HR:=fQ (show RowV w (.agg #[s,u,.int .i64 r.places,vs,.slice A r.code.length cc]) r from⟨s,u,vs,_,rfl,h4,h5,h6,G⟩);obtain⟨n,hn⟩:=fX r.code.length;rw[hn]at HR ar au ⊢;have O:=fQ hn;have aC:=fQ (show AW w.heap.size w (w.alloc (.cells #[s,u,.int .i64 r.places,vs,.slice A n cc] 43))from(Ay _ _).alloc (Aj _) _);have K0:=fQ (Blk.new w 43 #[s,u,.int .i64 r.places,vs,.slice A n cc]);have mk:=aQo (P:=fZ) 24 4 (.bool false) 1 underlying24 bXl rfl n (by omega) (by omega);clear h4 h5 h6 G hf hn;go_in;go_wp2
 have al:=fQ (show CcM w n #[s,u,.int .i64 r.places,vs,.slice A n cc] (fun _=>false) ((w.alloc (.cells #[s,u,.int .i64 r.places,vs,.slice A n cc] 43)).alloc (.cells (AQ n (.bool false)) 4))from
  ⟨RB.new (t:=4) _ (N:=w.heap.size+1) (n:=n) false (by simp),K0.out.alloc _,al2 _ _ _⟩)
 clear mk;go_loopg [4] (aKi n (fun _=>false)*2+1) (fun gk v S=>∃ (b:Bool) (g:Nat->Bool),v = .bool b/\Hid (CcM w n #[s,u,.int .i64 r.places,vs,.slice A n cc] g S)/\Hid (GInv r g)/\Hid (b=false->∀ j,j<n->g j=false->qV g (edges r j)=true)/\Hid (aKi n g*2+(if b then 1 else 0)=gk))
 case atStart=>exact⟨true,_,rfl,al,fQ (GInv.start r),fQ (fun e=>by cases e),fQ rfl⟩
 case round=>
  clear al;obtain⟨b,g,rfl,IM,T,a,IK⟩:=hrel
  cases b with
  | false=>
   have f:=fun i (hi:i<n)=>IM.out.1.cell hi;have y1:=IM.out.1.lt;have U:=fQ f;have V:=fQ (T.out.done D.out (by rw[O.out];exact a.out rfl));rw[O.out]at V;clear f;go_wp2;go_loop [9] (fun i=>∃ k:Nat,k<=n/\i = .int .i64 k/\Hid (∀ j,j<k->g j=true)) (fun i=>n - (intOf i).toNat)
   case atStart=>exact⟨0,by omega,rfl,fQ (fun j h=>by omega)⟩
   case round=>
    obtain⟨k,hk,rfl,W⟩:=hrel;by_cases C:k<n
    ·have t1:decide ((k:Int)<n)=true:=(by simp;omega);have t2:(k:Int)<n:=(by omega);have f:=U.out _ C
     cases hg:g k with
     | false=>
      rw[hg]at f;have HG:=fQ hg;clear hg;go_wp2;go_ret;exact⟨true,rfl,⟨fun _=>V.out.1 ⟨k,C,HG.out⟩,fun _=>rfl⟩,IM.out.2.2⟩
     | true=>
      rw[hg]at f
      have HA:=fQ (show ∀ j,j<k+1->g j=true from fun j hj=>by
       by_cases e:j=k
       ·rw[e,hg]
       ·exact W.out j (by omega))
      clear hg W;go_wp2;go_round
      case rel=>exact⟨k+1,by omega,by simp,HA⟩
      case measure=>simp[intOf];omega
    ·have t1:decide ((k:Int)<n)=false:=(by simp;omega);go_wp2;go_ret
     exact⟨false,rfl,⟨fun e=>(by cases e),fun h=>by
      obtain⟨i,hi,hg⟩:=V.out.2 h;rw[W.out i (by omega)]at hg
      cases hg⟩,IM.out.2.2⟩
  | true=>
   obtain⟨M,X⟩:=fX (aKi n g);have HK:=fQ (show M*2+1=gk by have:=IK.out;rw[X]at this;simpa using this);have an:=fQ (show CcS r w n #[s,u,.int .i64 r.places,vs,.slice A n cc] M n false g wr from⟨IM.out,T.out,Nat.le_of_eq X,(fun e=>by cases e),fun _ j h1 h2=>by omega⟩);obtain⟨Y,Z,r2,r3,r4⟩:=gJ IM.out.2.1;have y1:=IM.out.2.1.lt;have z1:IntKind.i64.wrap ((n:Int) - 1)=(n:Int) - 1:=Av _ (by omega);clear X IM T a IK Y Z r2 r3;go_wp2_with fail;clear r4 y1;go_loopw [4,5] (fun tv iv S=>∃ (k:Nat) (x:Int) (b:Bool) (g:Nat->Bool),k<=n/\Hid (x=(k:Int) - 1)/\iv = .int .i64 x/\tv = .bool b/\Hid (CcS r w n #[s,u,.int .i64 r.places,vs,.slice A n cc] M k b g S)) (fun _ iv _=>(intOf iv+1).toNat)
   case atStart=>exact⟨n,_,false,g,by omega,fQ rfl,rfl,rfl,an⟩
   case round=>
    clear an;obtain⟨k,x,b,g,hk,Q,rfl,rfl,a⟩:=hrel;rcases Nat.eq_zero_or_pos k with rfl | ah
    ·have o:x = -1:=(by have:=Q.out;omega);subst o;clear Q;go_wp2;go_roundg (aKi n g*2+(if b then 1 else 0))
     case measure=>
      rw[<-HK.out];have h1:=a.out.2.2.1;have h2:=a.out.2.2.2.1
      cases b with
      | true=>have:=h2 rfl;simp;omega
      | false=>simp;omega
     case rel=>exact⟨b,g,rfl,fQ a.out.1,fQ a.out.2.1,fQ (fun e j hj=>a.out.2.2.2.2 e j (by omega) hj),fQ rfl⟩
    ·obtain⟨d,rfl⟩:∃ d,k=d+1:=⟨k - 1,by omega⟩;have o:x=(d:Int):=(by have:=Q.out;omega);subst o;have t1:decide ((0:Int)<=(d:Int))=true:=(by simp);have C:d<n:=(by omega);have av:(d:Int)<n:=(by omega);have z2:IntKind.i64.wrap ((d:Int) - 1)=(d:Int) - 1:=Av _ (by omega);obtain⟨c,hc⟩:∃ c,r.code[d]? = some c:=⟨_,Ax (by rw[O.out];exact C)⟩;obtain⟨gb,go,p,q,tt,rfl,aw,g0,_⟩:=H7.out.code hc;replace g0:=(a.out.1.2.2.cell (p:=⟨gb,_,none⟩) aw).trans g0;obtain⟨Y,Z,r2,r3,r4⟩:=gJ a.out.1.2.1;have y1:=a.out.1.2.1.lt;have y2:gb<wr.heap.size:=(by have:=a.out.1.2.2.size;omega);have f:=a.out.1.1.cell C;have y4:=a.out.1.1.lt;have z4:=frz a.out.1.1 d;have E:=fQ hc;clear hc Q ah;by_cases F:c.op=258
     ·have t2:(c.op != 258)=false:=(by simp[F]);have H:=fQ (aYa E.out F);clear F
      cases hg:g d with
      | true=>
       rw[hg]at f;have y:=fQ (a.out.stay (Ay _ _) (fun e=>by rw[hg]at e;cases e));clear a hg;go_wp2;exact⟨⟨d,_,b,g,by omega,fQ rfl,rfl,rfl,y⟩,by first | (simp[intOf];done) | (simp[intOf];omega)⟩
      | false=>
       rw[hg]at f;have y:=fQ (a.out.gone (Ay _ _) D.out C hg (by rw[H.out];rfl));clear a hg;go_wp2;exact⟨⟨d,_,true,_,by omega,fQ rfl,rfl,rfl,y⟩,by first | (simp[intOf];done) | (simp[intOf];omega)⟩
     ·have t2:(c.op != 258)=true:=(by simp[F]);have H:=fQ (aWi E.out F);have ax:=fQ a.out.1.2.2;clear F;go_wp2_with fail;refine(cJm r _ d c _ (HR.out.below ax.out (Aj _)) E.out (D.out.to d c E.out).2.1).mono ?_;rintro en w1 ⟨vl,rfl,I,hb⟩;obtain⟨B,cB,rfl⟩:=I.shape;obtain⟨l,J⟩:=fX (nextOf c d);rw[J]at H;have ay:=fQ (show ∀ x∈l,0<=x/\x<(n:Int)from fun x o=>by rw[<-O.out];exact(D.out.to d c E.out).1 x (by rw[J];exact o));rw[J]at I ⊢;obtain⟨m,R⟩:=fX l.length;rw[R]at I ⊢;have az:m<=66:=(by rw[<-R,<-J];exact(D.out.to d c E.out).2.2);have HM:=fQ R;have HL:=fQ I;have ai:=fQ hb;have K:=a.out.1.keep hb;have U:=fQ (fun i (hi:i<n)=>K.1.cell hi);have f:=K.1.cell C;have y4:=K.1.lt;have z4:=frz K.1 d;clear I hb J R K Y Z r2 r3 r4 y1 y2 g0;go_wp2_with fail;go_loop [6,8] (fun sv j=>∃ q:Nat,q<=m/\j = .int .i64 q/\sv = .bool (qV g (l.take q))) (fun _ j=>m - (intOf j).toNat)
      case atStart=>exact⟨0,by omega,rfl,by simp[qV]⟩
      case round=>
       obtain⟨q,hq,rfl,rfl⟩:=hrel;by_cases aA:q<m
       ·have t3:decide ((q:Int)<m)=true:=(by simp;omega);have t4:(q:Int)<m:=(by omega);obtain⟨x,o⟩:∃ x,l[q]? = some x:=⟨_,Ax (by rw[HM.out];exact aA)⟩;have aq:=ay.out x (AX o);obtain⟨z,rfl⟩:∃ z:Nat,x=z:=⟨x.toNat,by omega⟩;have aD:(z:Int)<n:=aq.2;have aj:z<n:=(by omega);have L:=fQ (bYq (g:=g) o);rw[Int.toNat_natCast]at L;obtain⟨ab,ao,rfl,hab,aE⟩:=HL.out.cell o;have c5:=U.out _ aj;clear o aq
        cases hs:qV g (l.take q)with
        | true=>
         have HT:=fQ (show qV g (l.take (q+1))=true by rw[L.out,hs];rfl);clear hs L;go_wp2;go_round
         case rel=>exact⟨q+1,by omega,by simp,by rw[HT.out]⟩
         case measure=>simp[intOf];omega
        | false=>
         obtain⟨tb,ak⟩:=fX (g z);rw[ak]at c5;have HT:=fQ (show qV g (l.take (q+1)) = !tb by rw[L.out,hs,ak];rfl);clear hs L ak;go_wp2;go_round
         case rel=>exact⟨q+1,by omega,by simp,by rw[HT.out]⟩
         case measure=>simp[intOf];omega
       ·have t3:decide ((q:Int)<m)=false:=(by simp;omega);have et:l.take q=l:=AJ (by rw[HM.out];omega);rw[et];clear et
        cases hs:qV g l with
        | true=>
         have y:=fQ (a.out.stay ai.out (fun _=>by rw[H.out];exact hs));clear a hs;go_wp2;exact⟨⟨d,_,b,g,by omega,fQ rfl,rfl,rfl,y⟩,by first | (simp[intOf];done) | (simp[intOf];omega)⟩
        | false=>
         cases hg:g d with
         | true=>
          rw[hg]at f;have y:=fQ (a.out.stay ai.out (fun e=>by rw[hg]at e;cases e));clear a hg hs;go_wp2;exact⟨⟨d,_,b,g,by omega,fQ rfl,rfl,rfl,y⟩,by first | (simp[intOf];done) | (simp[intOf];omega)⟩
         | false=>
          rw[hg]at f;have y:=fQ (a.out.gone ai.out D.out C hg (by rw[H.out];exact hs));clear a hg hs;go_wp2;exact⟨⟨d,_,true,_,by omega,fQ rfl,rfl,rfl,y⟩,by first | (simp[intOf];done) | (simp[intOf];omega)⟩
theorem cQc(e:EnvD)(r:RowD)(ve vr:AV)(w:AK)(he:EnvV w ve e)(hr:RowV w vr r):AY fZ 18 #[ve,vr] w (ChkPost e r w):=by
 have HE:=fQ he;have HR:=fQ hr;obtain⟨P,vb,R,rfl,h1,h2,h3⟩:=he;obtain⟨vp,vq,vr,vs,rfl,h4,h5,S,T⟩:=hr;have H4:=fQ h4;have H5:=fQ h5;have H6:=fQ S;have H7:=fQ T;obtain⟨l,m,rfl⟩:=h4.shape;obtain⟨o,s,rfl⟩:=h5.shape;obtain⟨U,V,rfl⟩:=S.shape;obtain⟨W,cc,rfl,_⟩:=T.len;obtain⟨_,l6,aO⟩:=S.eXi;obtain⟨_,l7,aP⟩:=T.eXi;have X:=fQ (al2 w (.cells #[P,.int .i64 e.imports,vb,R,.bool e.mem] 26) (.cells #[.slice l r.sig.inn.length m,.slice o r.sig.out.length s,.int .i64 r.places,.slice U r.params.length V,.slice W r.code.length cc] 43));have g:=fQ ((Blk.new w 26 #[P,.int .i64 e.imports,vb,R,.bool e.mem]).alloc (.cells #[.slice l r.sig.inn.length m,.slice o r.sig.out.length s,.int .i64 r.places,.slice U r.params.length V,.slice W r.code.length cc] 43));have f:=fQ (Blk.newAt (w.alloc (.cells #[P,.int .i64 e.imports,vb,R,.bool e.mem] 26)) (N:=w.heap.size+1) 43 #[.slice l r.sig.inn.length m,.slice o r.sig.out.length s,.int .i64 r.places,.slice U r.params.length V,.slice W r.code.length cc] (by simp));clear h1 h2 h3 h4 h5 S T;go_in;go_wp2_with fail;refine(xW _ e _ (HE.out.below X.out (Aj _))).mono ?_;rintro A w1 ⟨rfl,Y⟩;have a:=fQ (X.out.trans (Y.mono X.out.size));have g:=fQ (g.out.below Y g.out.lt);have f:=fQ (f.out.below Y f.out.lt);clear Y;obtain⟨B,C,D,E,F⟩:=gJ f.out;obtain⟨G,H,I,J,K⟩:=gJ g.out;have y0:=g.out.lt;have y1:=f.out.lt
 cases Z:envOk e with
 | false=>
  have Q:=fQ Z;clear Z;go_wp2;go_ret;exact ChkPost.no (fun d=>by have:=d.env;rw[Q.out]at this;cases this) a.out
 | true=>
  have Q0:=fQ Z;clear Z;by_cases L:r.code.length=0
  ·have g2:decide ((r.code.length:Int)<1)=true:=decide_eq_true (by omega);have aC:decide (r.code.length<1)=true:=decide_eq_true (by omega);have aD:r.code = []:=List.eq_nil_of_length_eq_zero L;have Q:=fQ L;clear L;go_wp2;go_ret;exact ChkPost.no (fun d=>by have:=d.n1;rw[Q.out]at this;omega) a.out
  have g2:decide ((r.code.length:Int)<1)=false:=decide_eq_false (by omega);have aC:decide (r.code.length<1)=false:=decide_eq_false (by omega);have aD:¬r.code = []:=fun e=>L (by rw[e];rfl);have an:1<=r.code.length:=(by omega);by_cases q3:4096<r.code.length
  ·have g3:decide (4096<(r.code.length:Int))=true:=(by simp;omega);have aE:decide (4096<r.code.length)=true:=(by simp;omega);go_wp2;go_ret;exact ChkPost.no (fun d=>by have:=d.n2;omega) a.out
  have g3:decide (4096<(r.code.length:Int))=false:=(by simp;omega);have aE:decide (4096<r.code.length)=false:=(by simp;omega);have ai:r.code.length<=4096:=(by omega);by_cases q4:r.places<0
  ·have g4:decide (r.places<0)=true:=(by simpa using q4);go_wp2;go_ret;exact ChkPost.no (fun d=>by have:=d.p1;omega) a.out
  have g4:decide (r.places<0)=false:=(by simpa using q4);by_cases q5:4096<r.places
  ·have g5:decide (4096<r.places)=true:=(by simpa using q5);go_wp2;go_ret;exact ChkPost.no (fun d=>by have:=d.p2;omega) a.out
  have g5:decide (4096<r.places)=false:=(by simpa using q5);by_cases qi:8<r.sig.inn.length
  ·have gi:decide (8<(r.sig.inn.length:Int))=true:=(by simp;omega);have aF:decide (8<r.sig.inn.length)=true:=(by simp;omega);go_wp2;go_ret;exact ChkPost.no (fun d=>by have:=(aVh d.sig).1;omega) a.out
  have gi:decide (8<(r.sig.inn.length:Int))=false:=(by simp;omega);have aF:decide (8<r.sig.inn.length)=false:=(by simp;omega);by_cases qo:8<r.sig.out.length
  ·have ao:decide (8<(r.sig.out.length:Int))=true:=(by simp;omega);have aG:decide (8<r.sig.out.length)=true:=(by simp;omega);go_wp2;go_ret;exact ChkPost.no (fun d=>by have:=(aVh d.sig).2;omega) a.out
  have ao:decide (8<(r.sig.out.length:Int))=false:=(by simp;omega);have aG:decide (8<r.sig.out.length)=false:=(by simp;omega);by_cases q6:r.params.length=r.sig.inn.length
  ·have g6:((r.params.length:Int) != (r.sig.inn.length:Int))=false:=(by simp;omega);have aH:(r.params.length != r.sig.inn.length)=false:=(by simp;omega);have Q6:=fQ q6;clear q6;go_wp2_with fail;refine(aQz true r.places _ r.params _ (H6.out.ir.below a.out (Aj _)) (by omega)).mono ?_;rintro A w3 ⟨rfl,m3,rfl⟩;have a:=fQ (fK a.out m3);have g:=fQ (g.out.drewN m3);have f:=fQ (f.out.drewN m3);generalize w1.drewN m3=w1 at *;clear B C D E F G H I J K y0 y1;obtain⟨B,C,D,E,F⟩:=gJ f.out;obtain⟨G,H,I,J,K⟩:=gJ g.out;have y0:=g.out.lt;have y1:=f.out.lt
   cases M:kZ r.places r.params true with
   | false=>
    have Q:=fQ M;clear M;go_wp2;go_ret
    exact ChkPost.no (fun d=>by
     have h:=Q.out;unfold kZ at h;rw[d.pin,decide_eq_true d.pun]at h
     cases h) a.out
   | true=>
    have Q7:=fQ (show within r.places r.params=true/\r.params.Nodup by
     unfold kZ at M
     simpa using M)
    clear M;have O:=fQ (a.out.alloc a.out.size (.cells #[.slice l r.sig.inn.length m,.slice o r.sig.out.length s] 40));have aq:=fQ (g.out.alloc (.cells #[.slice l r.sig.inn.length m,.slice o r.sig.out.length s] 40));have ar:=fQ (f.out.alloc (.cells #[.slice l r.sig.inn.length m,.slice o r.sig.out.length s] 40));go_wp2_with fail;refine(xW _ (bQj r.sig) _ (cJb (Blk.new w1 40 #[.slice l r.sig.inn.length m,.slice o r.sig.out.length s]) (H4.out.below O.out (Aj _)) (H5.out.below O.out (Aj _)))).mono ?_;rintro A w2 ⟨rfl,aj⟩;rw[bWm];have a:=fQ (O.out.trans (aj.mono O.out.size));have g:=fQ (aq.out.below aj aq.out.lt);have f:=fQ (ar.out.below aj ar.out.lt);clear aj;clear B C D E F G H I J K y0 y1
    cases q1:sigOk r.sig with
    | false=>
     have Q:=fQ q1;clear q1;go_wp2;go_ret;exact ChkPost.no (fun d=>by have:=d.sig;rw[Q.out]at this;cases this) a.out
    | true=>
     have Q1:=fQ q1;clear q1;obtain⟨n,hn⟩:=fX r.code.length;have j:=fQ hn;have aI:=fQ (show 0<=r.places/\r.places<=4096 by omega);have hK:=fQ (show 0<n/\n<=4096 by omega);rw[hn]at f HR ⊢;rw[hn]at an ai;clear hn g2 aC aD g3 aE L q3 q4 q5 g4 g5 qi qo gi aF ao aG g6 aH l6 aO l7 aP X aq ar O;go_wp2;go_loopw [6] (fun i wr=>∃ k:Nat,k<=n/\i = .int .i64 k/\Hid (∀ c∈r.code.take k,codeOk e r c=true)/\Hid (AW w.heap.size w wr)/\Hid (Blk wr w.heap.size 26 #[P,.int .i64 e.imports,vb,R,.bool e.mem])/\Hid (Blk wr (w.heap.size+1) 43 #[.slice l r.sig.inn.length m,.slice o r.sig.out.length s,.int .i64 r.places,.slice U r.params.length V,.slice W n cc])) (fun i _=>n - (intOf i).toNat)
     case atStart=>exact⟨0,by omega,rfl,fQ (by simp),a,g,f⟩
     case round=>
      clear a g f;obtain⟨k,hk,rfl,IC,a,g,f⟩:=hrel;obtain⟨B,C,D,E,F⟩:=gJ f.out;obtain⟨G,H,I,J,K⟩:=gJ g.out;have y0:=g.out.lt;have y1:=f.out.lt;by_cases aQ:k<n
      ·have t1:decide ((k:Int)<n)=true:=(by simp;omega);have t2:(k:Int)<n:=(by omega);obtain⟨c,hc⟩:∃ c,r.code[k]? = some c:=⟨_,Ax (by rw[j.out];exact aQ)⟩;have HC:=fQ hc;clear hc;go_wp2_with fail;refine(cJr e r c k _ _ _ (HE.out.below a.out (Aj _)) (HR.out.below a.out (Aj _)) HC.out Q0.out Q1.out (by rw[j.out];exact ai)).mono ?_;rintro A w5 ⟨rfl,ak⟩;have aJ:=fQ (a.out.trans (ak.mono a.out.size));have aR:=fQ (g.out.below ak g.out.lt);have aS:=fQ (f.out.below ak f.out.lt);clear ak B C D E F G H I J K y0 y1
       cases q9:codeOk e r c with
       | false=>
        have Q:=fQ q9;clear q9;go_wp2;go_ret;exact ChkPost.no (fun d=>by have:=d.code c (AX HC.out);rw[Q.out]at this;cases this) aJ.out
       | true=>
        have HA:=fQ (show ∀ c∈r.code.take (k+1),codeOk e r c=true from fun c' aK=>by
         obtain⟨aT,e'⟩:=List.getElem?_eq_some_iff.1 HC.out;rw[Ak aT,e',List.mem_append]at aK;rcases aK with h | h
         ·exact IC.out c' h
         ·simp at h;rw[h];exact q9)
        clear q9 IC;go_wp2;exact⟨⟨k+1,by omega,by simp,HA,aJ,aR,aS⟩,by simp[intOf];omega⟩
      ·have t1:decide ((k:Int)<n)=false:=by simp;omega
       have Q9:=fQ (show ∀ c∈r.code,codeOk e r c=true by
        have:=IC.out
        rwa[AJ (by rw[j.out];omega)]at this)
       have aU:(0:Int)<(n:Int):=(by omega);have aV:0<n:=(by omega);obtain⟨u,au⟩:∃ u,r.code[0]? = some u:=⟨_,Ax (by rw[j.out];omega)⟩;obtain⟨c1,av⟩:∃ c1,r.code[r.code.length - 1]? = some c1:=⟨_,Ax (by rw[j.out];omega)⟩;have al:=H7.out.below a.out (Aj _) (fun _ _ h=>h.below a.out (Aj _));rw[j.out]at al;obtain⟨gb,go,p,q,t,eA,a8,m0,_⟩:=al.code au;obtain⟨ba,ao,p',q',t',aw,aW,m1,_⟩:=al.code av;subst eA;injection aw with aw;injection aw with e1 e2;subst e1;subst e2;rw[j.out]at m1;obtain⟨v,ax⟩:∃ v,n=v+1:=⟨n - 1,by omega⟩;have m1:=m1;rw[ax]at m1;simp only[Nat.add_sub_cancel,Nat.zero_mul,Nat.add_zero]at m0 m1;have bb:(v:Int)<(n:Int):=(by omega);have aX:v<n:=(by omega);have bc:IntKind.i64.wrap ((n:Int) - 1)=(v:Int):=(by rw[show(n:Int) - 1=(v:Int) by omega];exact Av _ (by omega));have C0:=fQ au;have C1:=fQ av;have HK:=fQ ax;clear au av al ax;have ay:=fQ (fun(h:¬(u.op=258/\(273<=c1.op/\c1.op<=277)/\c1.op≠274))=>(show ¬CheckP e r from fun d=>h ⟨d.first u C0.out,by have:=d.last c1 C1.out;omega,by have:=d.last c1 C1.out;omega⟩));by_cases x:u.op=258
       ·have g10:(u.op == 258)=true:=(by simpa using x);have az:=fQ x;clear x;go_wp2_with fail;refine(cYr c1.op _).mono ?_;rintro A w6 ⟨rfl,rfl⟩;by_cases y:273<=c1.op/\c1.op<=277
        ·rw[decide_eq_true y];have aA:=fQ y;clear y;by_cases z:c1.op=274
         ·have g12:(c1.op != 274)=false:=(by simp[z]);have aB:=fQ z;clear z;go_wp2;go_ret;exact ChkPost.no (ay.out (fun h=>h.2.2 aB.out)) a.out
         ·have g12:(c1.op != 274)=true:=(by simp[z]);have aB:=fQ z;clear z;have af:=fQ (show c1.op=273\/c1.op=275\/c1.op=276\/c1.op=277 by have:=aA.out;have:=aB.out;omega);have aY:=fQ (bQk (by rw[j.out];exact an) (by rw[j.out];exact ai) Q9.out (fun c hc=>by rw[C1.out]at hc;injection hc with hc;rw[<-hc];exact(tW _).2 af.out));go_wp2_with fail;refine(bVy r _ _ (HR.out.below a.out (Aj _)) aY.out).mono ?_;rintro A w7 ⟨b,rfl,aL,aM⟩;have aZ:=fQ (a.out.trans (aM.mono a.out.size));have aN:=fQ aL;clear aM aL;go_wp2;go_ret;refine⟨!b,rfl,⟨fun hb=>?_,fun d=>?_⟩,aZ.out⟩
          ·have a6:¬b=true:=(by simpa using hb);have a7:Ranked r:=Classical.byContradiction fun h=>a6 (aN.out.2 h);exact⟨Q0.out,Q1.out,by rw[j.out];exact an,by rw[j.out];exact ai,aI.out.1,aI.out.2,Q6.out,Q7.out.1,Q7.out.2,Q9.out,(fun c hc=>by rw[C0.out]at hc;injection hc with hc;rw[<-hc];exact az.out),(fun c hc=>by rw[C1.out]at hc;injection hc with hc;rw[<-hc];exact af.out),a7⟩
          ·cases b with
           | false=>rfl
           | true=>exact absurd d.rank (aN.out.1 rfl)
        ·rw[decide_eq_false y];have aA:=fQ y;clear y;go_wp2;go_ret;exact ChkPost.no (ay.out (fun h=>aA.out h.2.1)) a.out
       ·have g10:(u.op == 258)=false:=(by simpa using x);have az:=fQ x;clear x;go_wp2;go_ret;exact ChkPost.no (ay.out (fun h=>az.out h.1)) a.out
  ·have g6:((r.params.length:Int) != (r.sig.inn.length:Int))=true:=(by simp;omega);have aH:(r.params.length != r.sig.inn.length)=true:=(by simp;omega);have Q6:=fQ q6;clear q6;go_wp2;go_ret;exact ChkPost.no (fun d=>Q6.out d.par) a.out
section
variable {w w':AK} {base n P:Nat} {v:AV} {T:Nat->Nat->Bool} {gs:List Nat}
end
section
variable {w:AK} {n P:Nat} {rv:Array AV} {v:AV} {T:Nat->Nat->Bool} {gs:List Nat} {gl:Nat} {f:Nat->Bool} {wi wj:AK}
end
structure KM (w1 w:AK) (gC:Nat) (v:AV) (n P:Nat) (T:Nat->Nat->Bool) (gs:List Nat):Prop where
 t:TM w w1.heap.size v n P T gs
 c:Blk w gC 141 #[v]
 lo:w1.heap.size<=gC
 b:AW w1.heap.size w1 w
section
variable {w1 w w':AK} {gC n P:Nat} {v:AV} {T:Nat->Nat->Bool} {gs:List Nat}
end
section
variable {r:RowD} {P gC:Nat} {Req Req':Rel2} {w1 w w':AK} {v:AV} {gs:List Nat}
end
end Go.Proofs.YtabibkpfgmolkaaGreat
namespace Go.Proofs.YtabibkpfgmolkaaGreat
theorem aWs(w:AK):AW w.heap.size w w.drew:=⟨rfl,rfl,rfl,Aj _,fun _ _=>rfl⟩
end Go.Proofs.YtabibkpfgmolkaaGreat
namespace Go.Proofs.YtabibkpfgmolkaaGreat
theorem dYl{P:Program}{Q:Exit->Act->AK->Prop}{f:Region.Mode}{c d:AK->Prop}{e:Nat}{l:List Oper}{i j:Nat}{o g:Oper}{fuel:Nat}{listed:Array Bool}{a:Act}{w:AK}(m:Region.ready f l.toArray listed = [i,j])(ho:l[i]? = some o)(q:l[j]? = some g)
  (h:∀ b:Act->AK->Prop,Shut (∀ a w,SD c d e (listed.setIfInBounds i true) w->(SD c d e (listed.setIfInBounds i true) w->pJ P f l.toArray Q c d e fuel (listed.setIfInBounds i true) a w)->b a w)->if Region.wanted o (yielded l.toArray a.tmps)=true then Oper.wp P o a w b Q else b (a.put o.dst undef) w)
  (r:∀ b:Act->AK->Prop,Shut (∀ a w,SD c d e (listed.setIfInBounds j true) w->(SD c d e (listed.setIfInBounds j true) w->pJ P f l.toArray Q c d e fuel (listed.setIfInBounds j true) a w)->b a w)->if Region.wanted g (yielded l.toArray a.tmps)=true then Oper.wp P g a w b Q else b (a.put g.dst undef) w) :
  pJ P f l.toArray Q c d e (fuel+1) listed a w:=
 ⟨fun s=>(by rw[s]at m;cases m),fun k n=>by
  rw[m]at n;simp only[List.mem_cons,List.not_mem_nil,or_false]at n;rcases n with rfl | rfl
  ·exact wpOp_step (by simpa using ho) (fun b p=>h b (fun a w h1 h2=>p a w ⟨h1,h2 h1⟩))
  ·exact wpOp_step (by simpa using q) (fun b p=>r b (fun a w h1 h2=>p a w ⟨h1,h2 h1⟩))⟩
theorem aVr{w:AK}{base k:Nat}{e:TypeId}{A:Option Addr}{n c:Nat}{b:List AV}(h:w.ownsRow base e k (.slice A n c) n b):Src w A (n*k) b:=by
 refine⟨h.1,fun hn=>?_⟩;rcases h.2 with⟨h1,h2⟩ | ⟨g,cap,cur,h1,_,hg,h5,_,h6,d⟩
 ·subst h2;simp at hn
 ·injection h1 with h1 h2 h3;subst h1;refine⟨g,0,rfl,(Array.getElem?_eq_some_iff.1 hg).1,fun j u a=>?_⟩
  have f:j<n*k:=by
   have:=(List.getElem?_eq_some_iff.1 a).1
   rwa[h.1]at this
  rw[Nat.zero_add];have hb:Blk w g e cur:=hg;rw[hb.cell j,<-Array.getElem?_toList];rw[<-d,List.getElem?_take,if_pos f]at a;exact a
end Go.Proofs.YtabibkpfgmolkaaGreat
namespace Go.Proofs.YtabibkpfgmolkaaGreat
open List renaming setIfInBounds_toArray->jA,set_cons_zero->jB,set_cons_succ->jC
theorem aZr(p:RowsD)(v:AV)(w:AK)(hv:RowsV w v p):AY fZ 5 #[v] w (dYj p w):=by
 obtain⟨a,b,d,f,rfl,h1,h2,h3,Y⟩:=hv;have av:=fQ (show EnvV w (.agg #[a,.int .i64 p.env.imports,b,d,.bool p.env.mem]) p.env from⟨a,b,d,rfl,h1,h2,h3⟩);obtain⟨sA,Z,rfl,_,aR,_⟩:=h1.len;obtain⟨fA,fc,rfl,_,aC,_⟩:=Y.len;have aw:=fQ h1;have ax:=fQ Y;have an:=fQ ((Ay w.heap.size w).alloc (Aj _) (.cells #[.slice sA p.env.sigs.length Z,.int .i64 p.env.imports,b,d,.bool p.env.mem,.slice fA p.fns.length fc] 29));have K0:=fQ (Blk.new w 29 #[.slice sA p.env.sigs.length Z,.int .i64 p.env.imports,b,d,.bool p.env.mem,.slice fA p.fns.length fc]);clear h1 h2 h3 Y;go_in;go_wp2_with fail;refine(xW _ p.env _ (av.out.below an.out (Aj _))).mono ?_;rintro en w1 ⟨rfl,ao⟩;have H:=fQ (an.out.trans (ao.mono an.out.size));have KP:=fQ (K0.out.below ao K0.out.lt);clear ao;cases R:envOk p.env
 ·go_wp2_with fail;go_ret;exact⟨false,rfl,⟨fun h=>(by cases h),fun h=>(by have:=h.env;rw[R]at this;cases this)⟩,H.out⟩
 have aD:=mW R;obtain⟨M,hM⟩:∃ M:Nat,p.env.imports=(M:Int):=⟨p.env.imports.toNat,by omega⟩;obtain⟨n,hn⟩:=fX p.fns.length;obtain⟨L,hL⟩:=fX p.env.sigs.length;obtain⟨S,hS⟩:=fX (L - M);have aS:M<=L:=(by omega);have aE:=fQ R;have N:=fQ hM;have T:=fQ hn;have U:=fQ hL;have O:=fQ (show S+M=L by omega);have aF:M<=64:=(by omega);have aG:L<=64:=(by omega);have aH:S<=64:=(by omega);rw[hn]at aC;have aI:IntKind.i64.wrap ((L:Int) - (M:Int))=(S:Int):=(by rw[show(L:Int) - (M:Int)=(S:Int) by omega];exact Av _ (by omega));obtain⟨e0,l,e2,o,q,m⟩:=eXg KP.out;rw[hM]at l ⊢;rw[hL]at e0 aw ⊢;rw[hn]at m ax ⊢;have y1:=KP.out.lt;have aJ:=fQ (show ∀ w',AW w1.heap.size w1 w'->_/\_/\_/\_/\_/\_ from fun w' t=>⟨(t.cell (p:=⟨w.heap.size,_,none⟩) y1).trans e0,(t.cell (p:=⟨w.heap.size,_,none⟩) y1).trans l,(t.cell (p:=⟨w.heap.size,_,none⟩) y1).trans e2,(t.cell (p:=⟨w.heap.size,_,none⟩) y1).trans o,(t.cell (p:=⟨w.heap.size,_,none⟩) y1).trans q,(t.cell (p:=⟨w.heap.size,_,none⟩) y1).trans m⟩);clear R aD hM hn hL hS;by_cases aK:n=S
 ·subst aK;have q0:((n:Int) != (n:Int))=false:=(by simp);go_wp2_with fail;clear e0 l e2 o q m q0 aI;go_loopw [3] (fun i wr=>∃ k:Nat,k<=n/\i = .int .i64 k/\Hid (LrInv p M w1 k wr)) (fun i _=>n - (intOf i).toNat)
  case atStart=>exact⟨0,by omega,rfl,fQ ⟨Ay _ _,fun j r hj=>by omega⟩⟩
  case round=>
   obtain⟨k,hk,rfl,I⟩:=hrel;obtain⟨e0,l,e2,o,q,m⟩:=aJ.out _ I.out.1;by_cases aL:k<n
   ·as_aux_lemma=>
    have t1:decide ((k:Int)<n)=true:=(by simp;omega);have t2:(k:Int)<n:=(by omega);obtain⟨r,hr⟩:∃ r,p.fns[k]? = some r:=⟨_,Ax (by rw[T.out];exact aL)⟩;obtain⟨X,hX⟩:=fX (M+k);obtain⟨s,hs⟩:∃ s,p.env.sigs[X]? = some s:=⟨_,Ax (by have:=O.out;have:=U.out;omega)⟩;have HR:=fQ hr;have ay:=fQ (show p.env.sigs[M+k]? = some s from hX ▸ hs);have aT:IntKind.i64.wrap ((M:Int)+(k:Int))=(X:Int):=(by rw[show(M:Int)+(k:Int)=(X:Int) by omega];exact Av _ (by have:=O.out;omega));have t3:(X:Int)<L:=(by have:=O.out;omega);have F:=H.out.trans (I.out.1.mono H.out.size);have V:=fQ F;obtain⟨P,fo,x0,x1,x3,x4,rfl,J,u,x,y,z,A,i1,i2,i3,i4⟩:=ax.out.row hr;obtain⟨sb,so,u0,u1,rfl,aq,B,C,i5,i6⟩:=aw.out.sig hs;have y2:w.heap.size<wr.heap.size:=Nat.lt_of_lt_of_le y1 I.out.1.size
    have D:=fQ (show ∀ w',AW wr.heap.size wr w'->_/\_/\_/\_/\_/\_/\_/\_/\_/\_ from fun w' t=>by
     have hc:=F.trans (t.mono F.size)
     exact⟨(t.cell (p:=⟨w.heap.size,_,none⟩) y2).trans e0,(t.cell (p:=⟨w.heap.size,_,none⟩) y2).trans l,(t.cell (p:=⟨w.heap.size,_,none⟩) y2).trans m,(hc.cell (p:=⟨P,_,none⟩) J).trans u,(hc.cell (p:=⟨P,_,none⟩) J).trans x,(hc.cell (p:=⟨P,_,none⟩) J).trans y,(hc.cell (p:=⟨P,_,none⟩) J).trans z,(hc.cell (p:=⟨P,_,none⟩) J).trans A,(hc.cell (p:=⟨sb,_,none⟩) aq).trans B,(hc.cell (p:=⟨sb,_,none⟩) aq).trans C⟩)
    have E:=fQ (show ∀ w',AW wr.heap.size wr w'->_/\_/\_ from fun w' t=>⟨(t.cell (p:=⟨w.heap.size,_,none⟩) y2).trans e2,(t.cell (p:=⟨w.heap.size,_,none⟩) y2).trans o,(t.cell (p:=⟨w.heap.size,_,none⟩) y2).trans q⟩);have aM:=fQ (i1.below F (Aj _));have aN:=fQ (i2.below F (Aj _));have aO:=fQ (i5.below F (Aj _));have aP:=fQ (i6.below F (Aj _));have aQ:=fQ ((RowV.of i1 i2 i3 i4).below F (Aj _))
    have ar:=fQ (show EnvV wr (.agg #[.slice (some ⟨sb,so,none⟩) L Z,.int .i64 (M:Int),b,d,.bool p.env.mem]) p.env from by
     have:=av.out.below F (Aj _);rw[N.out,U.out]at this
     exact this)
    clear hr hs hX F i1 i2 i3 i4 i5 i6 J aq u x y z A B C;go_wp2_with fail;clear e0 l e2 o q m;refine lX (fun w'=>AW wr.heap.size wr w') (fun _=>True) 7 (by kernel_rfl) (aWs wr) trivial (fun c=>?_);have W:=fQ (aWs wr);refine fW (i:=0) (v:=?va0) rfl (by kernel_rfl) (by kernel_rfl) (by kernel_rfl) (fun _ _ _ h=>h) rfl (Or.inl ⟨by rfl,?hya0⟩) c (fun c=>?_)
    case hya0=>intro g e;obtain⟨e0,l,m,u,x,y,z,A,B,C⟩:=D.out _ e;obtain⟨e2,o,q⟩:=E.out _ e;go_simp;(try with_reducible rfl)
    try simp only[Aq,jA,jB,jC]
    refine fW (i:=1) (v:=?va1) rfl (by kernel_rfl) (by kernel_rfl) (by kernel_rfl) (fun _ _ _ h=>h) rfl (Or.inl ⟨by rfl,?hya1⟩) c (fun c=>?_)
    case hya1=>intro g e;obtain⟨e0,l,m,u,x,y,z,A,B,C⟩:=D.out _ e;obtain⟨e2,o,q⟩:=E.out _ e;go_simp;(try with_reducible rfl)
    try simp only[Aq,jA,jB,jC]
    refine fW (i:=2) (v:=?va2) rfl (by kernel_rfl) (by kernel_rfl) (by kernel_rfl) (fun _ _ _ h=>h) rfl (Or.inl ⟨by rfl,?hya2⟩) c (fun c=>?_)
    case hya2=>intro g e;obtain⟨e0,l,m,u,x,y,z,A,B,C⟩:=D.out _ e;obtain⟨e2,o,q⟩:=E.out _ e;go_simp;(try with_reducible rfl)
    try simp only[Aq,jA,jB,jC]
    refine fW (i:=3) (v:=?va3) rfl (by kernel_rfl) (by kernel_rfl) (by kernel_rfl) (fun _ _ _ h=>h) rfl (Or.inl ⟨by rfl,?hya3⟩) c (fun c=>?_)
    case hya3=>intro g e;obtain⟨e0,l,m,u,x,y,z,A,B,C⟩:=D.out _ e;obtain⟨e2,o,q⟩:=E.out _ e;go_simp;(try with_reducible rfl)
    try simp only[Aq,jA,jB,jC]
    refine fW (i:=4) (v:=?va4) rfl (by kernel_rfl) (by kernel_rfl) (by kernel_rfl) (fun _ _ _ h=>h) rfl (Or.inl ⟨by rfl,?hya4⟩) c (fun c=>?_)
    case hya4=>intro g e;obtain⟨e0,l,m,u,x,y,z,A,B,C⟩:=D.out _ e;obtain⟨e2,o,q⟩:=E.out _ e;go_simp;(try with_reducible rfl)
    try simp only[Aq,jA,jB,jC]
    refine fW (i:=5) (v:=?va5) rfl (by kernel_rfl) (by kernel_rfl) (by kernel_rfl) (fun _ _ _ h=>h) rfl (Or.inl ⟨by rfl,?hya5⟩) c (fun c=>?_)
    case hya5=>intro g e;obtain⟨e0,l,m,u,x,y,z,A,B,C⟩:=D.out _ e;obtain⟨e2,o,q⟩:=E.out _ e;go_simp;(try with_reducible rfl)
    try simp only[Aq,jA,jB,jC]
    refine fW (i:=6) (v:=?va6) rfl (by kernel_rfl) (by kernel_rfl) (by kernel_rfl) (fun _ _ _ h=>h) rfl (Or.inl ⟨by rfl,?hya6⟩) c (fun c=>?_)
    case hya6=>intro g e;obtain⟨e0,l,m,u,x,y,z,A,B,C⟩:=D.out _ e;obtain⟨e2,o,q⟩:=E.out _ e;go_simp;(try with_reducible rfl)
    try simp only[Aq,jA,jB,jC]
    refine jK (i:=7) (by kernel_rfl) rfl (fun K Q=>?_);go_simp;refine(cQc p.env r _ _ _ (ar.out.below W.out (Aj _)) (aQ.out.below W.out (Aj _))).mono ?_;rintro en w2 ⟨bb,rfl,az,hb⟩;have G:=fQ (W.out.trans (hb.mono W.out.size));have aA:=fQ az;clear hb az;refine Q.out _ _ ⟨G.out,fun _=>trivial⟩ (fun c=>?_);clear Q K
    try simp only[Aq,jA,jB,jC]
    cases bb
    ·as_aux_lemma=>
     refine fW (i:=8) (v:=?vb8) rfl (by kernel_rfl) (by kernel_rfl) (by kernel_rfl) (fun _ _ _ h=>h) rfl (Or.inl ⟨by rfl,?hyb8⟩) c (fun c=>?_)
     case hyb8=>intro g e;go_simp;(try with_reducible rfl)
     try simp only[Aq,jA,jB,jC]
     refine fW (i:=9) (v:=?vb9) rfl (by kernel_rfl) (by kernel_rfl) (by kernel_rfl) (fun _ _ _ h=>h) rfl (Or.inl ⟨by rfl,?hyb9⟩) c (fun c=>?_)
     case hyb9=>intro g e;go_simp;(try with_reducible rfl)
     try simp only[Aq,jA,jB,jC]
     refine fW (i:=10) (v:=undef) rfl (by kernel_rfl) (by kernel_rfl) (by kernel_rfl) (fun _ _ _ h=>h) rfl (Or.inr ⟨by rfl,rfl⟩) c (fun c=>?_)
     try simp only[Aq,jA,jB,jC]
     refine fW (i:=11) (v:=undef) rfl (by kernel_rfl) (by kernel_rfl) (by kernel_rfl) (fun _ _ _ h=>h) rfl (Or.inr ⟨by rfl,rfl⟩) c (fun c=>?_)
     try simp only[Aq,jA,jB,jC]
     refine fW (i:=12) (v:=undef) rfl (by kernel_rfl) (by kernel_rfl) (by kernel_rfl) (fun _ _ _ h=>h) rfl (Or.inr ⟨by rfl,rfl⟩) c (fun c=>?_)
     try simp only[Aq,jA,jB,jC]
     refine fW (i:=13) (v:=undef) rfl (by kernel_rfl) (by kernel_rfl) (by kernel_rfl) (fun _ _ _ h=>h) rfl (Or.inr ⟨by rfl,rfl⟩) c (fun c=>?_)
     try simp only[Aq,jA,jB,jC]
     refine fW (i:=14) (v:=undef) rfl (by kernel_rfl) (by kernel_rfl) (by kernel_rfl) (fun _ _ _ h=>h) rfl (Or.inr ⟨by rfl,rfl⟩) c (fun c=>?_)
     try simp only[Aq,jA,jB,jC]
     refine fW (i:=15) (v:=undef) rfl (by kernel_rfl) (by kernel_rfl) (by kernel_rfl) (fun _ _ _ h=>h) rfl (Or.inr ⟨by rfl,rfl⟩) c (fun c=>?_)
     try simp only[Aq,jA,jB,jC]
     refine fW (i:=16) (v:=undef) rfl (by kernel_rfl) (by kernel_rfl) (by kernel_rfl) (fun _ _ _ h=>h) rfl (Or.inr ⟨by rfl,rfl⟩) c (fun c=>?_)
     try simp only[Aq,jA,jB,jC]
     refine fW (i:=17) (v:=undef) rfl (by kernel_rfl) (by kernel_rfl) (by kernel_rfl) (fun _ _ _ h=>h) rfl (Or.inr ⟨by rfl,rfl⟩) c (fun c=>?_)
     try simp only[Aq,jA,jB,jC]
     refine fW (i:=18) (v:=undef) rfl (by kernel_rfl) (by kernel_rfl) (by kernel_rfl) (fun _ _ _ h=>h) rfl (Or.inr ⟨by rfl,rfl⟩) c (fun c=>?_)
     try simp only[Aq,jA,jB,jC]
     refine fW (i:=19) (v:=undef) rfl (by kernel_rfl) (by kernel_rfl) (by kernel_rfl) (fun _ _ _ h=>h) rfl (Or.inr ⟨by rfl,rfl⟩) c (fun c=>?_)
     try simp only[Aq,jA,jB,jC]
     refine fW (i:=20) (v:=undef) rfl (by kernel_rfl) (by kernel_rfl) (by kernel_rfl) (fun _ _ _ h=>h) rfl (Or.inr ⟨by rfl,rfl⟩) c (fun c=>?_)
     try simp only[Aq,jA,jB,jC]
     refine fW (i:=21) (v:=undef) rfl (by kernel_rfl) (by kernel_rfl) (by kernel_rfl) (fun _ _ _ h=>h) rfl (Or.inr ⟨by rfl,rfl⟩) c (fun c=>?_)
     try simp only[Aq,jA,jB,jC]
     refine fW (i:=22) (v:=undef) rfl (by kernel_rfl) (by kernel_rfl) (by kernel_rfl) (fun _ _ _ h=>h) rfl (Or.inr ⟨by rfl,rfl⟩) c (fun c=>?_)
     try simp only[Aq,jA,jB,jC]
     refine fW (i:=23) (v:=undef) rfl (by kernel_rfl) (by kernel_rfl) (by kernel_rfl) (fun _ _ _ h=>h) rfl (Or.inr ⟨by rfl,rfl⟩) c (fun c=>?_)
     try simp only[Aq,jA,jB,jC]
     refine fW (i:=24) (v:=undef) rfl (by kernel_rfl) (by kernel_rfl) (by kernel_rfl) (fun _ _ _ h=>h) rfl (Or.inr ⟨by rfl,rfl⟩) c (fun c=>?_)
     try simp only[Aq,jA,jB,jC]
     refine fW (i:=25) (v:=undef) rfl (by kernel_rfl) (by kernel_rfl) (by kernel_rfl) (fun _ _ _ h=>h) rfl (Or.inr ⟨by rfl,rfl⟩) c (fun c=>?_)
     try simp only[Aq,jA,jB,jC]
     refine fW (i:=26) (v:=undef) rfl (by kernel_rfl) (by kernel_rfl) (by kernel_rfl) (fun _ _ _ h=>h) rfl (Or.inr ⟨by rfl,rfl⟩) c (fun c=>?_)
     try simp only[Aq,jA,jB,jC]
     refine fW (i:=27) (v:=undef) rfl (by kernel_rfl) (by kernel_rfl) (by kernel_rfl) (fun _ _ _ h=>h) rfl (Or.inr ⟨by rfl,rfl⟩) c (fun c=>?_)
     try simp only[Aq,jA,jB,jC]
     refine fW (i:=28) (v:=?vb28) rfl (by kernel_rfl) (by kernel_rfl) (by kernel_rfl) (fun _ _ _ h=>h) rfl (Or.inl ⟨by rfl,?hyb28⟩) c (fun c=>?_)
     case hyb28=>intro g e;go_simp;(try with_reducible rfl)
     try simp only[Aq,jA,jB,jC]
     refine kQ (by kernel_rfl) ?_ _;go_wp2_with fail;go_ret;refine⟨false,rfl,⟨fun h=>(by cases h),fun h=>?_⟩,V.out.trans (G.out.mono V.out.size)⟩;exact aA.out.2 (h.row k r HR.out).1
    ·as_aux_lemma=>
     refine fW (i:=8) (v:=?vc8) rfl (by kernel_rfl) (by kernel_rfl) (by kernel_rfl) (fun _ _ _ h=>h) rfl (Or.inl ⟨by rfl,?hyc8⟩) c (fun c=>?_)
     case hyc8=>intro g e;go_simp;(try with_reducible rfl)
     try simp only[Aq,jA,jB,jC]
     refine fW (i:=9) (v:=?vc9) rfl (by kernel_rfl) (by kernel_rfl) (by kernel_rfl) (fun _ _ _ h=>h) rfl (Or.inl ⟨by rfl,?hyc9⟩) c (fun c=>?_)
     case hyc9=>intro g e;go_simp;(try with_reducible rfl)
     try simp only[Aq,jA,jB,jC]
     refine fW (i:=10) (v:=?vc10) rfl (by kernel_rfl) (by kernel_rfl) (by kernel_rfl) (fun _ _ _ h=>h) rfl (Or.inl ⟨by rfl,?hyc10⟩) c (fun c=>?_)
     case hyc10=>intro g e;go_simp;(try with_reducible rfl)
     try simp only[Aq,jA,jB,jC]
     refine fW (i:=11) (v:=?vc11) rfl (by kernel_rfl) (by kernel_rfl) (by kernel_rfl) (fun _ _ _ h=>h) rfl (Or.inl ⟨by rfl,?hyc11⟩) c (fun c=>?_)
     case hyc11=>intro g e;obtain⟨e0,l,m,u,x,y,z,A,B,C⟩:=D.out _ e;obtain⟨e2,o,q⟩:=E.out _ e;go_simp;(try with_reducible rfl)
     try simp only[Aq,jA,jB,jC]
     refine fW (i:=12) (v:=?vc12) rfl (by kernel_rfl) (by kernel_rfl) (by kernel_rfl) (fun _ _ _ h=>h) rfl (Or.inl ⟨by rfl,?hyc12⟩) c (fun c=>?_)
     case hyc12=>intro g e;go_simp;(try with_reducible rfl)
     try simp only[Aq,jA,jB,jC]
     refine fW (i:=13) (v:=?vc13) rfl (by kernel_rfl) (by kernel_rfl) (by kernel_rfl) (fun _ _ _ h=>h) rfl (Or.inl ⟨by rfl,?hyc13⟩) c (fun c=>?_)
     case hyc13=>intro g e;go_simp;(try with_reducible rfl)
     try simp only[Aq,jA,jB,jC]
     refine fW (i:=14) (v:=?vc14) rfl (by kernel_rfl) (by kernel_rfl) (by kernel_rfl) (fun _ _ _ h=>h) rfl (Or.inl ⟨by rfl,?hyc14⟩) c (fun c=>?_)
     case hyc14=>intro g e;go_simp;(try with_reducible rfl)
     try simp only[Aq,jA,jB,jC]
     refine fW (i:=15) (v:=?vc15) rfl (by kernel_rfl) (by kernel_rfl) (by kernel_rfl) (fun _ _ _ h=>h) rfl (Or.inl ⟨by rfl,?hyc15⟩) c (fun c=>?_)
     case hyc15=>intro g e;obtain⟨e0,l,m,u,x,y,z,A,B,C⟩:=D.out _ e;obtain⟨e2,o,q⟩:=E.out _ e;go_simp;(try with_reducible rfl)
     try simp only[Aq,jA,jB,jC]
     refine fW (i:=16) (v:=?vc16) rfl (by kernel_rfl) (by kernel_rfl) (by kernel_rfl) (fun _ _ _ h=>h) rfl (Or.inl ⟨by rfl,?hyc16⟩) c (fun c=>?_)
     case hyc16=>intro g e;go_simp;(try with_reducible rfl)
     try simp only[Aq,jA,jB,jC]
     refine fW (i:=17) (v:=?vc17) rfl (by kernel_rfl) (by kernel_rfl) (by kernel_rfl) (fun _ _ _ h=>h) rfl (Or.inl ⟨by rfl,?hyc17⟩) c (fun c=>?_)
     case hyc17=>intro g e;go_simp;(try with_reducible rfl)
     try simp only[Aq,jA,jB,jC]
     refine fW (i:=18) (v:=?vc18) rfl (by kernel_rfl) (by kernel_rfl) (by kernel_rfl) (fun _ _ _ h=>h) rfl (Or.inl ⟨by rfl,?hyc18⟩) c (fun c=>?_)
     case hyc18=>intro g e;obtain⟨e0,l,m,u,x,y,z,A,B,C⟩:=D.out _ e;obtain⟨e2,o,q⟩:=E.out _ e;go_simp;(try with_reducible rfl)
     try simp only[Aq,jA,jB,jC]
     refine fW (i:=19) (v:=?vc19) rfl (by kernel_rfl) (by kernel_rfl) (by kernel_rfl) (fun _ _ _ h=>h) rfl (Or.inl ⟨by rfl,?hyc19⟩) c (fun c=>?_)
     case hyc19=>intro g e;go_simp;(try with_reducible rfl)
     try simp only[Aq,jA,jB,jC]
     refine fW (i:=20) (v:=?vc20) rfl (by kernel_rfl) (by kernel_rfl) (by kernel_rfl) (fun _ _ _ h=>h) rfl (Or.inl ⟨by rfl,?hyc20⟩) c (fun c=>?_)
     case hyc20=>intro g e;go_simp;(try with_reducible rfl)
     try simp only[Aq,jA,jB,jC]
     refine fW (i:=21) (v:=?vc21) rfl (by kernel_rfl) (by kernel_rfl) (by kernel_rfl) (fun _ _ _ h=>h) rfl (Or.inl ⟨by rfl,?hyc21⟩) c (fun c=>?_)
     case hyc21=>intro g e;obtain⟨e0,l,m,u,x,y,z,A,B,C⟩:=D.out _ e;obtain⟨e2,o,q⟩:=E.out _ e;go_simp;(try with_reducible rfl)
     try simp only[Aq,jA,jB,jC]
     refine fW (i:=22) (v:=?vc22) rfl (by kernel_rfl) (by kernel_rfl) (by kernel_rfl) (fun _ _ _ h=>h) rfl (Or.inl ⟨by rfl,?hyc22⟩) c (fun c=>?_)
     case hyc22=>intro g e;go_simp;(try with_reducible rfl)
     try simp only[Aq,jA,jB,jC]
     refine fW (i:=23) (v:=?vc23) rfl (by kernel_rfl) (by kernel_rfl) (by kernel_rfl) (fun _ _ _ h=>h) rfl (Or.inl ⟨by rfl,?hyc23⟩) c (fun c=>?_)
     case hyc23=>intro g e;go_simp;(try with_reducible rfl)
     try simp only[Aq,jA,jB,jC]
     refine fW (i:=24) (v:=?vc24) rfl (by kernel_rfl) (by kernel_rfl) (by kernel_rfl) (fun _ _ _ h=>h) rfl (Or.inl ⟨by rfl,?hyc24⟩) c (fun c=>?_)
     case hyc24=>intro g e;go_simp;(try with_reducible rfl)
     try simp only[Aq,jA,jB,jC]
     refine fW (i:=25) (v:=?vc25) rfl (by kernel_rfl) (by kernel_rfl) (by kernel_rfl) (fun _ _ _ h=>h) rfl (Or.inl ⟨by rfl,?hyc25⟩) c (fun c=>?_)
     case hyc25=>intro g e;obtain⟨e0,l,m,u,x,y,z,A,B,C⟩:=D.out _ e;obtain⟨e2,o,q⟩:=E.out _ e;go_simp;(try with_reducible rfl)
     try simp only[Aq,jA,jB,jC]
     refine jK (i:=26) (by kernel_rfl) rfl (fun K Q=>?_);go_simp;refine(bWf _ _ _ _ r.sig s _ (aM.out.below G.out (Aj _)) (aN.out.below G.out (Aj _)) (aO.out.below G.out (Aj _)) (aP.out.below G.out (Aj _))).mono ?_;rintro en w3 ⟨rfl,hb⟩;have au:=fQ (G.out.trans (hb.mono G.out.size));clear hb;refine Q.out _ _ ⟨au.out,fun _=>trivial⟩ (fun c=>?_);clear Q K
     try simp only[Aq,jA,jB,jC]
     cases hq:bQa r.sig s
     ·as_aux_lemma=>
      refine fW (i:=27) (v:=?vd027) rfl (by kernel_rfl) (by kernel_rfl) (by kernel_rfl) (fun _ _ _ h=>h) rfl (Or.inl ⟨by rfl,?hyd027⟩) c (fun c=>?_)
      case hyd027=>intro g e;go_simp;(try with_reducible rfl)
      try simp only[Aq,jA,jB,jC]
      refine fW (i:=28) (v:=?vd028) rfl (by kernel_rfl) (by kernel_rfl) (by kernel_rfl) (fun _ _ _ h=>h) rfl (Or.inl ⟨by rfl,?hyd028⟩) c (fun c=>?_)
      case hyd028=>intro g e;go_simp;(try with_reducible rfl)
      try simp only[Aq,jA,jB,jC]
      refine kQ (by kernel_rfl) ?_ _;go_wp2_with fail;go_ret;refine⟨false,rfl,⟨fun h=>(by cases h),fun h=>?_⟩,V.out.trans (au.out.mono V.out.size)⟩;have h1:=(h.row k r HR.out).2;rw[show p.env.imports.toNat=M by rw[N.out];rfl,ay.out]at h1;injection h1 with h1;rw[bZj.2 h1.symm]at hq;cases hq
     ·as_aux_lemma=>
      refine fW (i:=27) (v:=?vd127) rfl (by kernel_rfl) (by kernel_rfl) (by kernel_rfl) (fun _ _ _ h=>h) rfl (Or.inl ⟨by rfl,?hyd127⟩) c (fun c=>?_)
      case hyd127=>intro g e;go_simp;(try with_reducible rfl)
      try simp only[Aq,jA,jB,jC]
      refine fW (i:=28) (v:=?vd128) rfl (by kernel_rfl) (by kernel_rfl) (by kernel_rfl) (fun _ _ _ h=>h) rfl (Or.inl ⟨by rfl,?hyd128⟩) c (fun c=>?_)
      case hyd128=>intro g e;go_simp;(try with_reducible rfl)
      try simp only[Aq,jA,jB,jC]
      refine kQ (by kernel_rfl) ?_ _;go_wp2_with fail;have aB:=bZj.1 hq
      with_reducible exact⟨⟨k+1,by omega,by simp,fQ (I.out.step HR.out ay.out (by rw[<-aB]) (by rw[<-aB]) (aA.out.1 rfl) au.out)⟩,by simp[intOf];omega⟩
   ·as_aux_lemma=>
    have t1:decide ((k:Int)<n)=false:=(by simp;omega);go_wp2_with fail;go_ret;refine⟨true,rfl,⟨fun _=>⟨aE.out,?_,fun i r hi=>?_⟩,fun _=>rfl⟩,H.out.trans (I.out.1.mono H.out.size)⟩
    ·have:=N.out;have:=T.out;have:=U.out;have:=O.out;omega
    ·rw[show p.env.imports.toNat=M by rw[N.out];rfl];exact I.out.2 i r (by have:=(List.getElem?_eq_some_iff.1 hi).1;have:=T.out;omega) hi
 ·have q0:((n:Int) != (S:Int))=true:=(by simp;omega);go_wp2_with fail;go_ret;refine⟨false,rfl,⟨fun h=>(by cases h),fun h=>?_⟩,H.out⟩;have:=h.len;have:=N.out;have:=T.out;have:=U.out;have:=O.out;omega
open List renaming setIfInBounds_toArray->jA,set_cons_zero->jB,set_cons_succ->jC
open List renaming setIfInBounds_toArray->jA,set_cons_zero->jB,set_cons_succ->jC
open List renaming setIfInBounds_toArray->jA,set_cons_zero->jB,set_cons_succ->jC
open List renaming setIfInBounds_toArray->jA,set_cons_zero->jB,set_cons_succ->jC
end Go.Proofs.YtabibkpfgmolkaaGreat

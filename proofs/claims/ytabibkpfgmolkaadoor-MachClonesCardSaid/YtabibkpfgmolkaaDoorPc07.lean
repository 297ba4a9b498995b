/- Lemmas for the claim, part 7. Conditions: none. -/
import Derived.Test.YtabibkpfgmolkaaDoorPc06
set_option maxRecDepth 100000
set_option maxHeartbeats 16000000
set_option linter.unusedVariables false
set_option linter.unusedSimpArgs false
open Go.Lib renaming hid→cQ
open Go.Proofs.Tryd renaming prog→cZ
open Go.Proofs.Tryd
open Go.RowKit
open List renaming mem_of_getElem?→Aj,getD_eq_getElem?_getD→Ax,getD_cons_zero→Ak,getD_cons_succ→Av,mem_cons_self→Aw,length_replicate→Ay,mem_cons_of_mem→AJ,map_cons→AZ,getElem?_eq_getElem→AY,drop_eq_nil_of_le→Ab,length_set→Ad,mem_of_mem_take→Ae,mem_of_mem_drop→Af,sum_cons→Ah,length_append→Ai,length_drop→Bx,length_map→Bk,replicate→Bv
open Nat renaming le_refl→Aq,lt_of_lt_of_le→Az,le_add_right→AX,zero_le→AK,le_trans→AV,add_comm→AW,zero_add→Ac,add_right_comm→Bj,add_sub_cancel→Bq,div_le_self→Bz,add_assoc→Bw
open Bool renaming false_eq_true→AQ,and_eq_true→Aa
open Option renaming some→Ag
open Go renaming World→By,Value→BJ
open Go.RowKit renaming Below→BQ
namespace Go.Proofs.YtabibkpfgmolkaaDoor
variable {w w' w0:By}{l V a:List Nat}{k n c g i:Nat}{v:BJ}
def nK(z:Int):Prop:=0<=z/\z<18446744073709551616
def In32(z:Int):Prop:=0<=z/\z<4294967296
theorem In32.cYb{z:Int}(h:In32 z):nK z:=⟨h.1,by have:=h.2;omega⟩
theorem zY(b:Bool):In32 (b01 b):=by cases b <;> simp[b01,In32]
theorem pW(z:Int):nK (IntKind.u64.wrap z):=by unfold nK;rw[IntKind.wrap_u64];omega
theorem aKi(z:Int):In32 (z % 4294967296):=by unfold In32;omega
theorem aYw(o:BinOp)(x y:Int):nK (bits o .u64 x y):=by
 have h:∃ z,bits o .u64 x y=IntKind.u64.wrap z:=⟨_,rfl⟩;obtain⟨z,a⟩:=h;rw[a];exact pW z
theorem bWh(a b by_:Nat)(x:Int)(ha:a<18446744073709551616)(k:Nat):nK ((oJ .u64 64 a b by_ x).getD k 0):=by
 have h1:(a:Int) / 2 ^ by_=((a / 2 ^ by_:Nat):Int):=(by simp);have h2:=Bz a (2 ^ by_);have e:0<=(a:Int) / 2 ^ by_:=Int.ediv_nonneg (by omega) (Int.le_of_lt (Int.pow_pos (by omega)));have c:=fun o x y=>aYw o x y;have d:nK 0:=⟨by omega,by omega⟩;unfold oJ
 match k with
 | 0=>exact pW _
 | 1=>exact pW _
 | 2=>exact pW _
 | 3=>exact d
 | 4=>exact d
 | 5=>exact d
 | 6=>exact d
 | 7=>simp only[Ak,Av];exact c _ _ _
 | 8=>simp only[Ak,Av];exact c _ _ _
 | 9=>simp only[Ak,Av];exact c _ _ _
 | 10=>exact pW _
 | 11=>exact pW _
 | 12=>exact(show nK ((a:Int) / 2 ^ by_)from⟨e,by rw[h1];omega⟩)
 | 13=>simp only[Ak,Av];exact c _ _ _
 | 14=>simp only[Ak,Av];exact c _ _ _
 | k+15=>exact d
theorem bWi(k:Int)(a b:Nat)(x y:Int)(ha:a<18446744073709551616):nK (fQ 18446744073709551616 (-9223372036854775808) k a b x y).1:=by
 have h1:(a:Int) / b=((a / b:Nat):Int):=(by simp);have h2:=Bz a b;have h5:0<=(a:Int) / b:=Int.ediv_nonneg (by omega) (by omega);have h3:(a:Int) % b=((a % b:Nat):Int):=(by simp);have h4:=Nat.mod_le a b;unfold fQ nK
 repeat' split
 all_goals (simp only;omega)
theorem aYx(M least k:Int)(a b:Nat)(x y:Int):(fQ M least k a b x y).2=0\/(fQ M least k a b x y).2=33\/(fQ M least k a b x y).2=34:=by
 unfold fQ
 repeat' split
 all_goals simp
theorem aYy(c d k:Int)(a b:Nat)(hd:d=126\/d=127)(ha:a<18446744073709551616)(i:d=127->a<4294967296):
  nK (jY c d k a b).1/\(c=1->In32 (jY c d k a b).1)/\(d=127->In32 (jY c d k a b).1)/\((jY c d k a b).2=0\/((jY c d k a b).2≠1/\c≠1/\3<=k/\k<=6)):=by
 have key:∀ z:Int×Int,z.2=0\/z.2=33\/z.2=34->z.2=0\/z.2≠1:=fun z h=>by omega
 rcases hd with rfl | rfl
 ·unfold jY;rw[if_pos rfl];by_cases hc:c=1
  ·rw[if_pos hc];exact⟨(zY _).cYb,fun _=>zY _,fun h=>absurd h (by decide),.inl rfl⟩
  ·rw[if_neg hc];by_cases e:3<=k/\k<=6
   ·rw[if_pos e];refine⟨bWi _ _ _ _ _ ha,fun h=>absurd h hc,fun h=>absurd h (by decide),?_⟩;rcases key _ (aYx 18446744073709551616 (-9223372036854775808) (k - 3) a b (wrap64 a) (wrap64 b))with h | h
    ·exact .inl h
    ·exact .inr ⟨h,hc,e.1,e.2⟩
   ·rw[if_neg e];exact⟨bWh _ _ _ _ ha _,fun h=>absurd h hc,fun h=>absurd h (by decide),.inl rfl⟩
 ·have g:=i rfl;unfold jY;rw[if_neg (by decide)];by_cases hc:c=1
  ·rw[if_pos hc];exact⟨(zY _).cYb,fun _=>zY _,fun _=>zY _,.inl rfl⟩
  ·rw[if_neg hc];by_cases e:3<=k/\k<=6
   ·rw[if_pos e];have f:In32 _:=aWa (k - 3) a b (wrap32 a) (wrap32 b) g;refine⟨f.cYb,fun h=>absurd h hc,fun _=>f,?_⟩;rcases key _ (aYx 4294967296 (-2147483648) (k - 3) a b (wrap32 a) (wrap32 b))with h | h
    ·exact .inl h
    ·exact .inr ⟨h,hc,e.1,e.2⟩
   ·rw[if_neg e];have f:In32 _:=aWb a b (b % 32) (wrap32 a) g k.toNat;exact⟨f.cYb,fun h=>absurd h hc,fun _=>f,.inl rfl⟩
theorem cZw(k:Int)(x:Nat)(hx:x<18446744073709551616):nK (aXs k x):=by
 unfold aXs
 split
 ·exact pW _
 ·exact⟨by omega,by omega⟩
theorem cZx(k out:Int)(x:Nat):nK (pQ k out x)/\(out=127->In32 (pQ k out x)):=by
 unfold pQ
 split
 ·exact⟨(aKi _).cYb,fun _=>aKi _⟩
 ·exact⟨pW _,fun h=>absurd h (by assumption)⟩
theorem aXu(h:All64 l)(i:Nat):l.getD i 0<18446744073709551616:=by
 rw[Ax]
 cases hx:l[i]? with
 | none=>simp
 | some x=>exact h x (Aj hx)
theorem cZy{d:Int}(h:l.all (kJ d)=true)(i:Nat)(hd:d=127):l.getD i 0<4294967296:=by
 subst hd;rw[Ax]
 cases a:l[i]? with
 | none=>simp
 | some x=>
  have:=List.all_eq_true.1 h x (Aj a)
  simpa[kJ]using this
theorem bJk{op a b c d:Int}(hg:fK op=some (a,b,c,d))(h:All64 l)(hf:l.all (kJ d)=true):nK (nQ c d (op - a) (oW op) l).1:=by
 obtain⟨hc,hd,_,hle,ae,_,_⟩:=wJ hg;obtain⟨r0,r1,j,r3,r4,r5,r6⟩:=bXs hg;have e:=aXu h 0;have f:=cZy (i:=0) hf;rcases hc with rfl | rfl | rfl | rfl | rfl | rfl | rfl
 ·rw[nQ,if_pos rfl];exact(zY _).cYb
 ·rw[nQ,if_neg (by decide),if_neg (by decide),if_neg (by decide),if_neg (by decide),if_neg (by decide)];exact(aYy 1 d (op - a) (l.getD 0 0) (l.getD 1 0) hd e f).1
 ·rw[nQ,if_neg (by decide),if_pos rfl]
  have g:=@bXr (if d=126 then 64 else 32) (l.getD 0 0) (op - a).toNat (by
   rcases hd with rfl | rfl
   ·exact .inl ⟨rfl,e⟩
   ·exact .inr ⟨rfl,f rfl⟩) (by have:=j rfl;omega)
  exact⟨g.1,by have:=g.2;omega⟩
 ·rw[nQ,if_neg (by decide),if_neg (by decide),if_neg (by decide),if_neg (by decide),if_neg (by decide)];exact(aYy 3 d (op - a) (l.getD 0 0) (l.getD 1 0) hd e f).1
 ·rw[nQ,if_neg (by decide),if_neg (by decide),if_pos rfl];exact(aKi _).cYb
 ·rw[nQ,if_neg (by decide),if_neg (by decide),if_neg (by decide),if_pos rfl];exact cZw _ _ e
 ·rw[nQ,if_neg (by decide),if_neg (by decide),if_neg (by decide),if_neg (by decide),if_pos rfl];exact(cZx (op - a) (oW op) (l.getD 0 0)).1
structure StOk (e:EnvD) (s:StD):Prop where
 memB:AllB s.mem
 memL:(s.mem.length:Int)<=s.most
 most:s.most<=4096
 glen:s.globals.length=e.globals.length
 g64:All64 s.globals
 l64:All64 s.log
 i64:All64 s.input
 ilen:s.input.length<=100000
 fuel:s.fuel<=1024
theorem StOk.cYd{e:EnvD}{s:StD}(h:StOk e s):s.mem.length<=4096:=by have:=h.memL;have:=h.most;omega
theorem kZ:All64 []:=fun x a=>by simp at a
theorem aVq{b:List Nat}(ha:All64 a)(c:All64 b):All64 (a++b):=fun x d=>by
 rcases List.mem_append.1 d with h | h
 ·exact ha x h
 ·exact c x h
theorem aVr(h:n<18446744073709551616):All64 [n]:=fun x a=>by rw[List.mem_singleton.1 a];exact h
theorem aQl(h:All64 l)(k:Nat):All64 (l.take k):=fun x a=>h x (Ae a)
theorem aQm(h:All64 l)(k:Nat):All64 (l.drop k):=fun x a=>h x (Af a)
theorem aKf(h:All64 l)(k n:Nat)(hn:n<18446744073709551616):All64 (l.set k n):=fun x a=>by
 rcases List.mem_or_eq_of_mem_set a with h1 | h1
 ·exact h x h1
 ·omega
theorem lQ:∀ (ks:List Int) (l:List Nat),All64 l->All64 (lowL ks l)
 | [],l,_=>by cases l <;> exact kZ
 | t :: ks,[],_=>kZ
 | t :: ks,x :: l,h=>fun y a=>by
  rcases List.mem_cons.1 a with rfl | a
  ·have:=h x (Aw ..);unfold jW
   split <;> omega
  ·exact lQ ks l (fun z b=>h z (AJ _ b)) y a
theorem vX:∀ (os:List Int) (a V:List Nat),All64 a->All64 V->All64 (putV os a V)
 | [],a,V,_,h=>by cases a <;> exact h
 | o :: os,[],V,_,h=>h
 | o :: os,n :: a,V,hn,h=>vX os a _ (fun x b=>hn x (AJ _ b)) (aKf h _ _ (hn n (Aw ..)))
theorem aVs(n:Nat):All64 (Bv n 0):=fun x a=>by rw[List.eq_of_mem_replicate a];omega
theorem bQz(lost:Nat)(h:All64 V):All64 (zeroV lost V):=aVq (aVs _) (aQm h _)
theorem aZr(r:RowD)(h:All64 a):All64 (initV r a):=vX _ _ _ h (aVs _)
theorem aKg(h:All64 V)(l:List Int):All64 (getV V l):=fun x a=>by
 obtain⟨p,_,rfl⟩:=List.mem_map.1 a;exact aXu h _
theorem bJe(e:EnvD)(r:RowD)(c:CodeD)(h:All64 V):All64 (argV e r c V):=lQ _ _ (aKg h _)
theorem bVo(k:Int)(a:Nat)(b:Bool){q:Nat}(h:q<18446744073709551616):nK (tW k a b q):=by
 have h1:nK (if b then sxV a (q:Int)else(q:Int)):=by
  split
  ·exact pW _
  ·exact⟨by omega,by omega⟩
 unfold tW aKx
 split
 ·exact(aKi _).cYb
 ·exact h1
theorem aVt{m:List Nat}(h:AllB m)(op:Int)(a o:Nat):nK (mX m op a o).1:=by
 have b:nK 0:=⟨by omega,by omega⟩;unfold mX
 cases c:acc op with
 | none=>exact b
 | some x=>
  obtain⟨k,wd,st,d⟩:=x;simp only
  split
  ·exact b
  ·split
   ·have hw:=(jX c).2.1;refine bVo k _ d ?_;have h2:=aYn ((m.drop (a+o)).take wd.toNat) (fun x e=>h x (Af (Ae e)))
    have f:((m.drop (a+o)).take wd.toNat).length<=8:=by
     rw[List.length_take];omega
    exact Az h2 (Nat.pow_le_pow_right (n:=256) (by omega) f)
   ·exact b
theorem aVu(op:Int)(h:All64 l):nK (mZ op l).1:=by
 have e:nK 0:=⟨by omega,by omega⟩;unfold mZ
 cases hg:fK op with
 | none=>exact e
 | some g=>
  obtain⟨a,b,c,d⟩:=g;simp only
  split
  ·rename_i h2;exact bJk hg h h2.2
  ·exact e
theorem aQn{z:Int}(h:nK z):z.toNat<18446744073709551616/\((z.toNat:Nat):Int)=z:=by
 have h1:=h.1;have h2:=h.2;omega
theorem aJg{e:EnvD}{outs:List Int}{s:StD}(hs:StOk e s)(ha:All64 a)(hn:n<18446744073709551616):StOk e (hostV n outs a s).2.2/\All64 (hostV n outs a s).1:=by
 have c:All64 (s.log++n :: a):=aVq hs.l64 (fun x b=>by
  rcases List.mem_cons.1 b with rfl | b
  ·exact hn
  ·exact ha x b)
 unfold hostV
 split
 ·exact⟨⟨hs.memB,hs.memL,hs.most,hs.glen,hs.g64,c,aQm hs.i64 _,by show(s.input.drop _).length<=_;rw[Bx];have:=hs.ilen;omega,hs.fuel⟩,lQ _ _ (aQl hs.i64 _)⟩
 ·exact⟨⟨hs.memB,hs.memL,hs.most,hs.glen,hs.g64,c,kZ,AK _,hs.fuel⟩,kZ⟩
theorem bXp{e:EnvD}{c:CodeD}{s:StD}(hs:StOk e s)(ha:All64 a)(hn:c.n<18446744073709551616):StOk e (eW c a s).2.2/\(eW c a s).1<18446744073709551616:=by
 have f:=aXu ha 0;have g1:=aXu ha 1;have b:(0:Nat)<18446744073709551616:=(by omega);unfold eW
 split;· exact⟨hs,hn⟩
 split;· exact⟨hs,f⟩
 split
 ·split
  ·exact⟨hs,b⟩
  ·exact⟨⟨hs.memB,hs.memL,hs.most,hs.glen,hs.g64,hs.l64,hs.i64,hs.ilen,by have:=hs.fuel;show s.fuel - 1<=_;omega⟩,b⟩
 split
 ·refine⟨hs,?_⟩;show(if a.getD 2 0=0 then a.getD 1 0 else a.getD 0 0)<_
  split <;> assumption
 split;· exact⟨hs,aXu hs.g64 _⟩
 split
 ·exact⟨⟨hs.memB,hs.memL,hs.most,(Ad ..).trans hs.glen,aKf hs.g64 _ _ f,hs.l64,hs.i64,hs.ilen,hs.fuel⟩,b⟩
 split;· exact⟨hs,b⟩
 split
 ·rename_i ad
  split
  ·refine⟨⟨?_,?_,hs.most,hs.glen,hs.g64,hs.l64,hs.i64,hs.ilen,hs.fuel⟩,b⟩
   ·show AllB (gQ _ _ _ _ _);rename_i d;unfold gQ;rw[if_pos d];exact aJf hs.memB _ _ _
   ·show((gQ _ _ _ _ _).length:Int)<=s.most;rename_i d;have:=hs.memL;unfold gQ;rw[if_pos d,aQk];exact this
  ·exact⟨hs,b⟩
 ·split
  ·exact⟨hs,(aQn (aVt hs.memB _ _ _)).1⟩
  ·exact⟨hs,b⟩
 ·have hm:=hs.cYd
  split
  ·refine⟨hs,?_⟩;show s.mem.length / 256<_;omega
  split
  ·refine⟨⟨aVp hs.memB _ _,?_,hs.most,hs.glen,hs.g64,hs.l64,hs.i64,hs.ilen,hs.fuel⟩,?_⟩
   ·show((gZ _ _ _).length:Int)<=s.most;have:=hs.memL;unfold gZ
    split
    ·rename_i g;unfold uZ at g;simp only[decide_eq_true_eq]at g;rw[Ai,Ay];omega
    ·exact this
   ·show oZ _ _ _<_;unfold oZ
    split <;> omega
  ·exact⟨hs,(aQn (aVu _ ha)).1⟩
theorem cZi{e:EnvD}{c:CodeD}{s:StD}(hs:StOk e s)(ha:All64 a)(hn:c.n<18446744073709551616):(∀ l s',actV e c k a s = .vals l s'->StOk e s'/\All64 l)/\(∀ x s',actV e c k a s = .trap x s'->StOk e s'):=by
 constructor
 ·intro l s' h;obtain⟨_,_,_,_,_,hv⟩:=qW h;rcases hv with⟨_,_,b⟩ | ⟨_,rfl,_,rfl⟩
  ·have:=aJg (n:=c.n) (outs:=(e.sigs.getD c.n ⟨[],[]⟩).out) hs ha hn;rw[b]at this;exact this
  ·have:=bXp hs ha hn (c:=c);exact⟨this.1,aVr this.2⟩
 ·intro x s' h;unfold actV at h;simp only at h
  repeat' split at h
  all_goals first
   | (injection h with h1 h2;subst h2;first | exact hs | exact(aJg hs ha hn).1 | exact(bXp hs ha hn).1)
   | cases h
structure RawS where
 mem:List Nat
 most:Int
 globals:List Nat
 fuel:Int
 input:List Nat
 log:List Nat
def StV(w:By)(v:BJ)(s:RawS):Prop:=∃ a g i l,v = .agg #[a,.int .i64 s.most,g,.int .i64 s.fuel,i,l]/\BR w a s.mem/\UR w g s.globals/\UR w i s.input/\UR w l s.log
theorem StV.below{w w':By}{B:Nat}{v:BJ}{s:RawS}(h:StV w v s)(b:BQ B w w')(c:w.heap.size<=B):StV w' v s:=by
 obtain⟨a,g,i,l,e,h1,h2,d,f⟩:=h;exact⟨a,g,i,l,e,h1.below b c,h2.below b c,d.below b c,f.below b c⟩
def RawS.of(s:StD):RawS:=⟨s.mem,s.most,s.globals,s.fuel,s.input,s.log⟩
theorem BR.shape(h:BR w v l):∃ A c,v = .slice A l.length c:=by
 obtain⟨A,c,e,_⟩:=h;exact⟨A,c,e⟩
theorem BR.len{A:Option Addr}(h:BR w (.slice A n c) l):n=l.length/\Src w A n (bys l)/\n<=c/\(A=none->c=0)/\(n<=140737488355328/\c<=9223372036854775807)/\AllB l:=by
 obtain⟨A',c',e,r⟩:=h;injection e with a e2 b;subst a;subst e2;subst b;exact⟨rfl,r⟩
theorem wQ(w:By)(a b:Obj):BQ w.heap.size w ((w.alloc a).alloc b):=((Below.refl _ _).alloc (Aq _) _).alloc (by simp) _
theorem eX{e:TypeId}{a b c d f h:BJ}(k:Blk w g e #[a,b,c,d,f,h]):
  w.cell? ⟨g,0,none⟩=some a/\w.cell? ⟨g,1,none⟩=some b/\w.cell? ⟨g,2,none⟩=some c/\w.cell? ⟨g,3,none⟩=some d/\w.cell? ⟨g,4,none⟩=some f/\w.cell? ⟨g,5,none⟩=some h:=
 ⟨by simpa using k.cell 0,by simpa using k.cell 1,by simpa using k.cell 2,by simpa using k.cell 3,by simpa using k.cell 4,by simpa using k.cell 5⟩
theorem bVu(v u:BJ)(x y:List Nat)(w:By)(ha:BR w v x)(a:BR w u y):Calls cZ 30 #[v,u] w fun e w'=>e = .returned (.bool (decide (x=y)))/\w=w':=by
 obtain⟨A,c,rfl⟩:=ha.shape;obtain⟨B,d,rfl⟩:=a.shape;obtain⟨_,b,_,_,_,f⟩:=ha.len;obtain⟨_,g,_,_,_,h⟩:=a.len;have h1:=aWs (P:=cZ) w 31 9 5 underlying31 underlying5 underlying9 A x.length c x b f;have h2:=aWs (P:=cZ) w 31 9 5 underlying31 underlying5 underlying9 B y.length d y g h;have i:=cQ (cXl f h);clear ha a b g;go_in;go_wp2;go_ret;rw[<-i.out];exact⟨rfl,rfl⟩
theorem aVw(va f:BJ)(s:RawS)(w:By)(h1:StV w va s)(h2:StV w f s):Calls cZ 16 #[va,f] w fun en w'=>en = .returned (.bool true)/\BQ w.heap.size w w':=by
 obtain⟨a,g,i,l,rfl,h,o,p,q⟩:=h1;obtain⟨b,k,j,m,rfl,r,t,u,v⟩:=h2;have d:=cQ (wQ w (.cells #[a,.int .i64 s.most,g,.int .i64 s.fuel,i,l] 33) (.cells #[b,.int .i64 s.most,k,.int .i64 s.fuel,j,m] 33));have x:=cQ (fun(w':By) (c:BQ w.heap.size w w')=>h.below c (Aq _));have y:=cQ (fun(w':By) (c:BQ w.heap.size w w')=>o.below c (Aq _));have z:=cQ (fun(w':By) (c:BQ w.heap.size w w')=>p.below c (Aq _));have A:=cQ (fun(w':By) (c:BQ w.heap.size w w')=>q.below c (Aq _));have B:=cQ (fun(w':By) (c:BQ w.heap.size w w')=>r.below c (Aq _));have C:=cQ (fun(w':By) (c:BQ w.heap.size w w')=>t.below c (Aq _));have D:=cQ (fun(w':By) (c:BQ w.heap.size w w')=>u.below c (Aq _));have E:=cQ (fun(w':By) (c:BQ w.heap.size w w')=>v.below c (Aq _));clear h o p q r t u v;have e:=cQ (fun n:Nat=>dV d.out n);go_in;go_wp2_with fail;refine(bVu _ _ _ _ _ (x.out _ d.out) (B.out _ d.out)).mono ?_;rintro en w' ⟨rfl,rfl⟩;rw[decide_eq_true (rfl:s.mem=s.mem)];go_wp2_with fail;refine(rX _ _ _ _ _ (y.out _ d.out) (C.out _ d.out)).mono ?_;rintro en w' ⟨rfl,n1,rfl⟩;rw[decide_eq_true (rfl:s.globals=s.globals)];go_wp2_with fail;refine(rX _ _ _ _ _ (z.out _ (e.out _)) (D.out _ (e.out _))).mono ?_;rintro en w' ⟨rfl,n2,rfl⟩;rw[decide_eq_true (rfl:s.input=s.input)];go_wp2_with fail;refine(rX _ _ _ _ _ (A.out _ (e.out _)) (E.out _ (e.out _))).mono ?_;rintro en w' ⟨rfl,n3,rfl⟩;rw[decide_eq_true (rfl:s.log=s.log)];go_wp2;go_ret;exact⟨rfl,e.out _⟩
structure HoldsP (ks:List Int) (m:Bool) (s:RawS):Prop where
 pg:s.mem.length % 256=0
 le:(s.mem.length:Int)<=s.most
 mx:s.most<=4096
 no:m=false->s.most=0
 gl:s.globals.length=ks.length
 f0:0<=s.fuel
 f1:s.fuel<=1024
 il:s.input.length<=4096
 ll:s.log.length<=4096
 ft:∀ (k:Nat) (t:Int) (n:Nat),ks[k]? = some t->s.globals[k]? = some n->fitsB t n=true
def GivP(ks:List Int)(l:List Nat):Prop:=ks.length=l.length/\∀ (k:Nat) (t:Int) (n:Nat),ks[k]? = some t->l[k]? = some n->fitsB t n=true
def cJu(Q:Prop)(w:By)(en:Ending)(w':By):Prop:=∃ b:Bool,en = .returned (.bool b)/\(b=true↔Q)/\BQ w.heap.size w w'
theorem zV{e:EnvD}(h:envOk e=true):e.globals.length<=100000:=by
 unfold envOk hZ at h;simp only[Aa,decide_eq_true_eq]at h;have:=h.2.1.1;omega
def FitP(e:EnvD)(s:RawS):Prop:=envOk e=true/\HoldsP e.globals e.mem s
theorem aXm:∀ (os:List Int) (c V:List Nat) (k:Nat) (o:Int) (n:Nat),os[k]? = some o->c[k]? = some n->putV (os.take (k+1)) (c.take (k+1)) V=(putV (os.take k) (c.take k) V).set o.toNat n
 | [],c,V,k,o,n,h,_=>by simp at h
 | a :: os,[],V,k,o,n,_,h=>by simp at h
 | a :: os,b :: c,V,0,o,n,h,k=>by
  simp at h k;subst h;subst k;cases os <;> cases c <;> rfl
 | a :: os,b :: c,V,k+1,o,n,h,d=>by
  simp only[List.take_succ_cons,putV];exact aXm os c _ k o n (by simpa using h) (by simpa using d)
theorem aVv:∀ (os:List Int) (a V:List Nat),(putV os a V).length=V.length
 | [],a,V=>by cases a <;> rfl
 | o :: os,[],V=>rfl
 | o :: os,n :: a,V=>by rw[putV,aVv os a,Ad]
def aXn(i:Nat)(V:List Nat):List Nat:=Bv i 0++V.drop i
theorem bVp(V:List Nat):aXn 0 V=V:=rfl
theorem bVq(h:i<V.length):(aXn i V).set i 0=aXn (i+1) V:=by
 unfold aXn;rw[List.set_append_right _ _ (by simp),Ay,Nat.sub_self,List.replicate_succ',List.append_assoc]
 congr 1
 rw[List.drop_eq_getElem_cons h];rfl
theorem bVr{lost:Nat}(h:i=min lost V.length):aXn i V=zeroV lost V:=by
 unfold aXn zeroV;subst h;by_cases a:lost<=V.length
 ·rw[Nat.min_eq_left a]
 ·rw[Nat.min_eq_right (by omega),Ab (Aq _),Ab (by omega)]
theorem bVs{l:List Int}{p:Int}(h:l[k]? = some p):getV V (l.take (k+1))=getV V (l.take k) ++ [V.getD p.toNat 0]:=by
 obtain⟨h1,h2⟩:=List.getElem?_eq_some_iff.1 h;unfold getV;rw[List.take_succ_eq_append_getElem h1,h2,List.map_append];rfl
theorem aXo{outs:List Int}{s:StD}(ha:a.length<=8):(hostV n outs a s).2.2.log.length<=s.log.length+9:=by
 unfold hostV
 split <;> (simp;omega)
theorem cQn(c:CodeD)(a:List Nat)(s:StD):(eW c a s).2.2.log=s.log:=by
 unfold eW
 repeat' split
 all_goals rfl
theorem aJh{e:EnvD}{c:CodeD}{s:StD}(ha:a.length<=8):(∀ l s',actV e c k a s = .vals l s'->s'.log.length<=s.log.length+9)/\(∀ x s',actV e c k a s = .trap x s'->s'.log.length<=s.log.length+9):=by
 have h1:=aXo (n:=c.n) (outs:=(e.sigs.getD c.n ⟨[],[]⟩).out) (s:=s) ha;have h2:=cQn c a s;constructor
 ·intro l s' h;obtain⟨_,_,_,_,_,hv⟩:=qW h;rcases hv with⟨_,_,b⟩ | ⟨_,_,_,rfl⟩
  ·rw[b]at h1;exact h1
  ·rw[h2];omega
 ·intro x s' h;unfold actV at h;simp only at h
  repeat' split at h
  all_goals first
   | (injection h with h3 d;subst d;first | exact AX _ _ | exact h1 | (rw[h2];exact AX _ _))
   | cases h
theorem zW:∀ (a:List Int) (l:List Nat),(lowL a l).length<=a.length
 | [],l=>by cases l <;> exact Aq _
 | t :: a,[]=>AK _
 | t :: a,x :: l=>by simp only[lowL,List.length_cons];have:=zW a l;omega
theorem aKy{e:EnvD}{r:RowD}{c:CodeD}(a:CheckP e r)(b:codeOk e r c=true)(V:List Nat):(argV e r c V).length<=8:=by
 obtain⟨i,o,hf,_⟩:=cY b;have:=(aVf a.env a.sig hf).1;unfold argV inK;rw[hf];exact AV (zW _ _) this
theorem Ev.log{p:RowsD}{lost d k:Nat}{r:RowD}{V:List Nat}{s:StD}{R:ResD}(hp:ProgP p)(h:Ev p lost d r k V s R):CheckP p.env r->R.s.log.length<=s.log.length+9*R.cnt:=by
 induction h with
 | ret hc ha=>intro _;exact AX _ _
 | trap hc ha=>
  intro a;exact(aJh (aKy a (a.code _ (Aj hc)) _)).2 _ _ ha
 | go hc ha hn b=>intro a;have:=b a;dsimp only;omega
 | vals hc ha hn b=>
  intro a;have h1:=(aJh (aKy a (a.code _ (Aj hc)) _)).1 _ _ ha;have:=b a;dsimp only;omega
 | call hc ha hd hq hg h1 he h2 ih1 ih2=>
  intro a;have c:=ih1 (hp.row _ _ hq).1;have a2:=ih2 a;dsimp only;omega
 | callT hc ha hd hq hg h1 he ih1=>
  intro a;have c:=ih1 (hp.row _ _ hq).1;dsimp only;omega
 | deep hc ha hd=>intro _;exact AX _ _
theorem cZj{e:EnvD}{r:RowD}{c:CodeD}(V:List Nat)(a:CheckP e r)(b:c∈r.code)(d:c.op=276):(argV e r c V).length=r.sig.out.length:=by
 obtain⟨i,o,hf,h1,_⟩:=cY (a.code c b);have f:=hf;rw[d]at hf;have hf:(if c.n=0 then some (r.sig.out,([]:List Int))else none)=some (i,o):=hf
 split at hf
 ·injection hf with hf;injection hf with h2 _;unfold argV inK;rw[f];show(lowL i (getV V c.args)).length=_;rw[kV _ _ (by unfold getV;rw[Bk];exact h1.symm),h2];unfold getV;rw[Bk];exact h1
 ·cases hf
theorem Ev.dQk{p:RowsD}{lost d:Nat}{r:RowD}{s:StD}{R:ResD}(h:Ev p lost d r k V s R)(b:CheckP p.env r)(a:R.e=0):R.out.length=r.sig.out.length:=by
 induction h with
 | ret hc ha=>
  obtain⟨f,rfl⟩:=aJe ha;exact cZj _ b (Aj hc) f
 | trap hc ha=>exact absurd a (aXl ha)
 | go hc ha hn c=>exact c b a
 | vals hc ha hn c=>exact c b a
 | call hc ha hd hq hg h1 he h2 ih1 ih2=>exact ih2 b a
 | callT hc ha hd hq hg h1 he ih1=>exact absurd a he
 | deep hc ha hd=>exact absurd a (show ¬(37:Int)=0 by decide)
inductive CDid (p:RowsD) (lost d n:Nat) (g:SigD) (a:List Nat) (s:StD):StD->Int->Nat->Nat->List Nat->Prop
 | host (hi:(n:Int)<p.env.imports):CDid p lost d n g a s (hostV n g.out (lowL g.inn a) s).2.2 (hostV n g.out (lowL g.inn a) s).2.1 0 0 (hostV n g.out (lowL g.inn a) s).1
 | deep (hi:¬(n:Int)<p.env.imports) (hd:16<=d):CDid p lost d n g a s s 37 0 0 []
 | call {q:RowD} {R:ResD} (hi:¬(n:Int)<p.env.imports) (hd:d<16) (hq:p.fns[n - p.env.imports.toNat]? = Ag q) (h1:Ev p lost (d+1) q 0 (initV q (lowL g.inn a)) s R):CDid p lost d n g a s R.s R.e R.cnt (q.places.toNat+R.wds) R.out
structure FrD where
 fi:Nat
 r:RowD
 k:Nat
 V:List Nat
structure MaD where
 st:List FrD
 s:StD
 out:List Nat
 e:Int
 steps:Nat
 over:Bool
 first:Option (Nat×List Nat)
def aYj:CodeD:=⟨0,0,[],[],[]⟩
def jV(x:MaD)(s:StD)(out:List Nat)(e:Int):MaD:={ x with st:=[],s:=s,out:=if e=0 then out else x.out,e:=e,over:=true }
def yX(x:MaD)(out:List Nat):List FrD->MaD
 | []=>jV x x.s out 0
 | g :: rest=>{ x with st:={ g with V:=putV ((g.r.code[g.k - 1]?).getD aYj).outs out (zeroV 8 g.V) } :: rest }
def doM(p:RowsD)(x:MaD)(f:FrD)(rest:List FrD)(c:CodeD):ActD->MaD
 | .go k=>{ x with st:={ f with k:=k } :: rest }
 | .ret l=>yX x l rest
 | .vals l s=>{ x with st:={ f with k:=f.k+1,V:=putV c.outs l f.V } :: rest,s:=s }
 | .trap e s=>jV x s [] e
 | .call n=>
  if 16<=rest.length+1 then jV x x.s [] 37
  else match p.fns[n - p.env.imports.toNat]?,p.env.sigs[n]? with
   | some q,some g=>{ x with st:=⟨n - p.env.imports.toNat,q,0,initV q (lowL g.inn (argV p.env f.r c f.V))⟩ :: { f with k:=f.k+1 } :: rest }
   | _,_=>x
def goM(p:RowsD)(x:MaD):MaD:=match x.first with
 | some (n,a)=>
  let h:=hostV n (p.env.sigs.getD n ⟨[],[]⟩).out (lowL (p.env.sigs.getD n ⟨[],[]⟩).inn a) x.s
  jV x h.2.2 h.1 h.2.1
 | none=>match x.st with
  | []=>x
  | f :: rest=>match f.r.code[f.k]? with
   | none=>x
   | some c=>doM p x f rest c (actV p.env c f.k (argV p.env f.r c f.V) x.s)
def dK(p:RowsD)(x:MaD):MaD:=if x.over then x else goM p { x with steps:=x.steps+1 }
def stN(p:RowsD):Nat->MaD->MaD
 | 0,x=>x
 | k+1,x=>stN p k (dK p x)
def wdM(x:MaD):Nat:=(x.st.map fun f=>f.V.length).sum
def mwM(p:RowsD):Nat->MaD->Nat
 | 0,_=>0
 | k+1,x=>max (wdM x) (mwM p k (dK p x))
theorem qZ(p:RowsD)(i j:Nat)(x:MaD):stN p (i+j) x=stN p j (stN p i x):=by
 induction i generalizing x with
 | zero=>rw[Ac];rfl
 | succ i a=>rw[Bj];exact a (dK p x)
theorem cZf(p:RowsD)(i j:Nat)(x:MaD):mwM p (i+j) x=max (mwM p i x) (mwM p j (stN p i x)):=by
 induction i generalizing x with
 | zero=>rw[Ac];show _=max 0 _;rw[Nat.zero_max];rfl
 | succ i a=>
  rw[Bj];show max (wdM x) (mwM p (i+j) (dK p x))=max (max (wdM x) (mwM p i (dK p x))) (mwM p j (stN p i (dK p x)));rw[a,Nat.max_assoc]
theorem qJ:∀ (os:List Int) (a V:List Nat),(putV os a V).length=V.length
 | [],a,V=>by cases a <;> rfl
 | o :: os,[],V=>rfl
 | o :: os,n :: a,V=>by rw[putV,qJ,Ad]
theorem uY(lost:Nat)(V:List Nat):(zeroV lost V).length=V.length:=by
 unfold zeroV;rw[Ai,Ay,Bx];omega
theorem pK(r:RowD)(a:List Nat):(initV r a).length=r.places.toNat:=by
 unfold initV;rw[qJ,Ay]
theorem oX{p:RowsD}{x:MaD}{f:FrD}{rest:List FrD}{c:CodeD}{A:ActD}(a:x.over=false)(hf:x.first=none)(hs:x.st=f :: rest)(hc:f.r.code[f.k]? = some c)(ha:actV p.env c f.k (argV p.env f.r c f.V) x.s=A):
  dK p x=doM p { x with steps:=x.steps+1 } f rest c A:=by
 unfold dK;rw[a];simp only[AQ,if_false];unfold goM;simp only[hf,hs,hc,ha]
def endM(x:MaD)(rest:List FrD)(R:ResD):MaD:=if R.e=0 then yX { x with steps:=x.steps+R.cnt,s:=R.s } R.out rest else jV { x with steps:=x.steps+R.cnt,s:=R.s } R.s [] R.e
theorem aZk{p:RowsD}{x:MaD}(h:∀ j,j<i->(stN p j (dK p x)).over=false)(a:x.over=false):∀ j,j<i+1->(stN p j x).over=false
 | 0,_=>a
 | j+1,hj=>h j (by omega)
theorem cQd{p:RowsD}{d:Nat}{r:RowD}{s:StD}{R:ResD}(h:Ev p 8 d r k V s R):
  ∀ (x:MaD) (fi:Nat) (rest:List FrD),x.over=false->x.first=none->x.st=⟨fi,r,k,V⟩ :: rest->x.s=s->rest.length+1=d ->
   stN p R.cnt x=endM x rest R/\(∀ i,i<R.cnt->(stN p i x).over=false)/\mwM p R.cnt x=wdM x+R.wds:=by
 induction h with
 | @ret d r k V s c l hc ha=>
  intro x fi rest a hf b hs hd;have h1:=oX (p:=p) a hf b hc (hs ▸ ha);refine⟨?_,fun i hi=>?_,?_⟩
  ·show dK p x=_;rw[h1];simp only[doM,endM,if_true];rw[<-hs]
  ·have:i=0:=(by have:i<1:=hi;omega);subst this;exact a
  ·show max (wdM x) 0=_;simp
 | @trap d r k V s s' c e hc ha=>
  intro x fi rest a hf b hs hd;have h1:=oX (p:=p) a hf b hc (hs ▸ ha);refine⟨?_,fun i hi=>?_,?_⟩
  ·show dK p x=_;rw[h1];simp only[doM,endM,if_neg (aXl ha)];simp only[jV]
  ·have:i=0:=(by have:i<1:=hi;omega);subst this;exact a
  ·show max (wdM x) 0=_;simp
 | @go d r k k' V s c R hc ha hn w=>
  intro x fi rest a hf b hs hd;have h1:=oX (p:=p) a hf b hc (hs ▸ ha);have h2:=w (dK p x) fi rest (by rw[h1];exact a) (by rw[h1];exact hf) (by rw[h1];rfl) (by rw[h1];exact hs) hd;obtain⟨o,t,u⟩:=h2;have y:wdM (dK p x)=wdM x:=(by rw[h1];simp only[doM,wdM,b,AZ]);have m:(1+R.cnt:Nat)=R.cnt+1:=AW ..;refine⟨?_,fun i hi=>?_,?_⟩
  ·show stN p (1+R.cnt) x=_;rw[m];show stN p R.cnt (dK p x)=_;rw[o,h1];simp only[endM,doM,m,Bw,AW 1]
   split <;> first | rfl | (cases rest <;> rfl)
  ·exact aZk (i:=R.cnt) t a i (by have:i<1+R.cnt:=hi;omega)
  ·show mwM p (1+R.cnt) x=wdM x+R.wds;rw[m];show max (wdM x) (mwM p R.cnt (dK p x))=_;rw[u,y];omega
 | @vals d r k V s s' c l R hc ha hn w=>
  intro x fi rest a hf b hs hd;have h1:=oX (p:=p) a hf b hc (hs ▸ ha);have h2:=w (dK p x) fi rest (by rw[h1];exact a) (by rw[h1];exact hf) (by rw[h1];rfl) (by rw[h1];rfl) hd;obtain⟨o,t,u⟩:=h2;have y:wdM (dK p x)=wdM x:=(by rw[h1];simp only[doM,wdM,b,AZ,qJ]);have m:(1+R.cnt:Nat)=R.cnt+1:=AW ..;refine⟨?_,fun i hi=>?_,?_⟩
  ·show stN p (1+R.cnt) x=_;rw[m];show stN p R.cnt (dK p x)=_;rw[o,h1];simp only[endM,doM,m,Bw,AW 1]
   split <;> first | rfl | (cases rest <;> rfl)
  ·exact aZk (i:=R.cnt) t a i (by have:i<1+R.cnt:=hi;omega)
  ·show mwM p (1+R.cnt) x=wdM x+R.wds;rw[m];show max (wdM x) (mwM p R.cnt (dK p x))=_;rw[u,y];omega
 | @call d r q k n V s c g R1 R2 hc ha hd hq hg h1 he h2 ih1 ih2=>
  intro x fi rest a hf b hs z;have f:=oX (p:=p) a hf b hc (hs ▸ ha);have A:¬16<=rest.length+1:=(by omega);simp only[doM,if_neg A,hq,hg]at f;obtain⟨o,t,u⟩:=ih1 (dK p x) (n - p.env.imports.toNat) (⟨fi,r,k+1,V⟩ :: rest) (by rw[f];exact a) (by rw[f];exact hf) (by rw[f]) (by rw[f];exact hs) (by simp;omega)
  have v:stN p R1.cnt (dK p x)={ x with steps:=x.steps+1+R1.cnt,s:=R1.s,st:=⟨fi,r,k+1,putV c.outs R1.out (zeroV 8 V)⟩ :: rest }:=by
   rw[o,f];simp only[endM,he,if_true,yX,Bq,hc,Option.getD_some]
  obtain⟨C,D,E⟩:=ih2 (stN p R1.cnt (dK p x)) fi rest (by rw[v];exact a) (by rw[v];exact hf) (by rw[v]) (by rw[v]) z;have B:wdM (dK p x)=wdM x+q.places.toNat:=(by rw[f];simp only[wdM,b,AZ,Ah,pK];omega);have F:wdM (stN p R1.cnt (dK p x))=wdM x:=(by rw[v];simp only[wdM,b,AZ,Ah,qJ,uY]);have m:(1+R1.cnt+R2.cnt:Nat)=(R1.cnt+R2.cnt)+1:=(by omega);refine⟨?_,fun i hi=>?_,?_⟩
  ·show stN p (1+R1.cnt+R2.cnt) x=_;rw[m];show stN p (R1.cnt+R2.cnt) (dK p x)=_;rw[qZ,C,v];simp only[endM];have e2:x.steps+1+R1.cnt+R2.cnt=x.steps+(R1.cnt+R2.cnt+1):=(by omega);rw[e2]
   split <;> first | rfl | (cases rest <;> rfl)
  ·refine aZk (i:=R1.cnt+R2.cnt) (fun j hj=>?_) a i (by have:i<1+R1.cnt+R2.cnt:=hi;omega);rcases Nat.lt_or_ge j R1.cnt with h | h
   ·exact t j h
   ·have:=D (j - R1.cnt) (by omega);rw[<-qZ]at this
    rwa[show R1.cnt+(j - R1.cnt)=j by omega]at this
  ·show mwM p (1+R1.cnt+R2.cnt) x=wdM x+max (q.places.toNat+R1.wds) R2.wds;rw[m];show max (wdM x) (mwM p (R1.cnt+R2.cnt) (dK p x))=_;rw[cZf,u,E,B,F];omega
 | @callT d r q k n V s c g R1 hc ha hd hq hg h1 he ih1=>
  intro x fi rest a hf b hs z;have f:=oX (p:=p) a hf b hc (hs ▸ ha);have A:¬16<=rest.length+1:=(by omega);simp only[doM,if_neg A,hq,hg]at f;obtain⟨o,t,u⟩:=ih1 (dK p x) (n - p.env.imports.toNat) (⟨fi,r,k+1,V⟩ :: rest) (by rw[f];exact a) (by rw[f];exact hf) (by rw[f]) (by rw[f];exact hs) (by simp;omega);have B:wdM (dK p x)=wdM x+q.places.toNat:=(by rw[f];simp only[wdM,b,AZ,Ah,pK];omega);have m:(1+R1.cnt:Nat)=R1.cnt+1:=AW ..;refine⟨?_,fun i hi=>?_,?_⟩
  ·show stN p (1+R1.cnt) x=_;rw[m];show stN p R1.cnt (dK p x)=_;rw[o,f];simp only[endM,he,if_false,jV]
   congr 1
   omega
  ·exact aZk (i:=R1.cnt) t a i (by have:i<1+R1.cnt:=hi;omega)
  ·show mwM p (1+R1.cnt) x=wdM x+(q.places.toNat+R1.wds);rw[m];show max (wdM x) (mwM p R1.cnt (dK p x))=_;rw[u,B];omega
 | @deep d r k n V s c hc ha hd=>
  intro x fi rest a hf b hs z;have h1:=oX (p:=p) a hf b hc (hs ▸ ha);have G:16<=rest.length+1:=(by omega);simp only[doM,if_pos G]at h1;refine⟨?_,fun i hi=>?_,?_⟩
  ·show dK p x=_;rw[h1];simp only[endM,jV];rw[<-hs];rfl
  ·have:i=0:=(by have:i<1:=hi;omega);subst this;exact a
  ·show max (wdM x) 0=_;simp
def eV(p:RowsD)(n:Nat)(a:List Nat)(s:StD):MaD:=
 if(n:Int)<p.env.imports then⟨[],s,[],0,0,false,some (n,a)⟩
 else match p.fns[n - p.env.imports.toNat]?,p.env.sigs[n]? with
  | some q,some g=>⟨[⟨n - p.env.imports.toNat,q,0,initV q (lowL g.inn a)⟩],s,[],0,0,false,none⟩
  | _,_=>⟨[],s,[],0,0,false,none⟩
def gX(p:RowsD)(n dc:Nat):Nat:=if(n:Int)<p.env.imports then 1 else dc
theorem aXj{p:RowsD}{dc wd:Nat}{g:SigD}{s s2:StD}{e2:Int}(hg:p.env.sigs[n]? = some g)(h:CDid p 8 0 n g a s s2 e2 dc wd l):
  stN p (gX p n dc) (eV p n a s)=⟨[],s2,if e2=0 then l else[],e2,gX p n dc,true,(eV p n a s).first⟩/\(∀ i,i<gX p n dc->(stN p i (eV p n a s)).over=false)/\mwM p (gX p n dc) (eV p n a s)=wd:=by
 have c:p.env.sigs.getD n ⟨[],[]⟩=g:=by rw[Ax,hg];rfl
 cases h with
 | host hi=>
  unfold gX eV;simp only[if_pos hi];refine⟨?_,fun i h=>?_,?_⟩
  ·simp only[stN,dK,goM,c,jV,AQ,if_false]
  ·have:i=0:=(by omega);subst this;rfl
  ·show max (wdM _) 0=0;simp[wdM]
 | deep hi hd=>omega
 | @call q R hi hd hq h1=>
  unfold gX eV;simp only[if_neg hi,hq,hg];obtain⟨d,e,f⟩:=cQd h1 ⟨[⟨n - p.env.imports.toNat,q,0,initV q (lowL g.inn a)⟩],s,[],0,0,false,none⟩ _ [] rfl rfl rfl rfl rfl;refine⟨?_,e,?_⟩
  ·rw[d];simp only[endM]
   split
   ·rename_i b;simp only[yX,jV,b,if_true,Ac]
   ·rename_i b;simp only[jV,b,if_false,Ac]
  ·rw[f];simp[wdM,pK]
theorem nY{e:EnvD}(h:envOk e=true){g:SigD}(hg:e.sigs[n]? = some g):g.inn.length<=8/\g.out.length<=8:=by
 unfold envOk at h;simp only[Aa,List.all_eq_true]at h;have:=h.2.2 g (Aj hg);unfold sigOk hZ at this;simp only[Aa,decide_eq_true_eq]at this;exact⟨this.1.1,this.2.1⟩
structure FrOk (p:RowsD) (f:FrD):Prop where
 row:p.fns[f.fi]? = some f.r
 k:f.k<f.r.code.length
 len:f.V.length=f.r.places.toNat
 a64:All64 f.V
def ChainOk:List FrD->Prop
 | f :: g :: rest=>(∃ c,g.r.code[g.k - 1]? = some c/\1<=g.k/\c.op=16/\c.outs.length=f.r.sig.out.length)/\ChainOk (g :: rest)
 | _=>True
theorem ChainOk.tail{f:FrD}{l:List FrD}(h:ChainOk (f :: l)):ChainOk l:=by
 cases l with
 | nil=>trivial
 | cons g rest=>exact h.2
theorem ChainOk.top{f a:FrD}{l:List FrD}(h:ChainOk (f :: l))(b:a.r=f.r):ChainOk (a :: l):=by
 cases l with
 | nil=>trivial
 | cons g rest=>
  obtain⟨⟨c,h1,h2,d,e⟩,i⟩:=h;exact⟨⟨c,h1,h2,d,by rw[b];exact e⟩,i⟩
structure MOk (p:RowsD) (x:MaD):Prop where
 frs:∀ f∈x.st,FrOk p f
 chain:ChainOk x.st
 depth:x.st.length<=16
 st:StOk p.env x.s
 o64:All64 x.out
 olen:x.out.length<=200000
 live:x.over=false->x.first=none->x.st ≠ []
 nf:x.first≠none->x.st = []
 fst:∀ n a,x.first=some (n,a)->(n:Int)<p.env.imports/\All64 a/\∃ g,p.env.sigs[n]? = some g/\a.length=g.inn.length
 fin:x.over=true->x.st = []
 go:x.over=false->x.out = []/\x.e=0
 log:x.s.log.length<=4096+9*x.steps
theorem aZj{p:RowsD}{x:MaD}(h:MOk p x){s:StD}{out:List Nat}{e:Int}(hs:StOk p.env s)(a:All64 out)(b:out.length<=200000)(c:s.log.length<=4096+9*x.steps):MOk p (jV x s out e) where
 frs:=fun f hf=>by simp[jV]at hf
 chain:=trivial
 depth:=AK _
 st:=hs
 o64:=by show All64 (if e=0 then out else x.out);split <;> first | exact a | exact h.o64
 olen:=by show(if e=0 then out else x.out).length<=_;split <;> first | exact b | exact h.olen
 live:=fun h=>by simp[jV]at h
 nf:=fun _=>rfl
 fst:=h.fst
 fin:=fun _=>rfl
 go:=fun h=>by simp[jV]at h
 log:=c
theorem MOk.tick{p:RowsD}{x:MaD}(h:MOk p x):MOk p { x with steps:=x.steps+1 }:=
 { h with log:=by have:=h.log;show x.s.log.length<=4096+9*(x.steps+1);omega }
theorem MOk.stack{p:RowsD}{x:MaD}(h:MOk p x){st:List FrD}{s:StD}(a:x.over=false)(hf:x.first=none)(b:st ≠ [])(h1:∀ f∈st,FrOk p f)(h2:ChainOk st)(c:st.length<=16)(hs:StOk p.env s)(d:s.log.length<=4096+9*x.steps):MOk p { x with st:=st,s:=s }:=
 { h with frs:=h1,chain:=h2,depth:=c,st:=hs,live:=fun _ _=>b,nf:=fun e=>absurd hf e,fin:=fun e=>(by rw[show x.over=true from e]at a;cases a),log:=d }
theorem FrOk.at{p:RowsD}{f:FrD}(h:FrOk p f)(a:k<f.r.code.length):FrOk p { f with k:=k }:=⟨h.row,a,h.len,h.a64⟩
theorem FrOk.put{p:RowsD}{f:FrD}(h:FrOk p f)(a:k<f.r.code.length)(b:V.length=f.V.length)(ha:All64 V):FrOk p { f with k:=k,V:=V }:=⟨h.row,a,b.trans h.len,ha⟩
theorem aVk{p:RowsD}{f:FrD}{c:CodeD}(hp:ProgP p)(h:FrOk p f)(hc:f.r.code[f.k]? = some c)(h1:c.op≠273)(h2:c.op≠274)(a:c.op≠275)(b:c.op≠276)(d:c.op≠277):f.k+1<f.r.code.length:=by
 have e:=rQ (c:=c) (k:=f.k) h1 h2 a b d;have g:((f.k+1:Nat):Int)∈nextOf c f.k:=(by rw[e];simp);exact pV (hp.row _ _ h.row).1 hc g
theorem cJr{p:RowsD}{x:MaD}{f:FrD}{rest:List FrD}{c:CodeD}(hp:ProgP p)(G:∀ (i:Nat) q,p.fns[i]? = Ag q->∀ c∈q.code,c.n<18446744073709551616)(a:MOk p x)(u:x.over=false)(hf:x.first=none)(hs:x.st=f :: rest)(hc:f.r.code[f.k]? = some c)(steps:Nat)(H:steps=x.steps+1):
  MOk p (doM p { x with steps:=steps } f rest c (actV p.env c f.k (argV p.env f.r c f.V) x.s)):=by
 subst H;have h:=a.tick;have hF:=a.frs f (by rw[hs];exact Aw ..);have A:=(hp.row _ _ hF.row).1;have D:=Aj hc;have v:=A.code c D;have w:=bJe p.env f.r c hF.a64;have I:=aKy A v f.V;have E:=cZi (k:=f.k) a.st w (G _ _ hF.row c D);have F:=aJh (e:=p.env) (c:=c) (k:=f.k) (s:=x.s) I;have aA:=a.log;have y:=a.depth;rw[hs]at y;have d:∀ g∈rest,FrOk p g:=fun g hg=>a.frs g (by rw[hs];exact AJ _ hg);have j:=a.chain;rw[hs]at j
 cases ha:actV p.env c f.k (argV p.env f.r c f.V) x.s with
 | go k=>
  obtain⟨hn,_⟩:=aKw ha v;have m:=pV A hc hn
  exact h.stack u hf (by simp) (fun g hg=>by
   rcases List.mem_cons.1 hg with rfl | hg
   ·exact hF.at m
   ·exact d g hg) (j.top rfl) y h.st h.log
 | ret l=>
  obtain⟨_,rfl⟩:=aJe ha;show MOk p (yX { x with steps:=x.steps+1 } (argV p.env f.r c f.V) rest)
  cases rest with
  | nil=>exact aZj h h.st w (by omega) h.log
  | cons g rest=>
   have B:=d g (Aw ..)
   exact h.stack u hf (by simp) (fun q hq=>by
    rcases List.mem_cons.1 hq with rfl | hq
    ·exact B.put B.k ((qJ _ _ _).trans (uY _ _)) (vX _ _ _ w (bQz _ B.a64))
    ·exact d q (AJ _ hq)) (j.tail.top rfl) (by simp at y ⊢;omega) h.st h.log
 | vals l s=>
  obtain⟨h1,h2,J,K,L,_⟩:=qW ha;have m:=aVk hp hF hc h1 h2 J K L;have hv:=E.1 l s ha;have M:=F.1 l s ha
  exact h.stack u hf (by simp) (fun q hq=>by
   rcases List.mem_cons.1 hq with rfl | hq
   ·exact hF.put m (qJ _ _ _) (vX _ _ _ hv.2 hF.a64)
   ·exact d q hq) (j.top rfl) y hv.1 (by show s.log.length<=4096+9*(x.steps+1);omega)
 | trap e s=>
  have M:=F.2 e s ha;exact aZj h (E.2 e s ha) kZ (AK _) (by show s.log.length<=4096+9*(x.steps+1);omega)
 | call n=>
  obtain⟨C,rfl,N⟩:=qV ha;have m:=aVk hp hF hc (by omega) (by omega) (by omega) (by omega) (by omega);obtain⟨q,g,hq,hg,O⟩:=aZm hp C v N;show MOk p (if 16<=rest.length+1 then _ else _);by_cases hd:16<=rest.length+1
  ·rw[if_pos hd];exact aZj h h.st kZ (AK _) h.log
  ·rw[if_neg hd];simp only[hq,hg];have P:=(hp.row _ _ hq).1;refine h.stack u hf (by simp) (fun z t=>?_) ⟨⟨c,?_,by simp,C,?_⟩,j.top rfl⟩ (by simp;omega) h.st h.log
   ·rcases List.mem_cons.1 t with rfl | t
    ·exact⟨hq,Az Nat.one_pos P.n1,pK _ _,aZr _ (lQ _ _ w)⟩
    ·rcases List.mem_cons.1 t with rfl | t
     ·exact hF.at m
     ·exact d z t
   ·show f.r.code[f.k+1 - 1]? = some c;rw[Bq];exact hc
   ·obtain⟨i,o,b,_,Q,_⟩:=cY v;rw[C]at b;have b:(p.env.sigs[c.n]?).map (fun g=>(g.inn,g.out))=some (i,o):=b;rw[hg]at b;injection b with b;injection b with e1 e2;rw[Q,<-e2,O]
theorem cQc{p:RowsD}{x:MaD}(hp:ProgP p)(b:∀ (i:Nat) q,p.fns[i]? = Ag q->∀ c∈q.code,c.n<18446744073709551616)(h:MOk p x):MOk p (dK p x):=by
 cases ho:x.over with
 | true=>
  unfold dK;rw[ho];exact h
 | false=>
  rcases hf:x.first with _ | ⟨n,a⟩
  ·rcases hs:x.st with _ | ⟨f,rest⟩
   ·exact absurd hs (h.live ho hf)
   ·have hF:=h.frs f (by rw[hs];exact Aw ..);rw[oX ho hf hs (AY hF.k) rfl];exact cJr hp b h ho hf hs (AY hF.k) _ rfl
  ·unfold dK goM;obtain⟨hi,ha,g,hg,af⟩:=h.fst n a hf;have d:p.env.sigs.getD n ⟨[],[]⟩=g:=(by rw[Ax,hg];rfl);simp only[ho,hf,d,AQ,if_false];have hn:n<18446744073709551616:=(by have:=kX hp.env;omega);have h1:=aJg (n:=n) (outs:=g.out) h.st (lQ g.inn _ ha) hn;have j:=nY hp.env hg;have h2:=aXo (n:=n) (outs:=g.out) (s:=x.s) (a:=lowL g.inn a) (AV (zW _ _) j.1);have h3:=h.log
   have l:=aZj h.tick (e:=(hostV n g.out (lowL g.inn a) x.s).2.1) h1.1 h1.2 (by
    unfold hostV
    split
    ·show(lowL g.out _).length<=_;have:=zW g.out (x.s.input.take g.out.length);omega
    ·exact AK _) (by show _<=4096+9*(x.steps+1);omega)
   rw[show(some (n,a):Option (Nat×List Nat))=x.first from hf.symm];exact l
theorem aYi{p:RowsD}(hp:ProgP p)(a:∀ (i:Nat) q,p.fns[i]? = Ag q->∀ c∈q.code,c.n<18446744073709551616):∀ (i:Nat) {x:MaD},MOk p x->MOk p (stN p i x)
 | 0,_,h=>h
 | i+1,_,h=>aYi hp a i (cQc hp a h)
theorem bVf{p:RowsD}{x:MaD}:(goM p x).steps=x.steps:=by
 unfold goM
 split
 ·rfl
 ·split
  ·rfl
  ·split
   ·rfl
   ·rename_i f rest _ _ c _;generalize actV p.env c f.k (argV p.env f.r c f.V) x.s=A
    cases A with
    | ret l=>cases rest <;> rfl
    | call n=>
     show(if _ then _ else _:MaD).steps=_
     split
     ·rfl
     ·split <;> rfl
    | _=>rfl
theorem bQt{p:RowsD}{x:MaD}(h:x.over=false):(dK p x).steps=x.steps+1:=by
 unfold dK;rw[h];simp only[AQ,if_false];exact bVf
theorem aVl{p:RowsD}:∀ (i:Nat) {x:MaD},(∀ j,j<i->(stN p j x).over=false)->(stN p i x).steps=x.steps+i
 | 0,_,_=>rfl
 | i+1,x,h=>by
  have h1:=aVl i (x:=dK p x) (fun j hj=>h (j+1) (by omega));show(stN p i (dK p x)).steps=_;rw[h1,bQt (x:=x) (h 0 (by omega))];omega
structure KaC where
 w0:By
 a:BJ
 b:BJ
 d:BJ
 f:BJ
 p:RowsD
 mm:Nat
 cb:Nat
 gv:BJ
 fv:BJ
 nb:Nat
 ab:Nat
 av:BJ
 zf:Nat
 of_:Nat
structure KaS where
 x:MaD
 lab:Nat->Nat
 lv:BJ
 iv:BJ
 mv:BJ
 sv:BJ
 ov:BJ
 ps:List BJ
structure KK (X X':KaS) (w w':By):Prop where
 os:w'.os=w.os
 tape:w'.tape=w.tape
 output:w'.output=w.output
 size:w.heap.size<=w'.heap.size
 keep:∀ k,k<w.heap.size->X.lab k=0->w'.heap[k]? = w.heap[k]? /\ X'.lab k=0
theorem KK.refl(X:KaS)(w:By):KK X X w w:=⟨rfl,rfl,rfl,Aq _,fun _ _ h=>⟨rfl,h⟩⟩
theorem KK.trans{x y z:KaS}{a w2 b:By}(h:KK x y a w2)(k:KK y z w2 b):KK x z a b:=
 ⟨k.os.trans h.os,k.tape.trans h.tape,k.output.trans h.output,AV h.size k.size,fun i hi c=>by
  have h1:=h.keep i hi c;have h2:=k.keep i (Az hi h.size) h1.2
  exact⟨h2.1.trans h1.1,h2.2⟩⟩
theorem KK.cWu{x:KaS}(h:BQ w.heap.size w w'):KK x x w w':=⟨h.os,h.tape,h.output,h.size,fun k a b=>⟨h.block k a,b⟩⟩
theorem KK.below{z x:KaS}(h:KK z x w0 w)(a:BQ w.heap.size w w'):KK z x w0 w':=h.trans (KK.cWu a)
theorem KK.drew{z x:KaS}{w0 w:By}(h:KK z x w0 w):KK z x w0 w.drew:=h.below (Below.refl _ _).drew
theorem KK.to{x a y:KaS}(h:KK x a w w')(h1:y.lab=a.lab):KK x y w w':=
 ⟨h.os,h.tape,h.output,h.size,fun k b c=>⟨(h.keep k b c).1,by rw[h1];exact(h.keep k b c).2⟩⟩
theorem KK.from{x y a:KaS}(h:KK x a w w')(h1:y.lab=x.lab):KK y a w w':=
 ⟨h.os,h.tape,h.output,h.size,fun k b c=>h.keep k b (by rw[<-h1];exact c)⟩
theorem KK.set{x y z:KaS}(h:KK z x w0 w)(i:Nat)(u:BJ)(hg:x.lab g≠0\/w0.heap.size<=g)(a:y.lab=x.lab):KK z y w0 (w.setCell ⟨g,i,none⟩ u):=
 ⟨h.os,h.tape,h.output,AV h.size (by simp[World.setCell]),fun k b c=>by
  have h2:=h.keep k b c;refine⟨(Below.heap_setCell _ _ _ _ (fun e=>?_)).trans h2.1,by rw[a];exact h2.2⟩;have e:k=g:=e;subst e;rcases hg with hg | hg
  ·exact hg h2.2
  ·omega⟩
theorem KK.grown{x z:KaS}{r:Option Nat}(h:KK z x w0 w)(hg:w.grownBy w' r)(c:∀ k,r=some k->x.lab k≠0\/w0.heap.size<=k):KK z x w0 w':=
 ⟨hg.os.trans h.os,hg.tape.trans h.tape,hg.output.trans h.output,AV h.size hg.size,fun k a d=>by
  have h2:=h.keep k a d;refine⟨(hg.block k (Az a h.size) (fun e=>?_)).trans h2.1,h2.2⟩;rcases c k e.symm with b | b
  ·exact b h2.2
  ·omega⟩
theorem KK.blk{x a:KaS}(h:KK x a w w'){e:TypeId}{cs:Array BJ}(k:Blk w g e cs)(b:x.lab g=0):Blk w' g e cs:=((h.keep g k.lt b).1).trans k
theorem KK.ur{x a:KaS}(h:KK x a w w')(k:UR w v l)(b:∀ g,v.ownBlock=some g->x.lab g=0):UR w' v l:=
 k.heap h.size (fun g hg c=>(h.keep g c (b g hg)).1)
def eK(lab:Nat->Nat)(v:BJ)(c:Nat):Nat->Nat:=fun k=>if v.ownBlock=some k then c else lab k
theorem lZ{lab:Nat->Nat}(h:v.ownBlock=some k):eK lab v c k=c:=by unfold eK;rw[if_pos h]
theorem hJ{lab:Nat->Nat}(h:v.ownBlock≠some k):eK lab v c k=lab k:=by unfold eK;rw[if_neg h]
theorem KK.cWw{x z:KaS}(h:KK z x w0 w){c:Nat}(hv:∀ k,v.ownBlock=some k->w0.heap.size<=k\/x.lab k≠0):KK z { x with lab:=eK x.lab v c } w0 w:=
 ⟨h.os,h.tape,h.output,h.size,fun k b d=>by
  have h2:=h.keep k b d;refine⟨h2.1,?_⟩;show eK x.lab v c k=0;rw[hJ]
  ·exact h2.2
  ·intro e;rcases hv k e with a | a
   ·omega
   ·exact a h2.2⟩
def kCells(C:KaC)(X:KaS):Array BJ:=#[C.a,.int .i64 C.p.env.imports,C.b,C.d,.bool C.p.env.mem,C.f,X.mv,.int .i64 X.x.s.most,C.gv,.int .i64 (X.x.s.fuel:Int),X.iv,X.lv,X.sv,X.ov,.int .i64 X.x.e,.int .i64 (X.x.steps:Int),.bool X.x.over,C.fv]
def iK(C:KaC)(f:FrD)(v:BJ):List BJ:=[.pointer (some ⟨C.zf,C.of_+f.fi*5,none⟩),.int .i64 (f.k:Int),v]
def stCells(C:KaC):List FrD->List BJ->List BJ
 | f :: l,v :: vs=>stCells C l vs++iK C f v
 | _,_=>[]
def PlsV(w:By)(base:Nat)(lab:Nat->Nat):List FrD->List BJ->Prop
 | f :: l,v :: vs=>(w.ownsRow base 62 1 v f.V.length (u64V f.V)/\∀ k,v.ownBlock=some k->lab k=10+l.length)/\PlsV w base lab l vs
 | [],[]=>True
 | _,_=>False
theorem PlsV.len{w:By}{base:Nat}{lab:Nat->Nat}:∀ {l:List FrD} {vs:List BJ},PlsV w base lab l vs->vs.length=l.length
 | [],[],_=>rfl
 | f :: l,v :: vs,h=>by simp[PlsV.len h.2]
 | [],_ :: _,h=>h.elim
 | _ :: _,[],h=>h.elim
theorem PlsV.heap{w w':By}{base:Nat}{lab c:Nat->Nat}:∀ {l:List FrD} {vs:List BJ},PlsV w base lab l vs->(∀ k,10<=lab k->lab k<10+l.length->k<w.heap.size->w'.heap[k]? = w.heap[k]? /\ c k=lab k)->PlsV w' base c l vs
 | [],[],_,_=>trivial
 | f :: l,v :: vs,h,b=>by
  refine⟨⟨mQ h.1.1 (fun k a d=>(b k (by rw[h.1.2 k a];omega) (by rw[h.1.2 k a];simp) d).1),fun k a=>?_⟩,h.2.heap (fun k h1 h2=>b k h1 (by simp;omega))⟩;rw[(b k (by rw[h.1.2 k a];omega) (by rw[h.1.2 k a];simp) (h.1.1.lt k a).2).2,h.1.2 k a]
 | [],_ :: _,h,_=>h.elim
 | _ :: _,[],h,_=>h.elim
theorem nJ(C:KaC):∀ {l:List FrD} {vs:List BJ},vs.length=l.length->(stCells C l vs).length=l.length*3
 | [],[],_=>rfl
 | f :: l,v :: vs,h=>by
  have:=nJ C (l:=l) (vs:=vs) (by simpa using h);simp[stCells,iK,this];omega
 | [],_ :: _,h=>by simp at h
 | _ :: _,[],h=>by simp at h
def FstV(C:KaC)(lab:Nat->Nat)(w:By):Option (Nat×List Nat)->Prop
 | none=>C.fv = .nilFunc
 | some (n,a)=>(∃ fn ca,C.fv = .func fn #[] ca)/\Blk w C.nb 3 #[.int .i64 (n:Int)]/\Blk w C.ab 30 #[C.av]/\UR w C.av a/\lab C.nb=9/\lab C.ab=9/\∀ k,C.av.ownBlock=some k->lab k=9
structure KRest (C:KaC) (X:KaS) (w:By):Prop where
 bel:BQ C.w0.heap.size C.w0 w
 lb:∀ k,X.lab k≠0->C.w0.heap.size<=k/\k<w.heap.size
 cl:X.lab C.cb=1
 mm:Blk w C.mm 57 #[.pointer (some ⟨C.cb,0,none⟩)]
 ml:X.lab C.mm=2
 glo:w.ownsRow C.w0.heap.size 62 1 C.gv X.x.s.globals.length (u64V X.x.s.globals)
 l3:∀ k,C.gv.ownBlock=some k->X.lab k=3
 log:w.ownsRow C.w0.heap.size 62 1 X.lv X.x.s.log.length (u64V X.x.s.log)
 l4:∀ k,X.lv.ownBlock=some k->X.lab k=4
 inp:UR w X.iv X.x.s.input
 l5:∀ k,X.iv.ownBlock=some k->X.lab k=5
 mem:BR w X.mv X.x.s.mem
 l6:∀ k,X.mv.ownBlock=some k->X.lab k=6
 stk:w.ownsRow C.w0.heap.size 77 3 X.sv X.x.st.length (stCells C X.x.st X.ps)
 l7:∀ k,X.sv.ownBlock=some k->X.lab k=7
 out:UR w X.ov X.x.out
 l8:∀ k,X.ov.ownBlock=some k->X.lab k=8
 fst:FstV C X.lab w X.x.first
 pls:PlsV w C.w0.heap.size X.lab X.x.st X.ps
structure KRef (C:KaC) (X:KaS) (w:By):Prop extends KRest C X w where
 cb:Blk w C.cb 68 (kCells C X)
structure KC (C:KaC):Prop where
 rows:RowsV C.w0 (.agg #[C.a,.int .i64 C.p.env.imports,C.b,C.d,.bool C.p.env.mem,C.f]) C.p
 ok:ProgP C.p
 adr:C.p.fns ≠ []->∃ n c,C.f = .slice (some ⟨C.zf,C.of_,none⟩) n c
theorem FstV.heap{C:KaC}{lab d:Nat->Nat}{w w':By}{o:Option (Nat×List Nat)}(h:FstV C lab w o)(hs:w.heap.size<=w'.heap.size)(b:∀ k,lab k=9->w'.heap[k]? = w.heap[k]? /\ d k=9):FstV C d w' o:=by
 cases o with
 | none=>exact h
 | some x=>
  obtain⟨n,a⟩:=x;obtain⟨h1,h2,i,j,e,f,g⟩:=h;exact⟨h1,(b _ e).1.trans h2,(b _ f).1.trans i,j.heap hs (fun k c _=>(b k (g k c)).1),(b _ e).2,(b _ f).2,fun k c=>(b k (g k c)).2⟩
theorem KRest.but{C:KaC}{X Y:KaS}(h:KRest C X w)(c:Nat)(hs:w.heap.size<=w'.heap.size)(u:BQ C.w0.heap.size C.w0 w')(d:∀ k,X.lab k≠0->X.lab k≠c->w'.heap[k]? = w.heap[k]?)
  (y:∀ k,Y.lab k≠0->C.w0.heap.size<=k/\k<w'.heap.size) (f:∀ k,X.lab k≠0->X.lab k≠c->Y.lab k=X.lab k)
  (c1:Y.lab C.cb=1) (i:c≠2)
  (l:c=3/\(w'.ownsRow C.w0.heap.size 62 1 C.gv Y.x.s.globals.length (u64V Y.x.s.globals)/\∀ k,C.gv.ownBlock=some k->Y.lab k=3)\/c≠3/\Y.x.s.globals=X.x.s.globals)
  (m:c=4/\(w'.ownsRow C.w0.heap.size 62 1 Y.lv Y.x.s.log.length (u64V Y.x.s.log)/\∀ k,Y.lv.ownBlock=some k->Y.lab k=4)\/c≠4/\Y.lv=X.lv/\Y.x.s.log=X.x.s.log)
  (n:c=5/\(UR w' Y.iv Y.x.s.input/\∀ k,Y.iv.ownBlock=some k->Y.lab k=5)\/c≠5/\Y.iv=X.iv/\Y.x.s.input=X.x.s.input)
  (o:c=6/\(BR w' Y.mv Y.x.s.mem/\∀ k,Y.mv.ownBlock=some k->Y.lab k=6)\/c≠6/\Y.mv=X.mv/\Y.x.s.mem=X.x.s.mem)
  (p:(w'.ownsRow C.w0.heap.size 77 3 Y.sv Y.x.st.length (stCells C Y.x.st Y.ps)/\∀ k,Y.sv.ownBlock=some k->Y.lab k=7)\/c≠7/\Y.sv=X.sv/\Y.x.st.length=X.x.st.length/\stCells C Y.x.st Y.ps=stCells C X.x.st X.ps)
  (r:c=8/\(UR w' Y.ov Y.x.out/\∀ k,Y.ov.ownBlock=some k->Y.lab k=8)\/c≠8/\Y.ov=X.ov/\Y.x.out=X.x.out)
  (g:c≠9/\Y.x.first=X.x.first)
  (e10:PlsV w' C.w0.heap.size Y.lab Y.x.st Y.ps\/c<10/\Y.x.st=X.x.st/\Y.ps=X.ps):KRest C Y w':=by
 have q:∀ {v:BJ} {j:Nat},(∀ k,v.ownBlock=some k->X.lab k=j)->j≠0->j≠c->(∀ k,v.ownBlock=some k->k<w.heap.size->w'.heap[k]? = w.heap[k]?)/\∀ k,v.ownBlock=some k->Y.lab k=j:=fun b h1 h2=>
  ⟨fun k a _=>d k (by rw[b k a];exact h1) (by rw[b k a];exact h2),fun k a=>by rw[f k (by rw[b k a];exact h1) (by rw[b k a];exact h2)];exact b k a⟩
 refine⟨u,y,c1,?_,?_,?_,?_,?_,?_,?_,?_,?_,?_,?_,?_,?_,?_,?_,?_⟩
 ·exact(d C.mm (by rw[h.ml];decide) (by rw[h.ml];exact fun e=>i e.symm)).trans h.mm
 ·rw[f C.mm (by rw[h.ml];decide) (by rw[h.ml];exact fun e=>i e.symm)];exact h.ml
 ·rcases l with⟨_,e⟩ | ⟨hc,e⟩
  ·exact e.1
  ·rw[e];exact mQ h.glo (q h.l3 (by decide) (fun e=>hc e.symm)).1
 ·rcases l with⟨_,e⟩ | ⟨hc,e⟩
  ·exact e.2
  ·exact(q h.l3 (by decide) (fun e=>hc e.symm)).2
 ·rcases m with⟨_,e⟩ | ⟨hc,e,e'⟩
  ·exact e.1
  ·rw[e,e'];exact mQ h.log (q h.l4 (by decide) (fun e=>hc e.symm)).1
 ·rcases m with⟨_,e⟩ | ⟨hc,e,e'⟩
  ·exact e.2
  ·rw[e];exact(q h.l4 (by decide) (fun e=>hc e.symm)).2
 ·rcases n with⟨_,e⟩ | ⟨hc,e,e'⟩
  ·exact e.1
  ·rw[e,e'];exact h.inp.heap hs (q h.l5 (by decide) (fun e=>hc e.symm)).1
 ·rcases n with⟨_,e⟩ | ⟨hc,e,e'⟩
  ·exact e.2
  ·rw[e];exact(q h.l5 (by decide) (fun e=>hc e.symm)).2
 ·rcases o with⟨_,e⟩ | ⟨hc,e,e'⟩
  ·exact e.1
  ·rw[e,e'];exact h.mem.heap hs (q h.l6 (by decide) (fun e=>hc e.symm)).1
 ·rcases o with⟨_,e⟩ | ⟨hc,e,e'⟩
  ·exact e.2
  ·rw[e];exact(q h.l6 (by decide) (fun e=>hc e.symm)).2
 ·rcases p with e | ⟨hc,e,e',t⟩
  ·exact e.1
  ·rw[e,e',t];exact mQ h.stk (q h.l7 (by decide) (fun e=>hc e.symm)).1
 ·rcases p with e | ⟨hc,e,e',t⟩
  ·exact e.2
  ·rw[e];exact(q h.l7 (by decide) (fun e=>hc e.symm)).2
 ·rcases r with⟨_,e⟩ | ⟨hc,e,e'⟩
  ·exact e.1
  ·rw[e,e'];exact h.out.heap hs (q h.l8 (by decide) (fun e=>hc e.symm)).1
 ·rcases r with⟨_,e⟩ | ⟨hc,e,e'⟩
  ·exact e.2
  ·rw[e];exact(q h.l8 (by decide) (fun e=>hc e.symm)).2
 ·rw[g.2];exact h.fst.heap hs (fun k a=>⟨d k (by rw[a];decide) (by rw[a];exact fun e=>g.1 e.symm),by rw[f k (by rw[a];decide) (by rw[a];exact fun e=>g.1 e.symm)];exact a⟩)
 ·rcases e10 with e | ⟨hc,e,e'⟩
  ·exact e
  ·rw[e,e'];exact h.pls.heap (fun k h1 _ _=>⟨d k (by omega) (by omega),f k (by omega) (by omega)⟩)
theorem KRef.heap{C:KaC}{X:KaS}{w w':By}(h:KRef C X w)(hs:w.heap.size<=w'.heap.size)(a:∀ k,X.lab k≠0->w'.heap[k]? = w.heap[k]?)(c:BQ C.w0.heap.size C.w0 w'):KRef C X w':=
 { h.toKRest.but (Y:=X) 0 hs c (fun k h1 _=>a k h1) (fun k b=>⟨(h.lb k b).1,Az (h.lb k b).2 hs⟩) (fun _ _ _=>rfl) h.cl (by decide) (.inr ⟨by decide,rfl⟩) (.inr ⟨by decide,rfl,rfl⟩) (.inr ⟨by decide,rfl,rfl⟩) (.inr ⟨by decide,rfl,rfl⟩) (.inr ⟨by decide,rfl,rfl,rfl⟩) (.inr ⟨by decide,rfl,rfl⟩) ⟨by decide,rfl⟩ (.inr ⟨by decide,rfl,rfl⟩)with
  cb:=(a C.cb (by rw[h.cl];decide)).trans h.cb }
theorem KRef.below{C:KaC}{X:KaS}(h:KRef C X w)(a:BQ w.heap.size w w'):KRef C X w':=
 h.heap a.size (fun k b=>a.block k (h.lb k b).2) (h.bel.trans (a.mono h.bel.size))
theorem KRef.drewN{C:KaC}{X:KaS}{w:By}(h:KRef C X w)(n:Nat):KRef C X (w.drewN n):=h.below (dV (Below.refl _ _) n)
theorem KRef.drew{C:KaC}{X:KaS}{w:By}(h:KRef C X w):KRef C X w.drew:=h.below (Below.refl _ _).drew
theorem KRef.cYc{C:KaC}{X:KaS}(h:KRef C X w)(u:BJ)(hg:X.lab g=0)(a:C.w0.heap.size<=g):KRef C X (w.setCell ⟨g,i,none⟩ u):=
 h.heap (by simp[World.setCell]) (fun k b=>Below.heap_setCell _ _ _ _ (fun e=>b (by have:k=g:=e;rw[this];exact hg))) (h.bel.setCell (p:=⟨g,i,none⟩) a _)
theorem KRef.fresh{C:KaC}{X:KaS}(h:KRest C X w)(hk:w.heap.size<=k):X.lab k=0:=by
 by_cases a:X.lab k=0
 ·exact a
 ·have:=(h.lb k a).2;omega
theorem KRest.cWw{C:KaC}{X:KaS}(h:KRest C X w)(v:BJ)(c:Nat)(hv:∀ k,v.ownBlock=some k->X.lab k=0/\C.w0.heap.size<=k/\k<w.heap.size):KRest C { X with lab:=eK X.lab v c } w:=by
 have b:∀ k,X.lab k≠0->eK X.lab v c k=X.lab k:=fun k a=>hJ (fun e=>a (hv k e).1);refine h.but (Y:={ X with lab:=eK X.lab v c }) 0 (Aq _) h.bel (fun _ _ _=>rfl) (fun k a=>?_) (fun k a _=>b k a) ((b _ (by rw[h.cl];decide)).trans h.cl) (by decide) (.inr ⟨by decide,rfl⟩) (.inr ⟨by decide,rfl,rfl⟩) (.inr ⟨by decide,rfl,rfl⟩) (.inr ⟨by decide,rfl,rfl⟩) (.inr ⟨by decide,rfl,rfl,rfl⟩) (.inr ⟨by decide,rfl,rfl⟩) ⟨by decide,rfl⟩ (.inr ⟨by decide,rfl,rfl⟩);have a:eK X.lab v c k≠0:=a;by_cases e:v.ownBlock=some k
 ·exact(hv k e).2
 ·rw[hJ e]at a;exact h.lb k a
theorem KRef.cWw{C:KaC}{X:KaS}{w:By}(h:KRef C X w)(v:BJ)(c:Nat)(hv:∀ k,v.ownBlock=some k->X.lab k=0/\C.w0.heap.size<=k/\k<w.heap.size):KRef C { X with lab:=eK X.lab v c } w:=
 { h.toKRest.cWw v c hv with cb:=h.cb }
theorem KRest.cYg{C:KaC}{Y:KaS}(a:KRest C Y w){cs:Array BJ}(f:Blk w C.cb 68 cs)(i:Nat)(u:BJ)(hc:cs.setIfInBounds i u=kCells C Y):KRef C Y (w.setCell ⟨C.cb,i,none⟩ u):=by
 have g:C.w0.heap.size<=C.cb:=(a.lb C.cb (by rw[a.cl];decide)).1;have b:w.heap.size<=(w.setCell ⟨C.cb,i,none⟩ u).heap.size:=(by simp[World.setCell]);have h:∀ k,Y.lab k≠0->Y.lab k≠1->(w.setCell ⟨C.cb,i,none⟩ u).heap[k]? = w.heap[k]?:=fun k _ h1=>Below.heap_setCell _ _ _ _ (fun e=>h1 (by have:k=C.cb:=e;rw[this];exact a.cl));have c:=dY f i u;rw[hc]at c;exact { a.but (Y:=Y) 1 b (a.bel.setCell (p:=⟨C.cb,i,none⟩) g _) h (fun k d=>⟨(a.lb k d).1,Az (a.lb k d).2 b⟩) (fun _ _ _=>rfl) a.cl (by decide) (.inr ⟨by decide,rfl⟩) (.inr ⟨by decide,rfl,rfl⟩) (.inr ⟨by decide,rfl,rfl⟩) (.inr ⟨by decide,rfl,rfl⟩) (.inr ⟨by decide,rfl,rfl,rfl⟩) (.inr ⟨by decide,rfl,rfl⟩) ⟨by decide,rfl⟩ (.inr ⟨by decide,rfl,rfl⟩)with cb:=c }
theorem KRef.cWz{C:KaC}{X Y:KaS}(h:KRef C X w)(a:KRest C Y w)(i:Nat)(u:BJ)(hc:(kCells C X).setIfInBounds i u=kCells C Y):KRef C Y (w.setCell ⟨C.cb,i,none⟩ u):=a.cYg h.cb i u hc
theorem KRef.cell{C:KaC}{X:KaS}{w:By}(h:KRef C X w)(i:Nat):w.cell? ⟨C.cb,i,none⟩=(kCells C X)[i]?:=h.cb.cell i
theorem KRef.cWt{C:KaC}{X:KaS}(h:KRef C X w):w.cell? ⟨C.mm,0,none⟩=some (.pointer (some ⟨C.cb,0,none⟩)):=h.mm.cell 0
end Go.Proofs.YtabibkpfgmolkaaDoor

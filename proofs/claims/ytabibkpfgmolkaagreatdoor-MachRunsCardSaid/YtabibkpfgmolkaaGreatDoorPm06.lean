/- Lemmas for the claim, part 6. Conditions: none. -/
import Derived.Test.YtabibkpfgmolkaaGreatDoorPm05
set_option maxRecDepth 100000
set_option maxHeartbeats 16000000
set_option linter.unusedVariables false
set_option linter.unusedSimpArgs false
open Go.Lib renaming hid→fQ
open Go.Proofs.Tryz renaming prog→fZ
open Go.Proofs.Tryz
open Go.RowKit
open Nat renaming le_refl→Aj,zero_le→AK,le_add_right→Aa,div_le_self→Bz,lt_or_ge→Bw
open Go.Value renaming pointer→Aq,func→Aw
open List renaming getElem?_eq_getElem→Ax,getD_eq_getElem?_getD→Az,mem_of_getElem?→Av,getElem_mem→AJ,getD_cons_zero→AQ,getD_cons_succ→AX,length_replicate→AZ,take_succ_eq_append_getElem→AW,getElem_map→AY,length_append→Ab,length_drop→Ac,take_of_length_le→Ad,drop_eq_nil_of_le→Ae,all_append→Af,replicate→Ag,mem_of_mem_take→Ah,mem_of_mem_drop→Ai,mem_cons_of_mem→Bj,take_succ_cons→Bq,mem_cons_self→Bx,length_set→Bk,length_map→Bv
open Go.RowKit.Below renaming refl→Ak
open Option renaming some→Ay
open Go.Calls renaming quiet_of_same→AV
open Go renaming World→By,Value→BJ,Calls→BX
open Go.RowKit renaming Below→BQ
namespace Go.Proofs.YtabibkpfgmolkaaGreatDoor
variable {k lost d n i dc:Nat}{V a l:List Nat}{w:By}{e2:Int}
theorem aJu:∀ (f x n:Nat),x<2 ^ n->Lib.bitLenAux f x<=n
 | 0,x,n,_=>by simp[Lib.bitLenAux]
 | f+1,x,0,h=>by
  have:x=0:=(by simpa using h);simp[Lib.bitLenAux,this]
 | f+1,x,n+1,h=>by
  rw[Lib.bitLenAux];have:=aJu f (x / 2) n (by rw[Nat.pow_succ]at h;omega)
  split <;> omega
theorem dXq{x:Nat}(h:x<4294967296):Lib.bitLen x<=32:=aJu 64 x 32 h
theorem bYo{W x g:Nat}{y:Int}(h:(zY W x).getD k 0=y)(hk:k<3)(a:Blk w g 3 ((zY W x).map (Value.int .i64)).toArray):w.cell? ⟨g,k,none⟩=some (.int .i64 y):=by
 rw[a.cell k];simp only[List.getElem?_toArray,List.getElem?_map];rw[Ax (by simp[zY];omega),<-h,Az,Ax (by simp[zY];omega)];rfl
theorem bJk{W x k:Nat}(a:(W=64/\x<18446744073709551616)\/(W=32/\x<4294967296))(hk:k<3):0<=(zY W x).getD k 0/\(zY W x).getD k 0<=64:=by
 have e:k=0\/k=1\/k=2:=by omega
 have hb:Lib.bitLen x<=W:=by
  rcases a with⟨rfl,_⟩ | ⟨rfl,c⟩
  ·exact aWy 64 x
  ·exact dXq c
 have hc:Lib.ctz W x<=W:=by
  by_cases b:x=0
  ·simp[Lib.ctz,b]
  ·have:=(Lib.lowest_bit W x b (by rcases a with⟨rfl,h⟩ | ⟨rfl,h⟩ <;> exact h)).2;omega
 have hp:=pQ W x;have aa:W<=64:=(by rcases a with⟨rfl,_⟩ | ⟨rfl,_⟩ <;> decide);clear a;rcases e with rfl | rfl | rfl
 ·show 0<=(W:Int) - Lib.bitLen x/\(W:Int) - Lib.bitLen x<=64;omega
 ·show 0<=((Lib.ctz W x:Nat):Int)/\((Lib.ctz W x:Nat):Int)<=64;omega
 ·show 0<=((Lib.popAux W x:Nat):Int)/\((Lib.popAux W x:Nat):Int)<=64;omega
theorem eQu(j pg f b o n c x W k:Nat)(a0 b0 c0 d:Int)(w:By)(hc:w.cell? ⟨j,0,none⟩=some (.slice (some ⟨b,o,none⟩) n c))(h0:w.cell? ⟨b,o,none⟩=some (.int .u64 x))(hn:1<=n)(z:w.cell? ⟨f,0,none⟩=some (.int .i64 k))(r:k<3)
  (hd:w.cell? ⟨pg,3,none⟩=some (.int .i64 d)) (l1:j<w.heap.size) (A:f<w.heap.size) (l3:b<w.heap.size) (l4:pg<w.heap.size) (s:Tabs w) (l:(d=126/\W=64/\x<18446744073709551616)\/(d=127/\W=32/\x<4294967296)) :
  BX fZ 125 #[.pointer (some ⟨j,0,none⟩),.pointer (some ⟨pg,0,none⟩),.pointer (some ⟨f,0,none⟩)] w fun e w'=>e = .returned (.int .u64 ((zY W x).getD k 0))/\BQ w.heap.size w w':=by
 have ah:0<n:=by omega
 obtain⟨wd,ai,B⟩:∃ wd,(d == 126)=wd/\Hid (∀ a:By,Tabs a->BX fZ 126 #[.int .u64 x,.bool wd] a (bJl W x a)):=by
  rcases l with⟨rfl,rfl,m⟩ | ⟨rfl,rfl,m⟩
  ·exact⟨true,rfl,fQ (fun a h=>dWr x m a h)⟩
  ·exact⟨false,rfl,fQ (fun a h=>dWs x m a h)⟩
 have C:=fQ (@bJk W x k (by rcases l with⟨_,h1,h2⟩ | ⟨_,h1,h2⟩;exact .inl ⟨h1,h2⟩;exact .inr ⟨h1,h2⟩) r);have t:=fQ s;clear s l;obtain⟨y,i⟩:=fX ((zY W x).getD k 0);have hy:0<=y/\y<=64:=(by rw[<-i];exact C.out);have aj:IntKind.u64.wrap y=y:=(by rw[IntKind.wrap_u64];omega);rw[i];replace i:=fQ i;go_in;go_wp2_with fail;go_region_with ((go_at_call 126;refine(B.out _ (t.out.below (Ak _ _).drew t.out.2.2)).mono ?_;rintro e u ⟨g,rfl,hg,v,q⟩;have ak:u.cell? ⟨g,k,none⟩=some (.int .i64 y):=bYo i.out r v;have al:u.cell? ⟨f,0,none⟩=some (.int .i64 k):=(q.cell (p:=⟨f,0,none⟩) A).trans z;have D:=fQ q;clear q v))
 all_goals
  go_wp2;go_ret;exact⟨rfl,(Ak w.heap.size w).drew.trans D.out⟩
def jX(p:Int×Int)(w:By)(e:Ending)(w':By):Prop:=e = .returned (.tuple #[.int .u64 p.1,.int .i64 p.2])/\BQ w.heap.size w w'
theorem dXw(op:Int)(A:Option Addr)(n c:Nat)(l:List Nat)(w:By)(h1 : -9223372036854775808<=op)(h2:op<=9223372036854775807)(hg:fW op=none):
  BX fZ 94 #[.int .i64 op,.slice A n c] w (jX (oQ op l) w):=by
 have g:=fQ (show oQ op l=(0,1) by simp[oQ,hg]);have h:=fQ (show aQi op = .tuple #[.agg #[.int .i64 0,.int .i64 0,.int .i64 0,.int .i64 0],.int .i64 0,.bool false] by simp[aQi,hg]);have i:=fQ (show(fW op).isSome=false by simp[hg]);have j:=fQ (show BQ w.heap.size w (w.alloc (.cells #[.slice A n c] 30))from(Ak _ _).alloc (Aj _) _);clear hg;go_in;go_wp2_with fail;refine(aXv op _ h1 h2).mono ?_;rintro e w1 ⟨rfl,b⟩;rw[h.out];have a:=fQ (j.out.trans (b.mono (by simp)));clear b;go_wp2_with fail;refine(aJa op _ h1 h2).mono ?_;rintro e w2 ⟨A2,c2,rfl,_,d⟩;rw[i.out];have f:=fQ (show BQ w.heap.size w w2 from((a.out.alloc a.out.size _).alloc (by have:=a.out.size;simp;omega) _).trans (d.mono (by have:=a.out.size;simp;omega)));generalize (fY op).length=L;generalize lY op=O;clear d;go_wp2;go_ret2;unfold jX;rw[g.out];exact⟨rfl,f.out.alloc f.out.size _⟩
theorem dWt(op a b c d:Int)(A:Option Addr)(n j:Nat)(l:List Nat)(w:By)(h1 : -9223372036854775808<=op)(h2:op<=9223372036854775807)(hg:fW op=some (a,b,c,d))(o:l.length=n)(k:(fY op).length≠n):
  BX fZ 94 #[.int .i64 op,.slice A n j] w (jX (oQ op l) w):=by
 have s:=fQ (show oQ op l=(0,1) by simp[oQ,hg,o,k]);have t:=fQ (show aQi op = .tuple #[.agg #[.int .i64 a,.int .i64 b,.int .i64 c,.int .i64 d],.int .i64 (op - a),.bool true] by simp[aQi,hg,gV]);have u:=fQ (show(fW op).isSome=true by simp[hg]);have v:=fQ (show BQ w.heap.size w (w.alloc (.cells #[.slice A n j] 30))from(Ak _ _).alloc (Aj _) _);generalize m:(fY op).length=L at k;replace m:=fQ m;have ak:((L:Int) != (n:Int))=true:=(by simp;omega);clear hg o k;go_in;go_wp2_with fail;refine(aXv op _ h1 h2).mono ?_;rintro e f ⟨rfl,h⟩;rw[t.out];have x:w.heap.size<f.heap.size:=(by have:=h.size;simp at this;omega);have q:=h.cell (p:=⟨w.heap.size,0,none⟩) (by simp);simp at q;have i:=fQ (v.out.trans (h.mono (by simp)));clear h;go_wp2_with fail;refine(aJa op _ h1 h2).mono ?_;rintro e w2 ⟨A2,c2,rfl,y,g⟩;rw[u.out];have ax:f.heap.size+1+1<=w2.heap.size:=(by have:=g.size;simpa using this);have r:=fQ (show BQ w.heap.size w w2 from((i.out.alloc i.out.size _).alloc (by have:=i.out.size;simp;omega) _).trans (g.mono (by have:=i.out.size;simp;omega)));have ay:w.heap.size<w2.heap.size:=(by omega);have az:f.heap.size<w2.heap.size:=(by omega);have aA:f.heap.size+1<w2.heap.size:=(by omega);have aB:w2.cell? ⟨w.heap.size,0,none⟩=some (.slice A n j):=(g.cell (p:=⟨w.heap.size,0,none⟩) (by simp;omega)).trans (((((Ak f.heap.size f).alloc (Aj _) _).alloc (by simp) _).cell (p:=⟨w.heap.size,0,none⟩) x).trans q);have z:=(g.cell (p:=⟨f.heap.size,0,none⟩) (by simp;omega));have B:=(g.cell (p:=⟨f.heap.size,1,none⟩) (by simp;omega));have C:=(g.cell (p:=⟨f.heap.size,2,none⟩) (by simp;omega));have D:=(g.cell (p:=⟨f.heap.size,3,none⟩) (by simp;omega));have E:=(g.cell (p:=⟨f.heap.size+1,0,none⟩) (by simp));simp at z B C D E;rw[m.out];generalize lY op=O;clear g y;go_wp2;go_ret2;unfold jX;rw[s.out];exact⟨rfl,r.out.alloc r.out.size _⟩
def tW(a pg b po:Nat):List (Int×BJ):=[(0,Aw (.func 123) #[] #[Aq (some ⟨a,0,none⟩)]),(2,Aw (.func 125) #[] #[Aq (some ⟨a,0,none⟩),Aq (some ⟨pg,0,none⟩),Aq (some ⟨b,0,none⟩)]),(4,Aw (.func 127) #[] #[Aq (some ⟨a,0,none⟩)]),(5,Aw (.func 128) #[] #[Aq (some ⟨a,0,none⟩),Aq (some ⟨b,0,none⟩)]),(6,Aw (.func 129) #[] #[Aq (some ⟨a,0,none⟩),Aq (some ⟨b,0,none⟩),Aq (some ⟨po,0,none⟩)])]
def fL(a pg b po i:Nat):Obj:=lit ((tW a pg b po).take i)
theorem fi0(a pg b po:Nat)(W:By):(Instr.mapUpdate 189 (.map (some W.heap.size)) (.int .i64 0) (Aw (.func 123) #[] #[Aq (some ⟨a,0,none⟩)])).run fZ (W.alloc (fL a pg b po 0)) = .ok () (W.alloc (fL a pg b po 1)):=
 iV W 189 3 108 ((tW a pg b po).take 0) 0 _ underlying189 underlying3 (by simp[tW,kJ])
theorem fi1(a pg b po:Nat)(W:By):(Instr.mapUpdate 189 (.map (some W.heap.size)) (.int .i64 2) (Aw (.func 125) #[] #[Aq (some ⟨a,0,none⟩),Aq (some ⟨pg,0,none⟩),Aq (some ⟨b,0,none⟩)])).run fZ (W.alloc (fL a pg b po 1)) = .ok () (W.alloc (fL a pg b po 2)):=
 iV W 189 3 108 ((tW a pg b po).take 1) 2 _ underlying189 underlying3 (by simp[tW,kJ])
theorem fi2(a pg b po:Nat)(W:By):(Instr.mapUpdate 189 (.map (some W.heap.size)) (.int .i64 4) (Aw (.func 127) #[] #[Aq (some ⟨a,0,none⟩)])).run fZ (W.alloc (fL a pg b po 2)) = .ok () (W.alloc (fL a pg b po 3)):=
 iV W 189 3 108 ((tW a pg b po).take 2) 4 _ underlying189 underlying3 (by simp[tW,kJ])
theorem fi3(a pg b po:Nat)(W:By):(Instr.mapUpdate 189 (.map (some W.heap.size)) (.int .i64 5) (Aw (.func 128) #[] #[Aq (some ⟨a,0,none⟩),Aq (some ⟨b,0,none⟩)])).run fZ (W.alloc (fL a pg b po 3)) = .ok () (W.alloc (fL a pg b po 4)):=
 iV W 189 3 108 ((tW a pg b po).take 3) 5 _ underlying189 underlying3 (by simp[tW,kJ])
theorem fi4(a pg b po:Nat)(W:By):(Instr.mapUpdate 189 (.map (some W.heap.size)) (.int .i64 6) (Aw (.func 129) #[] #[Aq (some ⟨a,0,none⟩),Aq (some ⟨b,0,none⟩),Aq (some ⟨po,0,none⟩)])).run fZ (W.alloc (fL a pg b po 4)) = .ok () (W.alloc (fL a pg b po 5)):=
 iV W 189 3 108 ((tW a pg b po).take 4) 6 _ underlying189 underlying3 (by simp[tW,kJ])
theorem aVu(w:By):(zeroValue 108).run fZ w = .ok .nilFunc w:=by kernel_rfl
theorem eYo(a pg b po:Nat)(W:By):(Instr.lookup 189 (.map (some W.heap.size)) (.int .i64 0) true).run fZ (W.alloc (fL a pg b po 5)) = .ok (.tuple #[Aw (.func 123) #[] #[Aq (some ⟨a,0,none⟩)],.bool true]) (W.alloc (fL a pg b po 5)):=by
 have:=pV (P:=fZ) W 189 3 108 .nilFunc ((tW a pg b po).take 5) 0 underlying189 underlying3 aVu;rw[fL,this];simp[tW,kJ]
theorem fk2(a pg b po:Nat)(W:By):(Instr.lookup 189 (.map (some W.heap.size)) (.int .i64 2) true).run fZ (W.alloc (fL a pg b po 5)) = .ok (.tuple #[Aw (.func 125) #[] #[Aq (some ⟨a,0,none⟩),Aq (some ⟨pg,0,none⟩),Aq (some ⟨b,0,none⟩)],.bool true]) (W.alloc (fL a pg b po 5)):=by
 have:=pV (P:=fZ) W 189 3 108 .nilFunc ((tW a pg b po).take 5) 2 underlying189 underlying3 aVu;rw[fL,this];simp[tW,kJ]
theorem fk4(a pg b po:Nat)(W:By):(Instr.lookup 189 (.map (some W.heap.size)) (.int .i64 4) true).run fZ (W.alloc (fL a pg b po 5)) = .ok (.tuple #[Aw (.func 127) #[] #[Aq (some ⟨a,0,none⟩)],.bool true]) (W.alloc (fL a pg b po 5)):=by
 have:=pV (P:=fZ) W 189 3 108 .nilFunc ((tW a pg b po).take 5) 4 underlying189 underlying3 aVu;rw[fL,this];simp[tW,kJ]
theorem fk5(a pg b po:Nat)(W:By):(Instr.lookup 189 (.map (some W.heap.size)) (.int .i64 5) true).run fZ (W.alloc (fL a pg b po 5)) = .ok (.tuple #[Aw (.func 128) #[] #[Aq (some ⟨a,0,none⟩),Aq (some ⟨b,0,none⟩)],.bool true]) (W.alloc (fL a pg b po 5)):=by
 have:=pV (P:=fZ) W 189 3 108 .nilFunc ((tW a pg b po).take 5) 5 underlying189 underlying3 aVu;rw[fL,this];simp[tW,kJ]
theorem fk6(a pg b po:Nat)(W:By):(Instr.lookup 189 (.map (some W.heap.size)) (.int .i64 6) true).run fZ (W.alloc (fL a pg b po 5)) = .ok (.tuple #[Aw (.func 129) #[] #[Aq (some ⟨a,0,none⟩),Aq (some ⟨b,0,none⟩),Aq (some ⟨po,0,none⟩)],.bool true]) (W.alloc (fL a pg b po 5)):=by
 have:=pV (P:=fZ) W 189 3 108 .nilFunc ((tW a pg b po).take 5) 6 underlying189 underlying3 aVu;rw[fL,this];simp[tW,kJ]
theorem fk1(a pg b po:Nat)(W:By):(Instr.lookup 189 (.map (some W.heap.size)) (.int .i64 1) true).run fZ (W.alloc (fL a pg b po 5)) = .ok (.tuple #[.nilFunc,.bool false]) (W.alloc (fL a pg b po 5)):=by
 have:=pV (P:=fZ) W 189 3 108 .nilFunc ((tW a pg b po).take 5) 1 underlying189 underlying3 aVu;rw[fL,this];simp[tW,kJ]
theorem fk3(a pg b po:Nat)(W:By):(Instr.lookup 189 (.map (some W.heap.size)) (.int .i64 3) true).run fZ (W.alloc (fL a pg b po 5)) = .ok (.tuple #[.nilFunc,.bool false]) (W.alloc (fL a pg b po 5)):=by
 have:=pV (P:=fZ) W 189 3 108 .nilFunc ((tW a pg b po).take 5) 3 underlying189 underlying3 aVu;rw[fL,this];simp[tW,kJ]
theorem cXx{op a b c d:Int}(h:fW op=some (a,b,c,d)):(c=0->b=1)/\(c=1->b=10)/\(c=2->b=3)/\(c=3->b=15)/\(c=4->b=1)/\(c=5->b=2)/\(c=6->b<=3):=by
 have e:=List.mem_of_find?_eq_some h;have f:∀ g∈tX,(g.2.2.1=0->g.2.1=1)/\(g.2.2.1=1->g.2.1=10)/\(g.2.2.1=2->g.2.1=3)/\(g.2.2.1=3->g.2.1=15)/\(g.2.2.1=4->g.2.1=1)/\(g.2.2.1=5->g.2.1=2)/\(g.2.2.1=6->g.2.1<=3):=(by decide);exact f _ e
theorem cXy(e f c d:Int)(k a b:Nat)(w:By)(hc:(c=1/\k<10)\/(c=3/\k<15))(hd:d=126\/d=127)(ha:iX d a=true)(n:iX d b=true)(i:a<18446744073709551616)(j:b<18446744073709551616):
  BX fZ 130 #[.agg #[.int .i64 e,.int .i64 f,.int .i64 c,.int .i64 d],.int .i64 k,.int .u64 a,.int .u64 b] w (uV (gK c d k a b) w):=by
 rcases hd with rfl | rfl
 ·rcases hc with⟨rfl,g⟩ | ⟨rfl,g⟩
  ·exact dJc e f k a b w g i j
  ·by_cases h:3<=k/\k<=6
   ·exact dJe e f k a b w h.1 h.2 i j
   ·exact dJg e f k a b w (by omega) g i j
 ·have l:a<4294967296:=(by simpa[iX]using ha);have m:b<4294967296:=(by simpa[iX]using n);rcases hc with⟨rfl,g⟩ | ⟨rfl,g⟩
  ·exact dJd e f k a b w g l m
  ·by_cases h:3<=k/\k<=6
   ·exact dJf e f k a b w h.1 h.2 l m
   ·exact dJh e f k a b w (by omega) g l m
def eWd(n:Nat)(d:Int)(l:List Nat)(i:BJ):Prop:=∃ k:Nat,k<=n/\i = .int .i64 k/\Hid ((l.take k).all (iX d)=true)
theorem dXx(op a b c d:Int)(A:Option Addr)(n s:Nat)(l:List Nat)(w:By)(h1 : -9223372036854775808<=op)(h2:op<=9223372036854775807)(hg:fW op=some (a,b,c,d))(hs:Src w A n (u64V l))(bB:All64 l)(hT:Tabs w)(aN:(fY op).length=n):
  BX fZ 94 #[.int .i64 op,.slice A n s] w (jX (oQ op l) w):=by
 have hl:l.length=n:=(by have:=hs.1;simpa[u64V]using this);have HF:=fQ (show aQi op = .tuple #[.agg #[.int .i64 a,.int .i64 b,.int .i64 c,.int .i64 d],.int .i64 (op - a),.bool true] by simp[aQi,hg,gV]);have HI:=fQ (show(fW op).isSome=true by simp[hg]);have aU:=fQ (show fY op=Ag n d by rw[<-aN];simp only[fY,hg];split <;> rfl);have aV:n=1\/n=2:=(by rw[<-aN];simp only[fY,hg];split <;> simp);have Z:1<=n:=(by omega);have bQ:n<=2:=(by omega);have bG:=fQ (show BQ w.heap.size w (w.alloc (.cells #[.slice A n s] 30))from(Ak _ _).alloc (Aj _) _);obtain⟨ab,g,rfl,bT⟩:=hs.addr (by omega);have HS:=fQ hs;have aA:=fQ aN;have HG:=fQ hg;have o:=fQ hl;have aW:=fQ hT;have aw:=fQ bB;have bU:((n:Int) != (n:Int))=false:=(by simp);clear hg hl aN hs aV hT bB;go_in;go_wp2_with fail;refine(aXv op _ h1 h2).mono ?_;rintro e f ⟨rfl,aO⟩;rw[HF.out];have bH:w.heap.size<f.heap.size:=(by have:=aO.size;simp at this;omega);have aX:=aO.cell (p:=⟨w.heap.size,0,none⟩) (by simp);simp at aX;have aB:=fQ (bG.out.trans (aO.mono (by simp)));clear aO;go_wp2_with fail;refine(aJa op _ h1 h2).mono ?_;rintro e w2 ⟨A2,c2,rfl,aY,v⟩;rw[HI.out];have bV:f.heap.size+1+1<=w2.heap.size:=(by have:=v.size;simpa using this);have aZ:=fQ (show BQ w.heap.size w w2 from((aB.out.alloc aB.out.size _).alloc (by have:=aB.out.size;simp;omega) _).trans (v.mono (by have:=aB.out.size;simp;omega)));have bI:w.heap.size<w2.heap.size:=(by omega);have aP:f.heap.size<w2.heap.size:=(by omega);have bJ:f.heap.size+1<w2.heap.size:=(by omega);have bC:w2.cell? ⟨w.heap.size,0,none⟩=some (.slice (some ⟨ab,g,none⟩) n s):=(v.cell (p:=⟨w.heap.size,0,none⟩) (by simp;omega)).trans (((((Ak f.heap.size f).alloc (Aj _) _).alloc (by simp) _).cell (p:=⟨w.heap.size,0,none⟩) bH).trans aX);have a1:=(v.cell (p:=⟨f.heap.size,0,none⟩) (by simp;omega));have a6:=(v.cell (p:=⟨f.heap.size,1,none⟩) (by simp;omega));have a7:=(v.cell (p:=⟨f.heap.size,2,none⟩) (by simp;omega));have a8:=(v.cell (p:=⟨f.heap.size,3,none⟩) (by simp;omega));have ba:=(v.cell (p:=⟨f.heap.size+1,0,none⟩) (by simp));simp at a1 a6 a7 a8 ba;rw[aA.out];rw[aA.out,aU.out]at aY;generalize HO:lY op=O;replace HO:=fQ HO;have bb:=fQ aY;clear v aY;obtain⟨g2,bW,e,bX,bY,_⟩:=lQ bb.out Z;injection e with e1 e2 e3;subst e1;subst e3;have aC:=fQ (aZ.out.alloc aZ.out.size (.cells #[.int .i64 O] 3));have F:BQ w2.heap.size w2 (w2.alloc (.cells #[.int .i64 O] 3)):=(Ak _ _).alloc (Aj _) _;have hq:=(F.cell (p:=⟨w.heap.size,0,none⟩) bI).trans bC;have aQ:=(F.cell (p:=⟨f.heap.size,0,none⟩) aP).trans a1;have aR:=(F.cell (p:=⟨f.heap.size,1,none⟩) aP).trans a6;have aS:=(F.cell (p:=⟨f.heap.size,2,none⟩) aP).trans a7;have bc:=(F.cell (p:=⟨f.heap.size,3,none⟩) aP).trans a8;have bd:=(F.cell (p:=⟨f.heap.size+1,0,none⟩) bJ).trans ba;have be:(w2.alloc (.cells #[.int .i64 O] 3)).cell? ⟨w2.heap.size,0,none⟩=some (.int .i64 O):=(Blk.new w2 3 #[.int .i64 O]).cell 0;have ax:=fQ (HS.out.below aC.out (Aj _));have aT:=fQ (aW.out.below aC.out aW.out.2.2)
 have aD:=fQ (iW bb.out F (Aj _));have bL:w2.heap.size<(w2.alloc (.cells #[.int .i64 O] 3)).heap.size:=(by simp)
 have bD:∀ k,k<n->(w2.alloc (.cells #[.int .i64 O] 3)).cell? ⟨g2,k,none⟩=some (.int .i64 d):=fun k hk=>by
  rw[aD.out.cellAt k (by omega)];simp[aYf,hk]
 have bf:=fQ bD;go_wp2_with fail;clear aX bC a1 a6 a7 a8 ba F aZ bb aD aB HS bD aW;generalize w2.alloc (.cells #[.int .i64 O] 3)=h at *;go_loop [40] (fun i=>eWd n d l i) (fun i=>n+1 - (intOf i).toNat)
 case atStart=>exact⟨0,by omega,rfl,fQ (by simp)⟩
 case round=>
  obtain⟨k,hk,rfl,bg⟩:=hrel;by_cases ay:k<n
  ·have bM:decide ((k:Int)<(n:Int))=true:=(by simpa using ay);have az:=ax.out.at_ ay;simp only[u64V,AY]at az;have bZ:=bf.out k ay;have G:=aw.out _ (AJ (show k<l.length by rw[o.out];exact ay));have bh:=fQ (AW (show k<l.length by rw[o.out];exact ay));generalize l[k]'(by rw[o.out];exact ay)=x at az G bh
   cases hf:iX d x with
   | true=>
    have aE:=fQ hf;clear hf;go_wp2_with fail;refine(bQn d x _ G).mono ?_;rintro e q ⟨rfl,rfl⟩;rw[aE.out];go_wp2;exact⟨⟨k+1,by omega,by simp,fQ (by rw[bh.out,Af,bg.out];simp[aE.out])⟩,by simp[intOf];omega⟩
   | false=>
    have aE:=fQ hf;clear hf;go_wp2_with fail;refine(bQn d x _ G).mono ?_;rintro e q ⟨rfl,rfl⟩;rw[aE.out];go_wp2;go_ret2;unfold jX
    have hV:oQ op l=(0,1):=by
     have af:l.all (iX d)=false:=by
      rw[<-List.take_append_drop (k+1) l,Af,bh.out,Af];simp[aE.out]
     simp[oQ,HG.out,af]
    rw[hV];exact⟨rfl,aC.out⟩
  ·obtain rfl:k=n:=by omega
   have af:l.all (iX d)=true:=by
    have:=bg.out
    rwa[Ad (by rw[o.out];omega)]at this
   have H:=fQ (show oQ op l=nV c d (op - a) O l by rw[oQ,HG.out];simp only;rw[if_pos ⟨by rw[aA.out,o.out],af⟩,HO.out]);obtain⟨bN,bj,_,b0,b1,_,_⟩:=aQr HG.out;obtain⟨R,I,J,K,S,L,M⟩:=cXx HG.out;obtain⟨r,bk⟩:=Int.eq_ofNat_of_zero_le (show 0<=op - a by omega);have bE:∀ (t:TypeId) (T:By),(Instr.makeMap t none).run fZ T = .ok (.map (some T.heap.size)) (T.alloc (fL w.heap.size f.heap.size (f.heap.size+1) w2.heap.size 0)):=fun _ _=>rfl;have i0:=fi0 w.heap.size f.heap.size (f.heap.size+1) w2.heap.size;have i1:=fi1 w.heap.size f.heap.size (f.heap.size+1) w2.heap.size;have i2:=fi2 w.heap.size f.heap.size (f.heap.size+1) w2.heap.size;have i3:=fi3 w.heap.size f.heap.size (f.heap.size+1) w2.heap.size;have i4:=fi4 w.heap.size f.heap.size (f.heap.size+1) w2.heap.size;have U:BQ h.heap.size h (h.alloc (fL w.heap.size f.heap.size (f.heap.size+1) w2.heap.size 5)):=(Ak _ _).alloc (Aj _) _;have u:=fQ (aC.out.alloc aC.out.size (fL w.heap.size f.heap.size (f.heap.size+1) w2.heap.size 5));have za:w.heap.size<h.heap.size:=(by omega);have V:f.heap.size<h.heap.size:=(by omega);have zc:f.heap.size+1<h.heap.size:=(by omega);have zd:ab<h.heap.size:=(by omega);have B:=(U.cell (p:=⟨w.heap.size,0,none⟩) za).trans hq;have N:=(U.cell (p:=⟨f.heap.size+1,0,none⟩) zc).trans bd;have qg:=(U.cell (p:=⟨f.heap.size,3,none⟩) V).trans bc;have qo:=(U.cell (p:=⟨w2.heap.size,0,none⟩) bL).trans be;have bm:=fQ (aT.out.below U aT.out.2.2);have az:=ax.out.at_ (k:=0) (by omega);simp only[u64V,AY,Nat.add_zero]at az;have G:=aw.out _ (AJ (show 0<l.length by rw[o.out];omega));have P:=fQ (show l.getD 0 0=l[0]'(by rw[o.out];omega) by rw[Az,Ax (by rw[o.out];omega)];rfl);have bn:=List.all_eq_true.1 af _ (AJ (show 0<l.length by rw[o.out];omega));generalize l[0]'(by rw[o.out];omega)=x at az G P bn;have C:=(U.cell (p:=⟨ab,g,none⟩) zd).trans az;have aF:w.heap.size<(h.alloc (fL w.heap.size f.heap.size (f.heap.size+1) w2.heap.size 5)).heap.size:=(by simp;omega);have D:f.heap.size<(h.alloc (fL w.heap.size f.heap.size (f.heap.size+1) w2.heap.size 5)).heap.size:=(by simp;omega);have aG:(f.heap.size+1)<(h.alloc (fL w.heap.size f.heap.size (f.heap.size+1) w2.heap.size 5)).heap.size:=(by simp;omega);have W:ab<(h.alloc (fL w.heap.size f.heap.size (f.heap.size+1) w2.heap.size 5)).heap.size:=(by simp;omega);have bO:w2.heap.size<(h.alloc (fL w.heap.size f.heap.size (f.heap.size+1) w2.heap.size 5)).heap.size:=(by simp;omega);have bo:=fQ bn;have aH:=fQ af;rw[bk]at N H;have bF:=fQ bk;have bP:(r:Int)<b:=(by omega);clear bk U af bg bn;rcases bN with rfl | rfl | rfl | rfl | rfl | rfl | rfl
   ·have Q:=eYo w.heap.size f.heap.size (f.heap.size+1) w2.heap.size;clear R I J K S L M;go_wp2_with fail;refine(eQq w.heap.size ab g _ s x _ B C Z).mono ?_;rintro e m ⟨rfl,rfl⟩;go_wp2;go_ret2;unfold jX;rw[H.out,nV,if_pos rfl,P.out];exact⟨rfl,u.out⟩
   ·have Q:=fk1 w.heap.size f.heap.size (f.heap.size+1) w2.heap.size;have bp:2<=k:=(by have:=aA.out;rw[fY,HG.out]at this;simp at this;omega);have X:=ax.out.at_ (k:=1) (by omega);simp only[u64V,AY]at X;have ah:=aw.out _ (AJ (show 1<l.length by rw[o.out];omega));have aI:=fQ (show l.getD 1 0=l[1]'(by rw[o.out];omega) by rw[Az,Ax (by rw[o.out];omega)];rfl);have Y:=List.all_eq_true.1 aH.out _ (AJ (show 1<l.length by rw[o.out];omega));generalize l[1]'(by rw[o.out];omega)=y at X ah aI Y;have q1:=((Ak h.heap.size h).alloc (Aj _) (fL w.heap.size f.heap.size (f.heap.size+1) w2.heap.size 5)).cell (p:=⟨ab,g+1,none⟩) zd |>.trans X;have aJ:=((Ak h.heap.size h).alloc (Aj _) (fL w.heap.size f.heap.size (f.heap.size+1) w2.heap.size 5)).cell (p:=⟨f.heap.size,0,none⟩) V |>.trans aQ;have aK:=((Ak h.heap.size h).alloc (Aj _) (fL w.heap.size f.heap.size (f.heap.size+1) w2.heap.size 5)).cell (p:=⟨f.heap.size,1,none⟩) V |>.trans aR;have aL:=((Ak h.heap.size h).alloc (Aj _) (fL w.heap.size f.heap.size (f.heap.size+1) w2.heap.size 5)).cell (p:=⟨f.heap.size,2,none⟩) V |>.trans aS;have bq:r<10:=(by have:=I rfl;omega);have br:=fQ (fun T=>cXy a b 1 d r x y T (by omega) bj bo.out Y G ah);have bs:0<k:=(by omega);have bt:1<k:=(by omega);have bu:(1:Int)<(k:Int):=(by omega);clear Y R I J K S L M;go_wp2_with fail;generalize h.alloc (fL w.heap.size f.heap.size (f.heap.size+1) w2.heap.size 5)=q at *;have bw:q.cell? ⟨w.heap.size,0,none⟩=some (.slice (some ⟨ab,g,none⟩) k s)/\q.cell? ⟨f.heap.size,0,none⟩=some (.int .i64 a)/\q.cell? ⟨f.heap.size,1,none⟩=some (.int .i64 b)/\q.cell? ⟨f.heap.size,2,none⟩=some (.int .i64 1)/\q.cell? ⟨f.heap.size,3,none⟩=some (.int .i64 d)/\q.cell? ⟨f.heap.size+1,0,none⟩=some (.int .i64 r)/\q.cell? ⟨ab,g,none⟩=some (.int .u64 x)/\q.cell? ⟨ab,g+1,none⟩=some (.int .u64 y):=⟨B,aJ,aK,aL,qg,N,C,q1⟩;clear Q bm aT ax bf aQ aR aS bc bd be hq qo i0 i1 i2 i3 i4 bE bF HF HI aU aw;go_region_held3 (fun w'=>w'.cell? ⟨w.heap.size,0,none⟩=some (.slice (some ⟨ab,g,none⟩) k s)/\w'.cell? ⟨f.heap.size,0,none⟩=some (.int .i64 a)/\w'.cell? ⟨f.heap.size,1,none⟩=some (.int .i64 b)/\w'.cell? ⟨f.heap.size,2,none⟩=some (.int .i64 1)/\w'.cell? ⟨f.heap.size,3,none⟩=some (.int .i64 d)/\w'.cell? ⟨f.heap.size+1,0,none⟩=some (.int .i64 r)/\w'.cell? ⟨ab,g,none⟩=some (.int .u64 x)/\w'.cell? ⟨ab,g+1,none⟩=some (.int .u64 y)) (first | exact bw | exact bx) (first | (go_at_call 130;refine(br.out _).mono ?_;rintro e m ⟨rfl,j⟩;have bx:m.cell? ⟨w.heap.size,0,none⟩=some (.slice (some ⟨ab,g,none⟩) k s)/\m.cell? ⟨f.heap.size,0,none⟩=some (.int .i64 a)/\m.cell? ⟨f.heap.size,1,none⟩=some (.int .i64 b)/\m.cell? ⟨f.heap.size,2,none⟩=some (.int .i64 1)/\m.cell? ⟨f.heap.size,3,none⟩=some (.int .i64 d)/\m.cell? ⟨f.heap.size+1,0,none⟩=some (.int .i64 r)/\m.cell? ⟨ab,g,none⟩=some (.int .u64 x)/\m.cell? ⟨ab,g+1,none⟩=some (.int .u64 y):=⟨(j.cell (p:=⟨w.heap.size,0,none⟩) aF).trans B,(j.cell (p:=⟨f.heap.size,0,none⟩) D).trans aJ,(j.cell (p:=⟨f.heap.size,1,none⟩) D).trans aK,(j.cell (p:=⟨f.heap.size,2,none⟩) D).trans aL,(j.cell (p:=⟨f.heap.size,3,none⟩) D).trans qg,(j.cell (p:=⟨f.heap.size+1,0,none⟩) aG).trans N,(j.cell (p:=⟨ab,g,none⟩) W).trans C,(j.cell (p:=⟨ab,g+1,none⟩) W).trans q1⟩;have E:=fQ j;clear j))
    all_goals
     go_wp2;go_ret2;unfold jX;rw[H.out,nV,if_neg (by decide),if_neg (by decide),if_neg (by decide),if_neg (by decide),if_neg (by decide),P.out,aI.out];exact⟨rfl,u.out.drew.trans (E.out.mono u.out.size)⟩
   ·have Q:=fk2 w.heap.size f.heap.size (f.heap.size+1) w2.heap.size
    have hW:(d=126/\(if d=126 then 64 else 32:Nat)=64/\x<18446744073709551616)\/(d=127/\(if d=126 then 64 else 32:Nat)=32/\x<4294967296):=by
     rcases bj with rfl | rfl
     ·exact .inl ⟨rfl,rfl,G⟩
     ·exact .inr ⟨rfl,rfl,by have:=bo.out;simp[iX]at this;exact this⟩
    have bz:=(eQu w.heap.size f.heap.size (f.heap.size+1) ab g k s x _ r a b 2 d _ B C Z N (by have:=J rfl;omega) qg aF aG W D bm.out hW);obtain⟨z,HZ⟩:∃ z,(zY (if d=126 then 64 else 32) x).getD r 0=z:=⟨_,rfl⟩;rw[HZ]at bz;have aM:=fQ bz;replace HZ:=fQ HZ;clear hW bz;clear R I J K S L M;go_wp2_with fail;refine aM.out.mono ?_;rintro e m ⟨rfl,j⟩;have E:=fQ (u.out.trans (j.mono u.out.size));clear j;go_wp2;go_ret2;unfold jX;rw[H.out,nV,if_neg (by decide),if_pos rfl,P.out,Int.toNat_natCast,HZ.out];exact⟨rfl,E.out⟩
   ·have Q:=fk3 w.heap.size f.heap.size (f.heap.size+1) w2.heap.size;have bp:2<=k:=(by have:=aA.out;rw[fY,HG.out]at this;simp at this;omega);have X:=ax.out.at_ (k:=1) (by omega);simp only[u64V,AY]at X;have ah:=aw.out _ (AJ (show 1<l.length by rw[o.out];omega));have aI:=fQ (show l.getD 1 0=l[1]'(by rw[o.out];omega) by rw[Az,Ax (by rw[o.out];omega)];rfl);have Y:=List.all_eq_true.1 aH.out _ (AJ (show 1<l.length by rw[o.out];omega));generalize l[1]'(by rw[o.out];omega)=y at X ah aI Y;have q1:=((Ak h.heap.size h).alloc (Aj _) (fL w.heap.size f.heap.size (f.heap.size+1) w2.heap.size 5)).cell (p:=⟨ab,g+1,none⟩) zd |>.trans X;have aJ:=((Ak h.heap.size h).alloc (Aj _) (fL w.heap.size f.heap.size (f.heap.size+1) w2.heap.size 5)).cell (p:=⟨f.heap.size,0,none⟩) V |>.trans aQ;have aK:=((Ak h.heap.size h).alloc (Aj _) (fL w.heap.size f.heap.size (f.heap.size+1) w2.heap.size 5)).cell (p:=⟨f.heap.size,1,none⟩) V |>.trans aR;have aL:=((Ak h.heap.size h).alloc (Aj _) (fL w.heap.size f.heap.size (f.heap.size+1) w2.heap.size 5)).cell (p:=⟨f.heap.size,2,none⟩) V |>.trans aS;have bq:r<15:=(by have:=K rfl;omega);have br:=fQ (fun T=>cXy a b 3 d r x y T (by omega) bj bo.out Y G ah);have bs:0<k:=(by omega);have bt:1<k:=(by omega);have bu:(1:Int)<(k:Int):=(by omega);clear Y R I J K S L M;go_wp2_with fail;generalize h.alloc (fL w.heap.size f.heap.size (f.heap.size+1) w2.heap.size 5)=q at *;have bw:q.cell? ⟨w.heap.size,0,none⟩=some (.slice (some ⟨ab,g,none⟩) k s)/\q.cell? ⟨f.heap.size,0,none⟩=some (.int .i64 a)/\q.cell? ⟨f.heap.size,1,none⟩=some (.int .i64 b)/\q.cell? ⟨f.heap.size,2,none⟩=some (.int .i64 3)/\q.cell? ⟨f.heap.size,3,none⟩=some (.int .i64 d)/\q.cell? ⟨f.heap.size+1,0,none⟩=some (.int .i64 r)/\q.cell? ⟨ab,g,none⟩=some (.int .u64 x)/\q.cell? ⟨ab,g+1,none⟩=some (.int .u64 y):=⟨B,aJ,aK,aL,qg,N,C,q1⟩;clear Q bm aT ax bf aQ aR aS bc bd be hq qo i0 i1 i2 i3 i4 bE bF HF HI aU aw;go_region_held3 (fun w'=>w'.cell? ⟨w.heap.size,0,none⟩=some (.slice (some ⟨ab,g,none⟩) k s)/\w'.cell? ⟨f.heap.size,0,none⟩=some (.int .i64 a)/\w'.cell? ⟨f.heap.size,1,none⟩=some (.int .i64 b)/\w'.cell? ⟨f.heap.size,2,none⟩=some (.int .i64 3)/\w'.cell? ⟨f.heap.size,3,none⟩=some (.int .i64 d)/\w'.cell? ⟨f.heap.size+1,0,none⟩=some (.int .i64 r)/\w'.cell? ⟨ab,g,none⟩=some (.int .u64 x)/\w'.cell? ⟨ab,g+1,none⟩=some (.int .u64 y)) (first | exact bw | exact bx) (first | (go_at_call 130;refine(br.out _).mono ?_;rintro e m ⟨rfl,j⟩;have bx:m.cell? ⟨w.heap.size,0,none⟩=some (.slice (some ⟨ab,g,none⟩) k s)/\m.cell? ⟨f.heap.size,0,none⟩=some (.int .i64 a)/\m.cell? ⟨f.heap.size,1,none⟩=some (.int .i64 b)/\m.cell? ⟨f.heap.size,2,none⟩=some (.int .i64 3)/\m.cell? ⟨f.heap.size,3,none⟩=some (.int .i64 d)/\m.cell? ⟨f.heap.size+1,0,none⟩=some (.int .i64 r)/\m.cell? ⟨ab,g,none⟩=some (.int .u64 x)/\m.cell? ⟨ab,g+1,none⟩=some (.int .u64 y):=⟨(j.cell (p:=⟨w.heap.size,0,none⟩) aF).trans B,(j.cell (p:=⟨f.heap.size,0,none⟩) D).trans aJ,(j.cell (p:=⟨f.heap.size,1,none⟩) D).trans aK,(j.cell (p:=⟨f.heap.size,2,none⟩) D).trans aL,(j.cell (p:=⟨f.heap.size,3,none⟩) D).trans qg,(j.cell (p:=⟨f.heap.size+1,0,none⟩) aG).trans N,(j.cell (p:=⟨ab,g,none⟩) W).trans C,(j.cell (p:=⟨ab,g+1,none⟩) W).trans q1⟩;have E:=fQ j;clear j))
    all_goals
     go_wp2;go_ret2;unfold jX;rw[H.out,nV,if_neg (by decide),if_neg (by decide),if_neg (by decide),if_neg (by decide),if_neg (by decide),P.out,aI.out];exact⟨rfl,u.out.drew.trans (E.out.mono u.out.size)⟩
   ·have Q:=fk4 w.heap.size f.heap.size (f.heap.size+1) w2.heap.size;clear R I J K S L M;go_wp2_with fail;refine(eQr w.heap.size ab g _ s x _ B C Z).mono ?_;rintro e m ⟨rfl,rfl⟩;go_wp2;go_ret2;unfold jX;rw[H.out,nV,if_neg (by decide),if_neg (by decide),if_pos rfl,P.out];exact⟨rfl,u.out⟩
   ·have Q:=fk5 w.heap.size f.heap.size (f.heap.size+1) w2.heap.size;have aM:=fQ (eQs w.heap.size (f.heap.size+1) ab g k s x r _ B C Z N (by have:=L rfl;omega) aF aG W);clear R I J K S L M;go_wp2_with fail;refine aM.out.mono ?_;rintro e m ⟨rfl,j⟩;have E:=fQ (u.out.trans (j.mono u.out.size));clear j;go_wp2;go_ret2;unfold jX;rw[H.out,nV,if_neg (by decide),if_neg (by decide),if_neg (by decide),if_pos rfl,P.out];exact⟨rfl,E.out⟩
   ·have Q:=fk6 w.heap.size f.heap.size (f.heap.size+1) w2.heap.size;have aM:=fQ (eQt w.heap.size (f.heap.size+1) w2.heap.size ab g k s x r O _ B C Z N (by have:=M rfl;omega) qo aF aG W bO);clear R I J K S L M;go_wp2_with fail;refine aM.out.mono ?_;rintro e m ⟨rfl,j⟩;have E:=fQ (u.out.trans (j.mono u.out.size));clear j;go_wp2;go_ret2;unfold jX;rw[H.out,nV,if_neg (by decide),if_neg (by decide),if_neg (by decide),if_neg (by decide),if_pos rfl,P.out];exact⟨rfl,E.out⟩
theorem dWu(op:Int)(A:Option Addr)(n e:Nat)(l:List Nat)(w:By)(h1 : -9223372036854775808<=op)(h2:op<=9223372036854775807)(hs:Src w A n (u64V l))(h:All64 l)(i:Tabs w):
  BX fZ 94 #[.int .i64 op,.slice A n e] w (jX (oQ op l) w):=by
 cases hg:fW op with
 | none=>exact dXw op A n e l w h1 h2 hg
 | some g=>
  obtain⟨a,b,c,d⟩:=g;by_cases f:(fY op).length=n
  ·exact dXx op a b c d A n e l w h1 h2 hg hs h i f
  ·exact dWt op a b c d A n e l w h1 h2 hg (by have:=hs.1;simpa[u64V]using this) f
def yQ(z:Int):Prop:=0<=z/\z<18446744073709551616
def In32(z:Int):Prop:=0<=z/\z<4294967296
theorem In32.fQi{z:Int}(h:In32 z):yQ z:=⟨h.1,by have:=h.2;omega⟩
theorem aVd(b:Bool):In32 (b01 b):=by cases b <;> simp[b01,In32]
theorem aQo(z:Int):yQ (IntKind.u64.wrap z):=by unfold yQ;rw[IntKind.wrap_u64];omega
theorem bZj(z:Int):In32 (z % 4294967296):=by unfold In32;omega
theorem aJv(o:BinOp)(x y:Int):yQ (bits o .u64 x y):=by
 have h:∃ z,bits o .u64 x y=IntKind.u64.wrap z:=⟨_,rfl⟩;obtain⟨z,a⟩:=h;rw[a];exact aQo z
theorem dZs(a b by_:Nat)(x:Int)(ha:a<18446744073709551616)(k:Nat):yQ ((nK .u64 64 a b by_ x).getD k 0):=by
 have h1:(a:Int) / 2 ^ by_=((a / 2 ^ by_:Nat):Int):=(by simp);have h2:=Bz a (2 ^ by_);have e:0<=(a:Int) / 2 ^ by_:=Int.ediv_nonneg (by omega) (Int.le_of_lt (Int.pow_pos (by omega)));have c:=fun o x y=>aJv o x y;have d:yQ 0:=⟨by omega,by omega⟩;unfold nK
 match k with
 | 0=>exact aQo _
 | 1=>exact aQo _
 | 2=>exact aQo _
 | 3=>exact d
 | 4=>exact d
 | 5=>exact d
 | 6=>exact d
 | 7=>simp only[AQ,AX];exact c _ _ _
 | 8=>simp only[AQ,AX];exact c _ _ _
 | 9=>simp only[AQ,AX];exact c _ _ _
 | 10=>exact aQo _
 | 11=>exact aQo _
 | 12=>exact(show yQ ((a:Int) / 2 ^ by_)from⟨e,by rw[h1];omega⟩)
 | 13=>simp only[AQ,AX];exact c _ _ _
 | 14=>simp only[AQ,AX];exact c _ _ _
 | k+15=>exact d
theorem dZt(k:Int)(a b:Nat)(x y:Int)(ha:a<18446744073709551616):yQ (hJ 18446744073709551616 (-9223372036854775808) k a b x y).1:=by
 have h1:(a:Int) / b=((a / b:Nat):Int):=(by simp);have h2:=Bz a b;have h5:0<=(a:Int) / b:=Int.ediv_nonneg (by omega) (by omega);have h3:(a:Int) % b=((a % b:Nat):Int):=(by simp);have h4:=Nat.mod_le a b;unfold hJ yQ
 repeat' split
 all_goals (simp only;omega)
theorem bYx(M least k:Int)(a b:Nat)(x y:Int):(hJ M least k a b x y).2=0\/(hJ M least k a b x y).2=33\/(hJ M least k a b x y).2=34:=by
 unfold hJ
 repeat' split
 all_goals simp
theorem bYy(c d k:Int)(a b:Nat)(hd:d=126\/d=127)(ha:a<18446744073709551616)(i:d=127->a<4294967296):
  yQ (gK c d k a b).1/\(c=1->In32 (gK c d k a b).1)/\(d=127->In32 (gK c d k a b).1)/\((gK c d k a b).2=0\/((gK c d k a b).2≠1/\c≠1/\3<=k/\k<=6)):=by
 have key:∀ z:Int×Int,z.2=0\/z.2=33\/z.2=34->z.2=0\/z.2≠1:=fun z h=>by omega
 rcases hd with rfl | rfl
 ·unfold gK;rw[if_pos rfl];by_cases hc:c=1
  ·rw[if_pos hc];exact⟨(aVd _).fQi,fun _=>aVd _,fun h=>absurd h (by decide),.inl rfl⟩
  ·rw[if_neg hc];by_cases e:3<=k/\k<=6
   ·rw[if_pos e];refine⟨dZt _ _ _ _ _ ha,fun h=>absurd h hc,fun h=>absurd h (by decide),?_⟩;rcases key _ (bYx 18446744073709551616 (-9223372036854775808) (k - 3) a b (wrap64 a) (wrap64 b))with h | h
    ·exact .inl h
    ·exact .inr ⟨h,hc,e.1,e.2⟩
   ·rw[if_neg e];exact⟨dZs _ _ _ _ ha _,fun h=>absurd h hc,fun h=>absurd h (by decide),.inl rfl⟩
 ·have g:=i rfl;unfold gK;rw[if_neg (by decide)];by_cases hc:c=1
  ·rw[if_pos hc];exact⟨(aVd _).fQi,fun _=>aVd _,fun _=>aVd _,.inl rfl⟩
  ·rw[if_neg hc];by_cases e:3<=k/\k<=6
   ·rw[if_pos e];have f:In32 _:=bKx (k - 3) a b (wrap32 a) (wrap32 b) g;refine⟨f.fQi,fun h=>absurd h hc,fun _=>f,?_⟩;rcases key _ (bYx 4294967296 (-2147483648) (k - 3) a b (wrap32 a) (wrap32 b))with h | h
    ·exact .inl h
    ·exact .inr ⟨h,hc,e.1,e.2⟩
   ·rw[if_neg e];have f:In32 _:=bKy a b (b % 32) (wrap32 a) g k.toNat;exact⟨f.fQi,fun h=>absurd h hc,fun _=>f,.inl rfl⟩
theorem zV(z:Nat):iX 126 z=true:=by simp[iX]
theorem zW{z:Nat}(h:z<4294967296):iX 127 z=true:=by simp[iX,h]
theorem eZf(k:Int)(x:Nat)(hx:x<18446744073709551616):yQ (aKm k x):=by
 unfold aKm
 split
 ·exact aQo _
 ·exact⟨by omega,by omega⟩
theorem eZg(k out:Int)(x:Nat):yQ (sX k out x)/\(out=127->In32 (sX k out x)):=by
 unfold sX
 split
 ·exact⟨(bZj _).fQi,fun _=>bZj _⟩
 ·exact⟨aQo _,fun h=>absurd h (by assumption)⟩
theorem aYa(h:All64 l)(i:Nat):l.getD i 0<18446744073709551616:=by
 rw[Az]
 cases hx:l[i]? with
 | none=>simp
 | some x=>exact h x (Av hx)
theorem eZh{d:Int}(h:l.all (iX d)=true)(i:Nat)(hd:d=127):l.getD i 0<4294967296:=by
 subst hd;rw[Az]
 cases a:l[i]? with
 | none=>simp
 | some x=>
  have:=List.all_eq_true.1 h x (Av a)
  simpa[iX]using this
theorem cKc{op a b c d:Int}(hg:fW op=some (a,b,c,d))(h:All64 l)(hf:l.all (iX d)=true):yQ (nV c d (op - a) (lY op) l).1:=by
 obtain⟨hc,hd,_,hle,ae,_,_⟩:=aQr hg;obtain⟨r0,r1,j,r3,r4,r5,r6⟩:=cXx hg;have e:=aYa h 0;have f:=eZh (i:=0) hf;rcases hc with rfl | rfl | rfl | rfl | rfl | rfl | rfl
 ·rw[nV,if_pos rfl];exact(aVd _).fQi
 ·rw[nV,if_neg (by decide),if_neg (by decide),if_neg (by decide),if_neg (by decide),if_neg (by decide)];exact(bYy 1 d (op - a) (l.getD 0 0) (l.getD 1 0) hd e f).1
 ·rw[nV,if_neg (by decide),if_pos rfl]
  have g:=@bJk (if d=126 then 64 else 32) (l.getD 0 0) (op - a).toNat (by
   rcases hd with rfl | rfl
   ·exact .inl ⟨rfl,e⟩
   ·exact .inr ⟨rfl,f rfl⟩) (by have:=j rfl;omega)
  exact⟨g.1,by have:=g.2;omega⟩
 ·rw[nV,if_neg (by decide),if_neg (by decide),if_neg (by decide),if_neg (by decide),if_neg (by decide)];exact(bYy 3 d (op - a) (l.getD 0 0) (l.getD 1 0) hd e f).1
 ·rw[nV,if_neg (by decide),if_neg (by decide),if_pos rfl];exact(bZj _).fQi
 ·rw[nV,if_neg (by decide),if_neg (by decide),if_neg (by decide),if_pos rfl];exact eZf _ _ e
 ·rw[nV,if_neg (by decide),if_neg (by decide),if_neg (by decide),if_neg (by decide),if_pos rfl];exact(eZg (op - a) (lY op) (l.getD 0 0)).1
structure StOk (e:EnvD) (s:StD):Prop where
 memB:AllB s.mem
 memL:(s.mem.length:Int)<=s.most
 most:s.most<=4096
 glen:s.globals.length=e.globals.length
 g64:All64 s.globals
 l64:All64 s.log
 i64:All64 s.input
 ilen:s.input.length<=100000
 fuel:s.fuel<=1024
theorem StOk.fQj{e:EnvD}{s:StD}(h:StOk e s):s.mem.length<=4096:=by have:=h.memL;have:=h.most;omega
theorem nW:All64 []:=fun x a=>by simp at a
theorem bKj{b:List Nat}(ha:All64 a)(c:All64 b):All64 (a++b):=fun x d=>by
 rcases List.mem_append.1 d with h | h
 ·exact ha x h
 ·exact c x h
theorem aWt(h:n<18446744073709551616):All64 [n]:=fun x a=>by rw[List.mem_singleton.1 a];exact h
theorem aVs(h:All64 l)(k:Nat):All64 (l.take k):=fun x a=>h x (Ah a)
theorem aZx(h:All64 l)(k:Nat):All64 (l.drop k):=fun x a=>h x (Ai a)
theorem bZb(h:All64 l)(k n:Nat)(hn:n<18446744073709551616):All64 (l.set k n):=fun x a=>by
 rcases List.mem_or_eq_of_mem_set a with h1 | h1
 ·exact h x h1
 ·omega
theorem oV:∀ (ks:List Int) (l:List Nat),All64 l->All64 (lowL ks l)
 | [],l,_=>by cases l <;> exact nW
 | t :: ks,[],_=>nW
 | t :: ks,x :: l,h=>fun y a=>by
  rcases List.mem_cons.1 a with rfl | a
  ·have:=h x (Bx ..);unfold oJ
   split <;> omega
  ·exact oV ks l (fun z b=>h z (Bj _ b)) y a
theorem yY:∀ (os:List Int) (a V:List Nat),All64 a->All64 V->All64 (putV os a V)
 | [],a,V,_,h=>by cases a <;> exact h
 | o :: os,[],V,_,h=>h
 | o :: os,n :: a,V,hn,h=>yY os a _ (fun x b=>hn x (Bj _ b)) (bZb h _ _ (hn n (Bx ..)))
theorem bKk(n:Nat):All64 (Ag n 0):=fun x a=>by rw[List.eq_of_mem_replicate a];omega
theorem aKl(lost:Nat)(h:All64 V):All64 (zeroV lost V):=bKj (bKk _) (aZx h _)
theorem xQ(r:RowD)(h:All64 a):All64 (initV r a):=yY _ _ _ h (bKk _)
theorem aVt(h:All64 V)(l:List Int):All64 (getV V l):=fun x a=>by
 obtain⟨p,_,rfl⟩:=List.mem_map.1 a;exact aYa h _
theorem uX(e:EnvD)(r:RowD)(c:CodeD)(h:All64 V):All64 (argV e r c V):=oV _ _ (aVt h _)
theorem dQx(k:Int)(a:Nat)(b:Bool){q:Nat}(h:q<18446744073709551616):yQ (uQ k a b q):=by
 have h1:yQ (if b then sxV a (q:Int)else(q:Int)):=by
  split
  ·exact aQo _
  ·exact⟨by omega,by omega⟩
 unfold uQ aZr
 split
 ·exact(bZj _).fQi
 ·exact h1
theorem aKf{m:List Nat}(h:AllB m)(op:Int)(a o:Nat):yQ (mW m op a o).1:=by
 have b:yQ 0:=⟨by omega,by omega⟩;unfold mW
 cases c:acc op with
 | none=>exact b
 | some x=>
  obtain⟨k,wd,st,d⟩:=x;simp only
  split
  ·exact b
  ·split
   ·have hw:=(lZ c).2.1;refine dQx k _ d ?_;have h2:=aWr ((m.drop (a+o)).take wd.toNat) (fun x e=>h x (Ai (Ah e)))
    have f:((m.drop (a+o)).take wd.toNat).length<=8:=by
     rw[List.length_take];omega
    exact Nat.lt_of_lt_of_le h2 (Nat.pow_le_pow_right (n:=256) (by omega) f)
   ·exact b
theorem aWu(op:Int)(h:All64 l):yQ (oQ op l).1:=by
 have e:yQ 0:=⟨by omega,by omega⟩;unfold oQ
 cases hg:fW op with
 | none=>exact e
 | some g=>
  obtain⟨a,b,c,d⟩:=g;simp only
  split
  ·rename_i h2;exact cKc hg h h2.2
  ·exact e
theorem aQw{z:Int}(h:yQ z):z.toNat<18446744073709551616/\((z.toNat:Nat):Int)=z:=by
 have h1:=h.1;have h2:=h.2;omega
theorem aJr{e:EnvD}{outs:List Int}{s:StD}(hs:StOk e s)(ha:All64 a)(hn:n<18446744073709551616):StOk e (hostV n outs a s).2.2/\All64 (hostV n outs a s).1:=by
 have c:All64 (s.log++n :: a):=bKj hs.l64 (fun x b=>by
  rcases List.mem_cons.1 b with rfl | b
  ·exact hn
  ·exact ha x b)
 unfold hostV
 split
 ·exact⟨⟨hs.memB,hs.memL,hs.most,hs.glen,hs.g64,c,aZx hs.i64 _,by show(s.input.drop _).length<=_;rw[Ac];have:=hs.ilen;omega,hs.fuel⟩,oV _ _ (aVs hs.i64 _)⟩
 ·exact⟨⟨hs.memB,hs.memL,hs.most,hs.glen,hs.g64,c,nW,AK _,hs.fuel⟩,nW⟩
theorem bJh{e:EnvD}{c:CodeD}{s:StD}(hs:StOk e s)(ha:All64 a)(hn:c.n<18446744073709551616):StOk e (jZ c a s).2.2/\(jZ c a s).1<18446744073709551616:=by
 have f:=aYa ha 0;have g1:=aYa ha 1;have b:(0:Nat)<18446744073709551616:=(by omega);unfold jZ
 split;· exact⟨hs,hn⟩
 split;· exact⟨hs,f⟩
 split
 ·split
  ·exact⟨hs,b⟩
  ·exact⟨⟨hs.memB,hs.memL,hs.most,hs.glen,hs.g64,hs.l64,hs.i64,hs.ilen,by have:=hs.fuel;show s.fuel - 1<=_;omega⟩,b⟩
 split
 ·refine⟨hs,?_⟩;show(if a.getD 2 0=0 then a.getD 1 0 else a.getD 0 0)<_
  split <;> assumption
 split;· exact⟨hs,aYa hs.g64 _⟩
 split
 ·exact⟨⟨hs.memB,hs.memL,hs.most,(Bk ..).trans hs.glen,bZb hs.g64 _ _ f,hs.l64,hs.i64,hs.ilen,hs.fuel⟩,b⟩
 split;· exact⟨hs,b⟩
 split
 ·rename_i ad
  split
  ·refine⟨⟨?_,?_,hs.most,hs.glen,hs.g64,hs.l64,hs.i64,hs.ilen,hs.fuel⟩,b⟩
   ·show AllB (kV _ _ _ _ _);rename_i d;unfold kV;rw[if_pos d];exact aJq hs.memB _ _ _
   ·show((kV _ _ _ _ _).length:Int)<=s.most;rename_i d;have:=hs.memL;unfold kV;rw[if_pos d,aQv];exact this
  ·exact⟨hs,b⟩
 ·split
  ·exact⟨hs,(aQw (aKf hs.memB _ _ _)).1⟩
  ·exact⟨hs,b⟩
 ·have hm:=hs.fQj
  split
  ·refine⟨hs,?_⟩;show s.mem.length / 256<_;omega
  split
  ·refine⟨⟨aWs hs.memB _ _,?_,hs.most,hs.glen,hs.g64,hs.l64,hs.i64,hs.ilen,hs.fuel⟩,?_⟩
   ·show((kY _ _ _).length:Int)<=s.most;have:=hs.memL;unfold kY
    split
    ·rename_i g;unfold wJ at g;simp only[decide_eq_true_eq]at g;rw[Ab,AZ];omega
    ·exact this
   ·show qK _ _ _<_;unfold qK
    split <;> omega
  ·exact⟨hs,(aQw (aWu _ ha)).1⟩
theorem aKx{e:EnvD}{c:CodeD}{s:StD}(hs:StOk e s)(ha:All64 a)(hn:c.n<18446744073709551616):(∀ l s',actV e c k a s = .vals l s'->StOk e s'/\All64 l)/\(∀ x s',actV e c k a s = .trap x s'->StOk e s'):=by
 constructor
 ·intro l s' h;obtain⟨_,_,_,_,_,hv⟩:=uZ h;rcases hv with⟨_,_,b⟩ | ⟨_,rfl,_,rfl⟩
  ·have:=aJr (n:=c.n) (outs:=(e.sigs.getD c.n ⟨[],[]⟩).out) hs ha hn;rw[b]at this;exact this
  ·have:=bJh hs ha hn (c:=c);exact⟨this.1,aWt this.2⟩
 ·intro x s' h;unfold actV at h;simp only at h
  repeat' split at h
  all_goals first
   | (injection h with h1 h2;subst h2;first | exact hs | exact(aJr hs ha hn).1 | exact(bJh hs ha hn).1)
   | cases h
theorem Ev.ok{p:RowsD}{r:RowD}{s:StD}{R:ResD}(f:∀ (i:Nat) q,p.fns[i]? = Ay q->∀ c∈q.code,c.n<18446744073709551616)(h:Ev p lost d r k V s R):(∀ c∈r.code,c.n<18446744073709551616)->StOk p.env s->All64 V->StOk p.env R.s/\All64 R.out:=by
 induction h with
 | ret hc ha=>
  intro b hs a;obtain⟨_,rfl⟩:=aJo ha;exact⟨hs,uX _ _ _ a⟩
 | trap hc ha=>
  intro b hs a;exact⟨(aKx hs (uX _ _ _ a) (b _ (Av hc))).2 _ _ ha,nW⟩
 | go hc ha hn e=>exact fun b hs a=>e b hs a
 | vals hc ha hn e=>
  intro b hs a;have:=(aKx hs (uX _ _ _ a) (b _ (Av hc))).1 _ _ ha;exact e b this.1 (yY _ _ _ this.2 a)
 | call hc ha hd hq hg h1 he h2 ih1 ih2=>
  intro b hs a;have:=ih1 (f _ _ hq) hs (xQ _ (oV _ _ (uX _ _ _ a)));exact ih2 b this.1 (yY _ _ _ this.2 (aKl _ a))
 | callT hc ha hd hq hg h1 he ih1=>
  intro b hs a;have:=ih1 (f _ _ hq) hs (xQ _ (oV _ _ (uX _ _ _ a)));exact⟨this.1,nW⟩
 | deep hc ha hd=>exact fun b hs a=>⟨hs,nW⟩
structure RawS where
 mem:List Nat
 most:Int
 globals:List Nat
 fuel:Int
 input:List Nat
 log:List Nat
def StV(w:By)(v:BJ)(s:RawS):Prop:=∃ a g i l,v = .agg #[a,.int .i64 s.most,g,.int .i64 s.fuel,i,l]/\BR w a s.mem/\UR w g s.globals/\UR w i s.input/\UR w l s.log
theorem StV.below{w w':By}{B:Nat}{v:BJ}{s:RawS}(h:StV w v s)(b:BQ B w w')(c:w.heap.size<=B):StV w' v s:=by
 obtain⟨a,g,i,l,e,h1,h2,d,f⟩:=h;exact⟨a,g,i,l,e,h1.below b c,h2.below b c,d.below b c,f.below b c⟩
def RawS.of(s:StD):RawS:=⟨s.mem,s.most,s.globals,s.fuel,s.input,s.log⟩
theorem BR.shape{v:BJ}(h:BR w v l):∃ A c,v = .slice A l.length c:=by
 obtain⟨A,c,e,_⟩:=h;exact⟨A,c,e⟩
theorem BR.len{A:Option Addr}{c:Nat}(h:BR w (.slice A n c) l):n=l.length/\Src w A n (bys l)/\n<=c/\(A=none->c=0)/\(n<=140737488355328/\c<=9223372036854775807)/\AllB l:=by
 obtain⟨A',c',e,r⟩:=h;injection e with a e2 b;subst a;subst e2;subst b;exact⟨rfl,r⟩
theorem rY(w:By)(a b:Obj):BQ w.heap.size w ((w.alloc a).alloc b):=((Ak _ _).alloc (Aj _) _).alloc (by simp) _
theorem iZ{g:Nat}{e:TypeId}{a b c d f h:BJ}(k:Blk w g e #[a,b,c,d,f,h]):
  w.cell? ⟨g,0,none⟩=some a/\w.cell? ⟨g,1,none⟩=some b/\w.cell? ⟨g,2,none⟩=some c/\w.cell? ⟨g,3,none⟩=some d/\w.cell? ⟨g,4,none⟩=some f/\w.cell? ⟨g,5,none⟩=some h:=
 ⟨by simpa using k.cell 0,by simpa using k.cell 1,by simpa using k.cell 2,by simpa using k.cell 3,by simpa using k.cell 4,by simpa using k.cell 5⟩
theorem dXj(v u:BJ)(x y:List Nat)(w:By)(ha:BR w v x)(a:BR w u y):BX fZ 40 #[v,u] w fun e w'=>e = .returned (.bool (decide (x=y)))/\w=w':=by
 obtain⟨A,c,rfl⟩:=ha.shape;obtain⟨B,d,rfl⟩:=a.shape;obtain⟨_,b,_,_,_,f⟩:=ha.len;obtain⟨_,g,_,_,_,h⟩:=a.len;have h1:=bVy (P:=fZ) w 31 9 5 underlying31 underlying5 underlying9 A x.length c x b f;have h2:=bVy (P:=fZ) w 31 9 5 underlying31 underlying5 underlying9 B y.length d y g h;have i:=fQ (dYp f h);clear ha a b g;go_in;go_wp2;go_ret;rw[<-i.out];exact⟨rfl,rfl⟩
theorem yJ(va vb:BJ)(s:RawS)(w:By)(h1:StV w va s)(h2:StV w vb s):BX fZ 17 #[va,vb] w fun en w'=>en = .returned (.bool true)/\BQ w.heap.size w w':=by
 obtain⟨a,g,i,l,rfl,f,h,o,p⟩:=h1;obtain⟨b,k,j,m,rfl,q,r,t,u⟩:=h2;have d:=fQ (rY w (.cells #[a,.int .i64 s.most,g,.int .i64 s.fuel,i,l] 33) (.cells #[b,.int .i64 s.most,k,.int .i64 s.fuel,j,m] 33));have v:=fQ (fun(w':By) (c:BQ w.heap.size w w')=>f.below c (Aj _));have x:=fQ (fun(w':By) (c:BQ w.heap.size w w')=>h.below c (Aj _));have y:=fQ (fun(w':By) (c:BQ w.heap.size w w')=>o.below c (Aj _));have z:=fQ (fun(w':By) (c:BQ w.heap.size w w')=>p.below c (Aj _));have A:=fQ (fun(w':By) (c:BQ w.heap.size w w')=>q.below c (Aj _));have B:=fQ (fun(w':By) (c:BQ w.heap.size w w')=>r.below c (Aj _));have C:=fQ (fun(w':By) (c:BQ w.heap.size w w')=>t.below c (Aj _));have D:=fQ (fun(w':By) (c:BQ w.heap.size w w')=>u.below c (Aj _));clear f h o p q r t u;have e:=fQ (fun n:Nat=>fV d.out n);go_in;go_wp2_with fail;refine(dXj _ _ _ _ _ (v.out _ d.out) (A.out _ d.out)).mono ?_;rintro en w' ⟨rfl,rfl⟩;rw[decide_eq_true (rfl:s.mem=s.mem)];go_wp2_with fail;refine(aQe _ _ _ _ _ (x.out _ d.out) (B.out _ d.out)).mono ?_;rintro en w' ⟨rfl,n1,rfl⟩;rw[decide_eq_true (rfl:s.globals=s.globals)];go_wp2_with fail;refine(aQe _ _ _ _ _ (y.out _ (e.out _)) (C.out _ (e.out _))).mono ?_;rintro en w' ⟨rfl,n2,rfl⟩;rw[decide_eq_true (rfl:s.input=s.input)];go_wp2_with fail;refine(aQe _ _ _ _ _ (z.out _ (e.out _)) (D.out _ (e.out _))).mono ?_;rintro en w' ⟨rfl,n3,rfl⟩;rw[decide_eq_true (rfl:s.log=s.log)];go_wp2;go_ret;exact⟨rfl,e.out _⟩
structure HoldsP (ks:List Int) (m:Bool) (s:RawS):Prop where
 pg:s.mem.length % 256=0
 le:(s.mem.length:Int)<=s.most
 mx:s.most<=4096
 no:m=false->s.most=0
 gl:s.globals.length=ks.length
 f0:0<=s.fuel
 f1:s.fuel<=1024
 il:s.input.length<=4096
 ll:s.log.length<=4096
 ft:∀ (k:Nat) (t:Int) (n:Nat),ks[k]? = some t->s.globals[k]? = some n->fitsB t n=true
def GivP(ks:List Int)(l:List Nat):Prop:=ks.length=l.length/\∀ (k:Nat) (t:Int) (n:Nat),ks[k]? = some t->l[k]? = some n->fitsB t n=true
def aKw(Q:Prop)(w:By)(en:Ending)(w':By):Prop:=∃ b:Bool,en = .returned (.bool b)/\(b=true↔Q)/\BQ w.heap.size w w'
theorem dQu(vk vl:BJ)(ks:List Int)(l:List Nat)(w:By)(c:IR w vk ks)(d:UR w vl l)(A:ks.length<=100000):BX fZ 34 #[vk,vl] w (aKw (GivP ks l) w):=by
 obtain⟨A1,c1,rfl⟩:=c.shape;obtain⟨A2,c2,rfl⟩:=d.shape;have q:=fQ c;have r:=fQ d;have B:=d.len.2.2.2.2.1.1;clear c d;by_cases hlen:ks.length=l.length
 ·obtain⟨n,hn⟩:=fX l.length;have e:ks.length=n:=(by omega);have s:=fQ hn;have f:=fQ e;rw[hn]at r B;rw[e]at q A;rw[hn,e];have C:((n:Int) != (n:Int))=false:=(by simp);clear hn e hlen;go_in;go_wp2;go_loopw [5] (fun i wr=>∃ k:Nat,k<=n/\i = .int .i64 k/\Hid (BQ w.heap.size w wr/\∀ (j:Nat) (t:Int) (n:Nat),j<k->ks[j]? = some t->l[j]? = some n->fitsB t n=true)) (fun i _=>n - (intOf i).toNat)
  case atStart=>exact⟨0,by omega,rfl,fQ ⟨Ak _ _,fun j t n h=>by omega⟩⟩
  case round=>
   obtain⟨k,c,rfl,IM⟩:=hrel;by_cases u:k<n
   ·have D:decide ((k:Int)<n)=true:=(by simp;omega);have t2:(k:Int)<n:=(by omega);obtain⟨x,g⟩:∃ x,ks[k]? = some x:=⟨_,Ax (by rw[f.out];exact u)⟩;obtain⟨y,p⟩:∃ y,l[k]? = some y:=⟨_,Ax (by rw[s.out];exact u)⟩;obtain⟨b,o,rfl,hb,hc⟩:=(q.out.below IM.out.1 (Aj _)).cell g;obtain⟨b2,o2,rfl,af,ag,_⟩:=(r.out.below IM.out.1 (Aj _)).cell p;have v:=fQ g;have z:=fQ p;clear g p;cases hf:fitsB x y
    ·have a:=fQ hf;clear hf;go_wp2_with fail;go_quiet ((go_at_call 53;exact AV ((aQx x y _).mono fun _ _ ⟨h1,h2⟩=>⟨h1.trans (by rw[a.out]),h2.symm⟩)));go_wp2;go_ret;exact⟨false,rfl,⟨fun h=>(by cases h),fun h=>(by have:=h.2 k x y v.out z.out;rw[a.out]at this;cases this)⟩,fV IM.out.1 _⟩
    ·have a:=fQ hf;clear hf;go_wp2_with fail;go_quiet ((go_at_call 53;exact AV ((aQx x y _).mono fun _ _ ⟨h1,h2⟩=>⟨h1.trans (by rw[a.out]),h2.symm⟩)));go_wp2;refine⟨⟨k+1,by omega,by simp,fQ ⟨fV IM.out.1 _,fun j t n hj h1 h2=>?_⟩⟩,by simp[intOf];omega⟩;rcases Bw j k with h | h
     ·exact IM.out.2 j t n h h1 h2
     ·obtain rfl:j=k:=(by omega);rw[v.out]at h1;rw[z.out]at h2;cases h1;cases h2;exact a.out
   ·have D:decide ((k:Int)<n)=false:=(by simp;omega);go_wp2;go_ret;exact⟨true,rfl,⟨fun _=>⟨f.out.trans s.out.symm,fun j t m h1 h2=>IM.out.2 j t m (by have:=(List.getElem?_eq_some_iff.1 h1).1;have:=f.out;omega) h1 h2⟩,fun _=>rfl⟩,IM.out.1⟩
 ·have C:((ks.length:Int) != (l.length:Int))=true:=(by simp;omega);have E:=fQ hlen;clear hlen;go_in;go_wp2;go_ret;exact⟨false,rfl,⟨fun h=>(by cases h),fun h=>absurd h.1 E.out⟩,Ak _ _⟩
theorem dQv(vk vs:BJ)(ks:List Int)(m:Bool)(s:RawS)(w:By)(z:IR w vk ks)(hs:StV w vs s)(al:ks.length<=100000):BX fZ 85 #[vk,.bool m,vs] w (aKw (HoldsP ks m s) w):=by
 obtain⟨A0,c0,rfl⟩:=z.shape;obtain⟨a,g,i,l,rfl,h1,h2,L,M⟩:=hs;obtain⟨B,c1,rfl⟩:=h1.shape;obtain⟨C,D,rfl⟩:=h2.shape;obtain⟨E,F,rfl⟩:=L.shape;obtain⟨G,H,rfl⟩:=M.shape;have z1:=h1.len.2.2.2.2.1;have z2:=h2.len.2.2.2.2.1;have z3:=L.len.2.2.2.2.1;have z4:=M.len.2.2.2.2.1;obtain⟨Y,N⟩:∃ n,ks.length=n:=⟨_,rfl⟩;obtain⟨n1,O⟩:∃ n,s.mem.length=n:=⟨_,rfl⟩;obtain⟨n2,P⟩:∃ n,s.globals.length=n:=⟨_,rfl⟩;obtain⟨q,Q⟩:∃ n,s.input.length=n:=⟨_,rfl⟩;obtain⟨r,R⟩:∃ n,s.log.length=n:=⟨_,rfl⟩;obtain⟨c,S⟩:∃ x,s.most=x:=⟨_,rfl⟩;obtain⟨f,T⟩:∃ x,s.fuel=x:=⟨_,rfl⟩;rw[O]at z1 ⊢;rw[P]at h2 z2 ⊢;rw[Q]at z3 ⊢;rw[R]at z4 ⊢;rw[N]at z al ⊢;rw[S,T];have HK:=fQ z;have H2:=fQ h2;have I:=fQ N;have J:=fQ O;have U:=fQ P;have Z:=fQ Q;have N4:=fQ R;have v:=fQ S;have K:=fQ T;have HB:=fQ ((Ak w.heap.size w).alloc (Aj _) (.cells #[.slice B n1 c1,.int .i64 c,.slice C n2 D,.int .i64 f,.slice E q F,.slice G r H] 33));have KB:=fQ (Blk.new w 33 #[.slice B n1 c1,.int .i64 c,.slice C n2 D,.int .i64 f,.slice E q F,.slice G r H]);have p:=fQ (fun h:¬HoldsP ks m s=>show aKw (HoldsP ks m s) w (.returned (.bool false)) (w.alloc (.cells #[.slice B n1 c1,.int .i64 c,.slice C n2 D,.int .i64 f,.slice E q F,.slice G r H] 33))from⟨false,rfl,⟨fun e=>(by cases e),fun e=>absurd e h⟩,HB.out⟩);clear h1 h2 L M z N O P Q R S T;by_cases b1:n1 % 256=0
 case neg=>
  have q1:((n1:Int) % 256 != 0)=true:=(by simp;omega);go_in;go_wp2;go_ret
  exact p.out fun h=>by have:=h.pg;rw[J.out]at this;omega
 have q1:((n1:Int) % 256 != 0)=false:=(by simp;omega);by_cases b2:(n1:Int)<=c
 case neg=>
  have q2:decide (c<(n1:Int))=true:=(by simp;omega);go_in;go_wp2;go_ret
  exact p.out fun h=>by have:=h.le;rw[J.out,v.out]at this;omega
 have q2:decide (c<(n1:Int))=false:=(by simp;omega);by_cases b3:c<=4096
 case neg=>
  have q3:decide (4096<c)=true:=(by simp;omega);go_in;go_wp2;go_ret
  exact p.out fun h=>by have:=h.mx;rw[v.out]at this;omega
 have q3:decide (4096<c)=false:=(by simp;omega);by_cases u:m=false/\c≠0
 ·obtain⟨rfl,u⟩:=u;have d:(c != 0)=true:=(by simpa using u);have an:=fQ u;clear u;go_in;go_wp2;go_ret;exact p.out fun h=>an.out (by have:=h.no rfl;rwa[v.out]at this)
 have B4:=fQ (show m=false->c=0 from fun e=>Classical.byContradiction fun h=>u ⟨e,h⟩);clear u
 have d:m=true\/(m=false/\(c != 0)=false):=by
  cases m
  ·exact .inr ⟨rfl,by have:=B4.out rfl;simp[this]⟩
  ·exact .inl rfl
 by_cases V:n2=Y
 case neg=>
  have q5:((n2:Int) != (Y:Int))=true:=(by simp;omega);have ao:=fQ V;clear V;rcases d with rfl | ⟨rfl,d⟩
  all_goals
   go_in;go_wp2;go_ret;exact p.out fun h=>ao.out (by have:=h.gl;rwa[U.out,I.out]at this)
 subst V;have q5:((n2:Int) != (n2:Int))=false:=(by simp);by_cases b6:0<=f
 case neg=>
  have q6:decide (f<0)=true:=(by simp;omega);rcases d with rfl | ⟨rfl,d⟩
  all_goals
   go_in;go_wp2;go_ret
   exact p.out fun h=>by have:=h.f0;rw[K.out]at this;omega
 have q6:decide (f<0)=false:=(by simp;omega);by_cases b7:f<=1024
 case neg=>
  have q7:decide (1024<f)=true:=(by simp;omega);rcases d with rfl | ⟨rfl,d⟩
  all_goals
   go_in;go_wp2;go_ret
   exact p.out fun h=>by have:=h.f1;rw[K.out]at this;omega
 have q7:decide (1024<f)=false:=(by simp;omega);by_cases b8:q<=4096
 case neg=>
  have q8:decide ((4096:Int)<(q:Int))=true:=(by simp;omega);rcases d with rfl | ⟨rfl,d⟩
  all_goals
   go_in;go_wp2;go_ret
   exact p.out fun h=>by have:=h.il;rw[Z.out]at this;omega
 have q8:decide ((4096:Int)<(q:Int))=false:=(by simp;omega);by_cases b9:r<=4096
 case neg=>
  have q9:decide ((4096:Int)<(r:Int))=true:=(by simp;omega);rcases d with rfl | ⟨rfl,d⟩
  all_goals
   go_in;go_wp2;go_ret
   exact p.out fun h=>by have:=h.ll;rw[N4.out]at this;omega
 have q9:decide ((4096:Int)<(r:Int))=false:=by simp;omega
 have HY:=fQ (fun(hf:∀ (k:Nat) (t:Int) (n:Nat),ks[k]? = some t->s.globals[k]? = some n->fitsB t n=true)=>show HoldsP ks m s from
  ⟨by rw[J.out];exact b1,by rw[J.out,v.out];exact b2,by rw[v.out];exact b3,fun h=>by rw[v.out];exact B4.out h,by rw[U.out,I.out],by rw[K.out];exact b6,by rw[K.out];exact b7,by rw[Z.out];exact b8,by rw[N4.out];exact b9,hf⟩)
 rcases d with rfl | ⟨rfl,d⟩
 all_goals
  go_in;go_wp2_with fail;go_loopw [7] (fun i wr=>∃ k:Nat,k<=n2/\i = .int .i64 k/\Hid (BQ w.heap.size w wr/\Blk wr w.heap.size 33 #[.slice B n1 c1,.int .i64 c,.slice C n2 D,.int .i64 f,.slice E q F,.slice G r H]/\∀ (j:Nat) (t:Int) (n:Nat),j<k->ks[j]? = some t->s.globals[j]? = some n->fitsB t n=true)) (fun i _=>n2 - (intOf i).toNat)
  case atStart=>exact⟨0,by omega,rfl,fQ ⟨HB.out,KB.out,fun j t n h=>by omega⟩⟩
  case round=>
   clear q1 q2 q3 q5 q6 q7 q8 q9;obtain⟨k,z,rfl,IM⟩:=hrel;by_cases aj:k<n2
   ·have t1:decide ((k:Int)<n2)=true:=(by simp;omega);have t2:(k:Int)<n2:=(by omega);obtain⟨x,W⟩:∃ x,ks[k]? = some x:=⟨_,Ax (by rw[I.out];exact aj)⟩;obtain⟨y,X⟩:∃ y,s.globals[k]? = some y:=⟨_,Ax (by rw[U.out];exact aj)⟩;obtain⟨b,o,rfl,hb,hc⟩:=(HK.out.below IM.out.1 (Aj _)).cell W;obtain⟨aq,o2,rfl,ar,au,_⟩:=(H2.out.below IM.out.1 (Aj _)).cell X;obtain⟨r0,r1,r2,r3,r4,r5⟩:=iZ IM.out.2.1;have yr:=IM.out.2.1.lt;have HX:=fQ W;have ak:=fQ X;clear W X;cases hf:fitsB x y
    ·have A:=fQ hf;clear hf;go_wp2_with fail;go_quiet ((go_at_call 53;exact AV ((aQx x y _).mono fun _ _ ⟨h1,h2⟩=>⟨h1.trans (by rw[A.out]),h2.symm⟩)));go_wp2;go_ret;exact⟨false,rfl,⟨fun h=>(by cases h),fun h=>(by have:=h.ft k x y HX.out ak.out;rw[A.out]at this;cases this)⟩,fV IM.out.1 _⟩
    ·have A:=fQ hf;clear hf;go_wp2_with fail;go_quiet ((go_at_call 53;exact AV ((aQx x y _).mono fun _ _ ⟨h1,h2⟩=>⟨h1.trans (by rw[A.out]),h2.symm⟩)));go_wp2;refine⟨⟨k+1,by omega,by simp,fQ ⟨fV IM.out.1 _,IM.out.2.1.drewN _,fun j t n hj h1 h2=>?_⟩⟩,by simp[intOf];omega⟩;rcases Bw j k with h | h
     ·exact IM.out.2.2 j t n h h1 h2
     ·obtain rfl:j=k:=(by omega);rw[HX.out]at h1;rw[ak.out]at h2;cases h1;cases h2;exact A.out
   ·have t1:decide ((k:Int)<n2)=false:=(by simp;omega);go_wp2;go_ret;exact⟨true,rfl,⟨fun _=>HY.out fun j t m h1 h2=>IM.out.2.2 j t m (by have:=(List.getElem?_eq_some_iff.1 h1).1;have:=I.out;omega) h1 h2,fun _=>rfl⟩,IM.out.1⟩
theorem aZb{e:EnvD}(h:envOk e=true):e.globals.length<=100000:=by
 unfold envOk lV at h;simp only[Bool.and_eq_true,decide_eq_true_eq]at h;have:=h.2.1.1;omega
def FitP(e:EnvD)(s:RawS):Prop:=envOk e=true/\HoldsP e.globals e.mem s
theorem bJg(f vs:BJ)(e:EnvD)(s:RawS)(w:By)(he:EnvV w f e)(hs:StV w vs s)(j:e.globals.length<=100000):BX fZ 52 #[f,vs] w (aKw (HoldsP e.globals e.mem s) w):=by
 obtain⟨a,b,d,rfl,_,h2,_⟩:=he;have g:=hs;obtain⟨k,l,m,n,rfl,_⟩:=hs;have c:=fQ (rY w (.cells #[a,.int .i64 e.imports,b,d,.bool e.mem] 26) (.cells #[k,.int .i64 s.most,l,.int .i64 s.fuel,m,n] 33));have o:=fQ (h2.ir.below c.out (Aj _));have p:=fQ (g.below c.out (Aj _));clear h2 g;go_in;go_wp2_with fail;refine(dQv _ _ e.globals e.mem s _ o.out p.out j).mono ?_;rintro en w1 ⟨q,rfl,h,i⟩;have H1:=fQ h;have r:=fQ (c.out.trans (i.mono c.out.size));clear h i;go_wp2;go_ret;exact⟨q,rfl,H1.out,r.out⟩
theorem dQw(m vs:BJ)(e:EnvD)(s:RawS)(w:By)(he:EnvV w m e)(hs:StV w vs s)(x:e.globals.length<=100000):BX fZ 33 #[m,vs] w (aKw (FitP e s) w):=by
 have n:=he;obtain⟨a,b,d,rfl,_⟩:=he;have o:=hs;obtain⟨f,g,i,j,rfl,_⟩:=hs;have k:=fQ (rY w (.cells #[a,.int .i64 e.imports,b,d,.bool e.mem] 26) (.cells #[f,.int .i64 s.most,g,.int .i64 s.fuel,i,j] 33));have p:=fQ (Blk.alloc (Blk.new w 26 #[a,.int .i64 e.imports,b,d,.bool e.mem]) (.cells #[f,.int .i64 s.most,g,.int .i64 s.fuel,i,j] 33));have q:=fQ (Blk.newAt (w.alloc (.cells #[a,.int .i64 e.imports,b,d,.bool e.mem] 26)) (N:=w.heap.size+1) 33 #[f,.int .i64 s.most,g,.int .i64 s.fuel,i,j] (by simp));have r:=fQ n;have y:=fQ o;clear n o;go_in;go_wp2_with fail;refine(aQq _ e _ (r.out.below k.out (Aj _))).mono ?_;rintro en w1 ⟨rfl,c⟩;have H1:=fQ (k.out.trans (c.mono k.out.size));have z:=fQ (p.out.below c p.out.lt);have A:=fQ (q.out.below c q.out.lt);clear c;cases l:envOk e
 ·go_wp2;go_ret;exact⟨false,rfl,⟨fun h=>(by cases h),fun h=>(by have:=h.1;rw[l]at this;cases this)⟩,H1.out⟩
 ·obtain⟨e0,e1,e2,e3,e4⟩:=gJ z.out;obtain⟨s0,s1,s2,s3,s4,s5⟩:=iZ A.out;have B:=fQ l;clear l;go_wp2_with fail;refine(bJg _ _ e s _ (r.out.below H1.out (Aj _)) (y.out.below H1.out (Aj _)) x).mono ?_;rintro en w2 ⟨C,rfl,t,u⟩;have v:=fQ t;have D:=fQ (H1.out.trans (u.mono H1.out.size));clear t u;go_wp2;go_ret;exact⟨C,rfl,⟨fun h=>⟨B.out,v.out.1 h⟩,fun h=>v.out.2 h.2⟩,D.out⟩
theorem aZo:∀ (os:List Int) (c V:List Nat) (k:Nat) (o:Int) (n:Nat),os[k]? = some o->c[k]? = some n->putV (os.take (k+1)) (c.take (k+1)) V=(putV (os.take k) (c.take k) V).set o.toNat n
 | [],c,V,k,o,n,h,_=>by simp at h
 | a :: os,[],V,k,o,n,_,h=>by simp at h
 | a :: os,b :: c,V,0,o,n,h,k=>by
  simp at h k;subst h;subst k;cases os <;> cases c <;> rfl
 | a :: os,b :: c,V,k+1,o,n,h,d=>by
  simp only[Bq,putV];exact aZo os c _ k o n (by simpa using h) (by simpa using d)
theorem bYf(os:List Int)(a V:List Nat)(k:Nat)(h1:os.length<=k):putV (os.take k) (a.take k) V=putV os a V:=by
 rw[Ad h1]
 induction os generalizing a V k with
 | nil=>cases a <;> cases k <;> rfl
 | cons o os b=>
  match a,k,h1 with
  | [],k+1,_=>rfl
  | n :: a,k+1,h1=>
   simp only[Bq,putV];exact b a _ k (by simpa using h1)
theorem aXc:∀ (os:List Int) (a V:List Nat),(putV os a V).length=V.length
 | [],a,V=>by cases a <;> rfl
 | o :: os,[],V=>rfl
 | o :: os,n :: a,V=>by rw[putV,aXc os a,Bk]
def aZd(i:Nat)(V:List Nat):List Nat:=Ag i 0++V.drop i
theorem bKm(V:List Nat):aZd 0 V=V:=rfl
theorem dVz(h:i<=V.length):(aZd i V).length=V.length:=by
 unfold aZd;rw[Ab,AZ,Ac];omega
theorem bKn(h:i<V.length):(aZd i V).set i 0=aZd (i+1) V:=by
 unfold aZd;rw[List.set_append_right _ _ (by simp),AZ,Nat.sub_self,List.replicate_succ',List.append_assoc]
 congr 1
 rw[List.drop_eq_getElem_cons h];rfl
theorem bKo(h:i=min lost V.length):aZd i V=zeroV lost V:=by
 unfold aZd zeroV;subst h;by_cases a:lost<=V.length
 ·rw[Nat.min_eq_left a]
 ·rw[Nat.min_eq_right (by omega),Ae (Aj _),Ae (by omega)]
theorem bKp{l:List Int}{p:Int}(h:l[k]? = some p):getV V (l.take (k+1))=getV V (l.take k) ++ [V.getD p.toNat 0]:=by
 obtain⟨h1,h2⟩:=List.getElem?_eq_some_iff.1 h;unfold getV;rw[AW h1,h2,List.map_append];rfl
inductive Did (p:RowsD) (lost d:Nat) (c:CodeD) (k:Nat) (a:List Nat) (s:StD):StD->Int->Nat->Nat->List Nat->Prop
 | vals {l:List Nat} {s':StD} (ha:actV p.env c k a s = .vals l s'):Did p lost d c k a s s' 0 0 0 l
 | trap {x:Int} {s':StD} (ha:actV p.env c k a s = .trap x s'):Did p lost d c k a s s' x 0 0 []
 | call {n:Nat} {q:RowD} {g:SigD} {R:ResD} (ha:actV p.env c k a s = .call n) (hd:d<16) (hq:p.fns[n - p.env.imports.toNat]? = Ay q) (hg:p.env.sigs[n]? = Ay g)
   (h1:Ev p lost (d+1) q 0 (initV q (lowL g.inn a)) s R):Did p lost d c k a s R.s R.e R.cnt (q.places.toNat+R.wds) R.out
 | deep {n:Nat} (ha:actV p.env c k a s = .call n) (hd:16<=d):Did p lost d c k a s s 37 0 0 []
def xW(e:EnvD)(c:CodeD):Bool:=decide (c.op=16/\¬(c.n:Int)<e.imports)
def zIf(e:EnvD)(c:CodeD)(lost:Nat)(V:List Nat):List Nat:=if xW e c=true then zeroV lost V else V
theorem dWa{e:EnvD}{c:CodeD}{s s':StD}(h:actV e c k a s = .vals l s'):xW e c=false:=by
 obtain⟨_,_,_,_,_,h1 | h1⟩:=uZ h
 ·simp[xW];exact fun _=>h1.2.1
 ·simp[xW];exact fun h2=>absurd h2 h1.1
theorem Ev.step{p:RowsD}{r:RowD}{s:StD}{R:ResD}{c:CodeD}(h:Ev p lost d r k V s R)(hc:r.code[k]? = Ay c)(h1:c.op≠273)(h2:c.op≠274)(h3:c.op≠275)(i:c.op≠276):
  ∃ (s2:StD) (e2:Int) (dc wd:Nat) (l:List Nat),Did p lost d c k (argV p.env r c V) s s2 e2 dc wd l /\
   (e2=0->∃ R2,Ev p lost d r (k+1) (putV c.outs l (zIf p.env c lost V)) s2 R2/\R=⟨R2.out,R2.s,R2.e,1+dc+R2.cnt,max wd R2.wds⟩/\(c.op=16\/c.op≠16))/\(e2≠0->R=⟨[],s2,e2,1+dc,wd⟩):=by
 cases h with
 | ret a ha=>rw[hc]at a;cases a;exact absurd (aJo ha).1 i
 | trap a ha=>rw[hc]at a;cases a;exact⟨_,_,_,_,_,.trap ha,fun b=>absurd b (aXa ha),fun _=>rfl⟩
 | go a ha hn=>rw[hc]at a;cases a;rcases aYt ha with⟨h,_⟩ | ⟨h,_⟩ | ⟨h,_⟩ <;> omega
 | @vals _ _ _ _ _ s' _ l R2 a ha hn=>
  rw[hc]at a;cases a;refine⟨_,_,_,_,_,.vals ha,fun _=>⟨R2,?_,?_,by omega⟩,fun b=>absurd rfl b⟩
  ·unfold zIf;rw[if_neg (by rw[dWa ha];decide)];exact hn
  ·simp
 | @call _ _ q _ n _ _ _ g R1 R2 a ha hd hq hg f he j=>
  rw[hc]at a;cases a;obtain⟨m,rfl,ag⟩:=rJ ha;refine⟨_,_,_,_,_,.call ha hd hq hg f,fun _=>⟨R2,?_,rfl,by omega⟩,fun b=>absurd he b⟩;unfold zIf;rw[if_pos (by simp[xW,m];omega)];exact j
 | @callT _ _ q _ n _ _ _ g R1 a ha hd hq hg f he=>
  rw[hc]at a;cases a;exact⟨_,_,_,_,_,.call ha hd hq hg f,fun b=>absurd b he,fun _=>rfl⟩
 | deep a ha hd=>rw[hc]at a;cases a;exact⟨_,_,_,_,_,.deep ha hd,fun b=>absurd b (by decide),fun _=>rfl⟩
theorem aWv{outs:List Int}{s:StD}(ha:a.length<=8):(hostV n outs a s).2.2.log.length<=s.log.length+9:=by
 unfold hostV
 split <;> (simp;omega)
theorem dWb(c:CodeD)(a:List Nat)(s:StD):(jZ c a s).2.2.log=s.log:=by
 unfold jZ
 repeat' split
 all_goals rfl
theorem aJs{e:EnvD}{c:CodeD}{s:StD}(ha:a.length<=8):(∀ l s',actV e c k a s = .vals l s'->s'.log.length<=s.log.length+9)/\(∀ x s',actV e c k a s = .trap x s'->s'.log.length<=s.log.length+9):=by
 have h1:=aWv (n:=c.n) (outs:=(e.sigs.getD c.n ⟨[],[]⟩).out) (s:=s) ha;have h2:=dWb c a s;constructor
 ·intro l s' h;obtain⟨_,_,_,_,_,hv⟩:=uZ h;rcases hv with⟨_,_,b⟩ | ⟨_,_,_,rfl⟩
  ·rw[b]at h1;exact h1
  ·rw[h2];omega
 ·intro x s' h;unfold actV at h;simp only at h
  repeat' split at h
  all_goals first
   | (injection h with h3 d;subst d;first | exact Aa _ _ | exact h1 | (rw[h2];exact Aa _ _))
   | cases h
theorem aKy:∀ (ts:List Int) (l:List Nat),(lowL ts l).length<=ts.length
 | [],l=>by cases l <;> exact Aj _
 | t :: ts,[]=>AK _
 | t :: ts,x :: l=>by simp only[lowL,List.length_cons];have:=aKy ts l;omega
theorem aYw{e:EnvD}{r:RowD}{c:CodeD}(a:CheckP e r)(b:codeOk e r c=true)(V:List Nat):(argV e r c V).length<=8:=by
 obtain⟨i,o,hf,_⟩:=iQ b;have:=(aZm a.env a.sig hf).1;unfold argV inK;rw[hf];exact Nat.le_trans (aKy _ _) this
theorem Ev.log{p:RowsD}{lost d k:Nat}{r:RowD}{V:List Nat}{s:StD}{R:ResD}(hp:ProgP p)(h:Ev p lost d r k V s R):CheckP p.env r->R.s.log.length<=s.log.length+9*R.cnt:=by
 induction h with
 | ret hc ha=>intro _;exact Aa _ _
 | trap hc ha=>
  intro a;exact(aJs (aYw a (a.code _ (Av hc)) _)).2 _ _ ha
 | go hc ha hn b=>intro a;have:=b a;dsimp only;omega
 | vals hc ha hn b=>
  intro a;have h1:=(aJs (aYw a (a.code _ (Av hc)) _)).1 _ _ ha;have:=b a;dsimp only;omega
 | call hc ha hd hq hg h1 he h2 ih1 ih2=>
  intro a;have c:=ih1 (hp.row _ _ hq).1;have a2:=ih2 a;dsimp only;omega
 | callT hc ha hd hq hg h1 he ih1=>
  intro a;have c:=ih1 (hp.row _ _ hq).1;dsimp only;omega
 | deep hc ha hd=>intro _;exact Aa _ _
theorem Did.log{p:RowsD}{lost d k:Nat}{c:CodeD}{a:List Nat}{s s2:StD}{e2:Int}{dc wd:Nat}{l:List Nat}(hp:ProgP p)(ha:a.length<=8)(h:Did p lost d c k a s s2 e2 dc wd l):s2.log.length<=s.log.length+9*(1+dc):=by
 cases h with
 | vals hv=>have:=(aJs ha).1 _ _ hv;omega
 | trap hv=>have:=(aJs ha).2 _ _ hv;omega
 | call hv hd hq hg h1=>have:=h1.log hp (hp.row _ _ hq).1;omega
 | deep hv hd=>omega
theorem Did.ok{p:RowsD}{lost d k:Nat}{c:CodeD}{a:List Nat}{s s2:StD}{e2:Int}{dc wd:Nat}{l:List Nat}(b:∀ (i:Nat) q,p.fns[i]? = Ay q->∀ c∈q.code,c.n<18446744073709551616)(hs:StOk p.env s)(ha:All64 a)(hn:c.n<18446744073709551616)(h:Did p lost d c k a s s2 e2 dc wd l):StOk p.env s2/\All64 l:=by
 cases h with
 | vals hv=>exact(aKx hs ha hn).1 _ _ hv
 | trap hv=>exact⟨(aKx hs ha hn).2 _ _ hv,nW⟩
 | call hv hd hq hg h1=>exact h1.ok b (b _ _ hq) hs (xQ _ (oV _ _ ha))
 | deep hv hd=>exact⟨hs,nW⟩
theorem eJe{p:RowsD}{r:RowD}{s:StD}{R:ResD}{c:CodeD}(h:Ev p lost d r k V s R)(hc:r.code[k]? = Ay c)(h1:c.op=276):R=⟨argV p.env r c V,s,0,1,0⟩:=
 h.one (.ret hc (by unfold actV;rw[if_pos h1]))
theorem eJf{p:RowsD}{r:RowD}{s:StD}{R:ResD}{c:CodeD}(h:Ev p lost d r k V s R)(hc:r.code[k]? = Ay c)(h1:c.op=277):R=⟨[],s,32,1,0⟩:=
 h.one (.trap hc (by unfold actV;rw[if_neg (by omega),if_pos h1]))
theorem eVx{p:RowsD}{k':Nat}{r:RowD}{s:StD}{R:ResD}{c:CodeD}(h:Ev p lost d r k V s R)(hc:r.code[k]? = Ay c)(ha:actV p.env c k (argV p.env r c V) s = .go k'):∃ R2,Ev p lost d r k' V s R2/\R=⟨R2.out,R2.s,R2.e,1+0+R2.cnt,max 0 R2.wds⟩:=by
 cases h with
 | go a b hn=>rw[hc]at a;cases a;rw[ha]at b;cases b;exact⟨_,hn,by simp⟩
 | ret a b=>rw[hc]at a;cases a;rw[ha]at b;cases b
 | trap a b=>rw[hc]at a;cases a;rw[ha]at b;cases b
 | vals a b hn=>rw[hc]at a;cases a;rw[ha]at b;cases b
 | call a b hd hq hg h1 he h2=>rw[hc]at a;cases a;rw[ha]at b;cases b
 | callT a b hd hq hg h1 he=>rw[hc]at a;cases a;rw[ha]at b;cases b
 | deep a b hd=>rw[hc]at a;cases a;rw[ha]at b;cases b
theorem dWc{e:EnvD}{c:CodeD}{s:StD}(h:c.op=273):actV e c k a s = .go (c.to.getD 0 0).toNat:=by
 unfold actV;rw[if_neg (by omega),if_neg (by omega),if_pos h]
theorem dXf{e:EnvD}{c:CodeD}{s:StD}(h:c.op=274):actV e c k a s = .go (if a.getD 0 0=0 then k+1 else(c.to.getD 0 0).toNat):=by
 unfold actV;rw[if_neg (by omega),if_neg (by omega),if_neg (by omega),if_pos h]
theorem bKq{e:EnvD}{c:CodeD}{s:StD}(h:c.op=275):actV e c k a s = .go (c.to.getD (min (a.getD 0 0) (c.to.length - 1)) 0).toNat:=by
 unfold actV;rw[if_neg (by omega),if_neg (by omega),if_neg (by omega),if_neg (by omega),if_pos h]
theorem eQh{e:EnvD}{r:RowD}{c:CodeD}(V:List Nat)(a:CheckP e r)(b:c∈r.code)(d:c.op=276):(argV e r c V).length=r.sig.out.length:=by
 obtain⟨i,o,hf,h1,_⟩:=iQ (a.code c b);have f:=hf;rw[d]at hf;have hf:(if c.n=0 then some (r.sig.out,([]:List Int))else none)=some (i,o):=hf
 split at hf
 ·injection hf with hf;injection hf with h2 _;unfold argV inK;rw[f];show(lowL i (getV V c.args)).length=_;rw[rW _ _ (by unfold getV;rw[Bv];exact h1.symm),h2];unfold getV;rw[Bv];exact h1
 ·cases hf
theorem Ev.fXc{p:RowsD}{r:RowD}{s:StD}{R:ResD}(h:Ev p lost d r k V s R)(b:CheckP p.env r)(a:R.e=0):R.out.length=r.sig.out.length:=by
 induction h with
 | ret hc ha=>
  obtain⟨f,rfl⟩:=aJo ha;exact eQh _ b (Av hc) f
 | trap hc ha=>exact absurd a (aXa ha)
 | go hc ha hn c=>exact c b a
 | vals hc ha hn c=>exact c b a
 | call hc ha hd hq hg h1 he h2 ih1 ih2=>exact ih2 b a
 | callT hc ha hd hq hg h1 he ih1=>exact absurd a he
 | deep hc ha hd=>exact absurd a (show ¬(37:Int)=0 by decide)
theorem Did.len{p:RowsD}{r:RowD}{c:CodeD}{s s2:StD}{wd:Nat}(hp:ProgP p)(b:codeOk p.env r c=true)(e:e2=0)(h:Did p lost d c k a s s2 e2 dc wd l):c.outs.length<=l.length:=by
 cases h with
 | vals hv=>exact dVj hv b
 | trap hv=>exact absurd e (aXa hv)
 | @call n q g R hv hd hq hg h1=>
  have m:=(hp.row _ _ hq).1;rw[h1.fXc m e];obtain⟨f,rfl,t⟩:=rJ hv;obtain⟨q',g',j,u,v⟩:=aVa hp f b t;rw[hq]at j;cases j;obtain⟨i,o,hf,_,w,_⟩:=iQ b;rw[f]at hf;have hf:(p.env.sigs[c.n]?).map (fun g=>(g.inn,g.out))=Ay (i,o):=hf;rw[u]at hf;cases hf;rw[w,v];exact Aj _
 | deep hv hd=>exact absurd e (by decide)
theorem Ev.wds{p:RowsD}{lost d k:Nat}{r:RowD}{V:List Nat}{s:StD}{R:ResD}(hp:ProgP p)(h:Ev p lost d r k V s R):R.wds<=4096*(16 - d):=by
 induction h with
 | ret hc ha=>exact AK _
 | trap hc ha=>exact AK _
 | go hc ha hn a=>exact a
 | vals hc ha hn a=>exact a
 | call hc ha hd hq hg h1 he h2 ih1 ih2=>
  have:=(hp.row _ _ hq).1.p2;dsimp only;omega
 | callT hc ha hd hq hg h1 he ih1=>
  have:=(hp.row _ _ hq).1.p2;dsimp only;omega
 | deep hc ha hd=>exact AK _
theorem Did.wd{p:RowsD}{lost d k:Nat}{c:CodeD}{a:List Nat}{s s2:StD}{e2:Int}{dc wd:Nat}{l:List Nat}(hp:ProgP p)(h:Did p lost d c k a s s2 e2 dc wd l):wd<=4096*(16 - d):=by
 cases h with
 | vals hv=>exact AK _
 | trap hv=>exact AK _
 | call hv hd hq hg h1=>
  have:=(hp.row _ _ hq).1.p2;have:=h1.wds hp;omega
 | deep hv hd=>exact AK _
theorem cXu{e:EnvD}{c:CodeD}:(zIf e c lost V).length=V.length:=by
 unfold zIf zeroV
 split
 ·rw[Ab,AZ,Ac];omega
 ·rfl
theorem eJg{e:EnvD}{c:CodeD}(h:All64 V):All64 (zIf e c lost V):=by
 unfold zIf
 split
 ·exact aKl _ h
 ·exact h
theorem aYx{e:EnvD}{c:CodeD}(h:(xW e c=false/\i=0)\/(xW e c=true/\i=min lost V.length)):aZd i V=zIf e c lost V:=by
 unfold zIf;rcases h with⟨h1,rfl⟩ | ⟨h1,h2⟩
 ·rw[if_neg (by rw[h1];decide)];rfl
 ·rw[if_pos h1];exact bKo h2
inductive CDid (p:RowsD) (lost d n:Nat) (g:SigD) (a:List Nat) (s:StD):StD->Int->Nat->Nat->List Nat->Prop
 | host (hi:(n:Int)<p.env.imports):CDid p lost d n g a s (hostV n g.out (lowL g.inn a) s).2.2 (hostV n g.out (lowL g.inn a) s).2.1 0 0 (hostV n g.out (lowL g.inn a) s).1
 | deep (hi:¬(n:Int)<p.env.imports) (hd:16<=d):CDid p lost d n g a s s 37 0 0 []
 | call {q:RowD} {R:ResD} (hi:¬(n:Int)<p.env.imports) (hd:d<16) (hq:p.fns[n - p.env.imports.toNat]? = Ay q) (h1:Ev p lost (d+1) q 0 (initV q (lowL g.inn a)) s R):CDid p lost d n g a s R.s R.e R.cnt (q.places.toNat+R.wds) R.out
theorem dQo{outs:List Int}{s:StD}(h:(hostV n outs a s).2.1≠0):(hostV n outs a s).1 = []:=by
 unfold hostV at h ⊢
 split
 ·rename_i h1;rw[if_pos h1]at h;exact absurd rfl h
 ·rfl
theorem Did.fXp{p:RowsD}{c:CodeD}{g:SigD}{s s2:StD}{wd:Nat}(h:Did p lost d c k a s s2 e2 dc wd l)(e:c.op=16)(hg:p.env.sigs[c.n]? = Ay g)(f:lowL g.inn a=a):CDid p lost d c.n g a s s2 e2 dc wd l:=by
 have i:p.env.sigs.getD c.n ⟨[],[]⟩=g:=by rw[Az,hg];rfl
 cases h with
 | vals ha=>
  obtain⟨_,_,_,_,_,h1 | h1⟩:=uZ ha
  ·obtain⟨_,hi,j⟩:=h1;have:=CDid.host (p:=p) (lost:=lost) (d:=d) (n:=c.n) (g:=g) (a:=a) (s:=s) hi;rw[i]at j;rw[f,j]at this;exact this
  ·exact absurd e h1.1
 | trap ha=>
  unfold actV at ha;rw[if_neg (by omega),if_neg (by omega),if_neg (by omega),if_neg (by omega),if_neg (by omega),if_pos e,i]at ha
  split at ha
  ·rename_i hi;dsimp only at ha
   split at ha
   ·cases ha
   ·rename_i o;injection ha with h1 h2;have:=CDid.host (p:=p) (lost:=lost) (d:=d) (n:=c.n) (g:=g) (a:=a) (s:=s) hi;rw[f,dQo o,h1,h2]at this;exact this
  ·cases ha
 | call ha hd hq m h1=>
  obtain⟨_,rfl,b⟩:=rJ ha;rw[hg]at m;cases m;exact .call b hd hq h1
 | deep ha hd=>
  obtain⟨_,rfl,b⟩:=rJ ha;exact .deep b hd
theorem Did.fXq{p:RowsD}{c:CodeD}{s s2:StD}{wd:Nat}(h:Did p lost d c k a s s2 e2 dc wd l)(b:c.op≠16)(h1:c.op≠273)(h2:c.op≠274)(e:c.op≠275)(f:c.op≠276)(g:c.op≠277):
  s2=(jZ c a s).2.2/\e2=(jZ c a s).2.1/\dc=0/\wd=0/\(e2=0->l = [(jZ c a s).1]):=by
 cases h with
 | vals ha=>
  obtain⟨_,_,_,_,_,hv | hv⟩:=uZ ha
  ·exact absurd hv.1 b
  ·obtain⟨_,rfl,he,rfl⟩:=hv;exact⟨rfl,he.symm,rfl,rfl,fun _=>rfl⟩
 | trap ha=>
  have i:=aXa ha;unfold actV at ha;rw[if_neg f,if_neg g,if_neg h1,if_neg h2,if_neg e,if_neg b]at ha;dsimp only at ha
  split at ha
  ·cases ha
  ·injection ha with j e2;exact⟨e2.symm,j.symm,rfl,rfl,fun h=>absurd h i⟩
 | call ha=>exact absurd (rJ ha).1 b
 | deep ha=>exact absurd (rJ ha).1 b
end Go.Proofs.YtabibkpfgmolkaaGreatDoor

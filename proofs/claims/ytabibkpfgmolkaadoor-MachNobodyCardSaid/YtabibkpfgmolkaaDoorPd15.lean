/- Lemmas for the claim, part 15. Conditions: none. -/
import Derived.Test.YtabibkpfgmolkaaDoorPd14
set_option maxRecDepth 100000
set_option maxHeartbeats 16000000
set_option linter.unusedVariables false
set_option linter.unusedSimpArgs false
open Go.Lib renaming hid→cQ
open Go.Proofs.Tryd renaming prog→cZ
open Go.RowKit
namespace Go.Proofs.YtabibkpfgmolkaaDoor
theorem aYi(w:World):StV w (.agg #[.slice none 0 0,.int .i64 0,.slice none 0 0,.int .i64 0,.slice none 0 0,.slice none 0 0]) ⟨[],0,[],0,[],[]⟩:=⟨_,_,_,_,rfl,aWz w,qQ w,qQ w,qQ w⟩
theorem cWa(w:World)(a b c:Obj):Below w.heap.size w (((w.alloc a).alloc b).alloc c):=(((Below.refl _ _).alloc (Nat.le_refl _) _).alloc (by simp) _).alloc (by simp;omega) _
theorem MachNobody_walk(p:RowsD)(y:Value)(w:World)(hv:RowsV w y p)(r:Tabs w):Calls cZ 5 #[y] w (aYg w):=by
 obtain⟨e,p2,f,p5,rfl,_,_,_,z⟩:=hv;obtain⟨g,h,rfl,_⟩:=z.len;obtain⟨nf,A⟩:∃ n,p.fns.length=n:=⟨_,rfl⟩;rw[A];have J:=cQ r;have K:=cQ (show 2<=w.heap.size from r.2.2);have k:=cQ (((Blk.new w 29 #[e,.int .i64 p.env.imports,p2,f,.bool p.env.mem,.slice g nf h]).alloc (.cells #[.pointer none] 57)).alloc (.cells #[.pointer none,.pointer (some ⟨w.heap.size+1,0,none⟩)] 36));have s:=cQ ((Blk.newAt (w.alloc (.cells #[e,.int .i64 p.env.imports,p2,f,.bool p.env.mem,.slice g nf h] 29)) (N:=w.heap.size+1) 57 #[.pointer none] (by simp)).alloc (.cells #[.pointer none,.pointer (some ⟨w.heap.size+1,0,none⟩)] 36));have l:=cQ (Blk.newAt ((w.alloc (.cells #[e,.int .i64 p.env.imports,p2,f,.bool p.env.mem,.slice g nf h] 29)).alloc (.cells #[.pointer none] 57)) (N:=w.heap.size+1+1) 36 #[.pointer none,.pointer (some ⟨w.heap.size+1,0,none⟩)] (by simp));have t:=cQ (cWa w (.cells #[e,.int .i64 p.env.imports,p2,f,.bool p.env.mem,.slice g nf h] 29) (.cells #[.pointer none] 57) (.cells #[.pointer none,.pointer (some ⟨w.heap.size+1,0,none⟩)] 36));have ug:decide ((0:Int)<=(nf:Int))=true:=(by simp);clear r z A;go_in;go_upto_region 2 with fail;obtain⟨B,C⟩:=cX (((w.alloc (.cells #[e,.int .i64 p.env.imports,p2,f,.bool p.env.mem,.slice g nf h] 29)).alloc (.cells #[.pointer none] 57)).alloc (.cells #[.pointer none,.pointer (some ⟨w.heap.size+1,0,none⟩)] 36));rw[C]at k s l t ⊢;clear C;go_loopw [4,5,6,7,8,13] (fun _ _ _ _ _ i wx=>∃ j:Nat,j<=2/\i = .int .i64 (j:Int)/\Hid (Below B.heap.size B wx)) (fun _ _ _ _ _ i _=>2 - (intOf i).toNat)
 case atStart=>exact⟨0,by omega,rfl,cQ (Below.refl _ _)⟩
 case round=>
  obtain⟨j,L,rfl,I⟩:=hrel;by_cases o:j<2
  ·as_aux_lemma=>
   have M:decide ((j:Int)<2)=true:=(by simp;omega);have t2:(j:Int)<2:=(by omega)
   obtain⟨v,ar,D⟩:∃ v,wr.cell? ⟨w.heap.size+1+1,j,none⟩=some v/\NobP v wr:=by
    have u:=l.out.below I.out l.out.lt
    match j,o with
    | 0,_=>exact⟨_,u.cell 0,.inl rfl⟩
    | 1,_=>exact⟨_,u.cell 1,.inr ⟨_,rfl,s.out.below I.out s.out.lt⟩⟩
   have yl:=(l.out.below I.out l.out.lt).lt;have E:=cQ D;have F:=cQ o;clear D o;go_wp2_with fail;refine(cJj v _ E.out).mono ?_;rintro en b ⟨rfl,a⟩;have c:=cQ (a.trans (((Below.refl b.heap.size b).alloc (Nat.le_refl _) (.cells #[.slice none 0 0,.int .i64 0,.slice none 0 0,.int .i64 0,.slice none 0 0,.slice none 0 0] 33)).mono a.size));have m:=cQ (Blk.new b 33 #[.slice none 0 0,.int .i64 0,.slice none 0 0,.int .i64 0,.slice none 0 0,.slice none 0 0]);clear a;go_upto_region 5 with fail;obtain⟨w6,G⟩:=cX (b.alloc (.cells #[.slice none 0 0,.int .i64 0,.slice none 0 0,.int .i64 0,.slice none 0 0,.slice none 0 0] 33));rw[G]at c m ⊢;obtain⟨sb,H⟩:=cX b.heap.size;rw[H]at m ⊢;clear G H;have d:=cQ (E.out.below c.out);obtain⟨O,s1,s2,P,Q,R⟩:=eX m.out;have S:=m.out.lt;go_wp2_with fail;refine(aYh v _ d.out).mono ?_;rintro en q ⟨rfl,rfl⟩;go_wp2_with fail;refine(cZb v _ d.out).mono ?_;rintro en q ⟨rfl,rfl⟩;go_wp2_with fail;refine(bVe v _ d.out).mono ?_;rintro en q ⟨rfl,rfl⟩;go_wp2_with fail;refine(bVf v _ d.out).mono ?_;rintro en q ⟨rfl,rfl⟩;go_wp2_with fail;refine(bVg v _ d.out).mono ?_;rintro en q ⟨rfl,rfl⟩;go_wp2_with fail;refine(bVw _ _ ⟨[],0,[],0,[],[]⟩ _ (aYi _) (aYi _)).mono ?_;rintro en w8 ⟨rfl,a⟩;have T:=cQ (c.out.trans (a.mono c.out.size));have U:=cQ (d.out.below a);clear a O s1 s2 P Q R S m;go_wp2_with fail;refine(cQa v _ U.out).mono ?_;rintro en w9 ⟨rfl,rfl⟩;go_wp2;exact⟨⟨j+1,F.out,by simp,cQ (I.out.trans (T.out.mono I.out.size))⟩,by have:=F.out;simp[intOf];omega⟩
  ·have M:decide ((j:Int)<2)=false:=(by simp;omega);obtain rfl:j=2:=(by omega);obtain⟨k0,u,k2,k3,k4,k5⟩:=eX (k.out.below I.out k.out.lt);have yk:=(k.out.below I.out k.out.lt).lt;have x:=cQ (t.out.trans (I.out.mono t.out.size));clear I o L;go_wp2_with fail;refine(tQ _ (J.out.below x.out K.out)).mono ?_;rintro en b ⟨rfl,a⟩;have c:=cQ (x.out.trans (a.mono x.out.size));clear a;go_wp2;go_ret;exact⟨rfl,c.out⟩
end Go.Proofs.YtabibkpfgmolkaaDoor

/-
 What clashes, and live.Clash's meet: two places are told to clash.
 Conditions: none.
-/
import Derived.Test.YtgmapikcpnffhaaGreatLivAc
namespace Go.Bk.Liv
open Go Go.Bk
/-- behind an instruction, and no copy's origin; or an Out, too -/
def Beh (r : RowD) (i : Nat) (c : CodeD) (p : Int) : Prop := (LiveB r i p ∧ (c.op = 272 → ∀ a, c.args[0]? = some a → p ≠ a)) ∨ p ∈ c.outs
def AtOut (r : RowD) (o p : Int) : Prop := ∃ i c, r.code[i]? = some c ∧ o ∈ c.outs ∧ Beh r i c p
def AtPar (r : RowD) (a b : Int) : Prop := a ∈ r.params ∧ (b ∈ r.params ∨ Live r 0 b)
/-- two places clash -/
def Clashes (r : RowD) (a b : Int) : Prop := a ≠ b ∧ ((AtOut r a b ∨ AtPar r a b) ∨ (AtOut r b a ∨ AtPar r b a))
abbrev Rel2 := Int → Int → Prop
/-- sets that hold just the pairs met -/
structure MetC (C : Sets) (M : Rel2) : Prop where
 nd : ∀ s ∈ C, s.Nodup
 eq : ∀ (a : Nat) s, C[a]? = some s → ∀ x, x ∈ s ↔ ((a : Int) ≠ x ∧ (M a x ∨ M x a))
 rg : ∀ a b, M a b → (0 ≤ a ∧ a < C.length) ∧ 0 ≤ b ∧ b < C.length
def putC (C : Sets) (a : Nat) (x : Int) : Sets := match C[a]? with
 | some s => C.set a (ins s x)
 | none => C
def meetC (C : Sets) (a b : Nat) : Sets := if a = b then C else putC (putC C a b) b a
theorem putC_len (C : Sets) (a : Nat) (x : Int) : (putC C a x).length = C.length := by
 unfold putC
 split <;> simp
theorem putC_get {C : Sets} {a : Nat} {s : List Int} (h : C[a]? = some s) (x : Int) : putC C a x = C.set a (ins s x) := by simp [putC, h]
theorem meetC_len (C : Sets) (a b : Nat) : (meetC C a b).length = C.length := by
 unfold meetC
 split
 ·rfl
 ·rw [putC_len, putC_len]
theorem putC_at {C : Sets} {a j : Nat} {x : Int} {u : List Int} (h : (putC C a x)[j]? = some u) : ∃ s, C[j]? = some s ∧ ((j = a ∧ u = ins s x) ∨ (j ≠ a ∧ u = s)) := by
 unfold putC at h
 cases hs : C[a]? with
 | none =>
  rw [hs] at h
  refine ⟨u, h, .inr ⟨fun e => ?_, rfl⟩⟩
  subst e
  rw [hs] at h
  cases h
 | some s =>
  rw [hs] at h
  rcases set_get h with ⟨e, e2, _⟩ | ⟨e, e2⟩
  ·subst e
   exact ⟨s, hs, .inl ⟨rfl, e2⟩⟩
  ·exact ⟨u, e2, .inr ⟨fun e3 => e e3.symm, rfl⟩⟩
theorem MetC.meet {C : Sets} {M : Rel2} (h : MetC C M) {a b : Nat} (ha : a < C.length) (hb : b < C.length) : MetC (meetC C a b) (fun x y => M x y ∨ (x = (a : Int) ∧ y = (b : Int))) where
 nd s hs := by
  obtain ⟨j, hj⟩ := List.mem_iff_getElem?.1 hs
  unfold meetC at hj
  split at hj
  ·exact h.nd s (List.mem_of_getElem? hj)
  ·obtain ⟨s1, h1, h2⟩ := putC_at hj
   obtain ⟨s2, h3, h4⟩ := putC_at h1
   have n2 := h.nd s2 (List.mem_of_getElem? h3)
   have n1 : s1.Nodup := by
    rcases h4 with ⟨_, h4⟩ | ⟨_, h4⟩ <;> rw [h4]
    ·exact ins_nodup n2
    ·exact n2
   rcases h2 with ⟨_, h2⟩ | ⟨_, h2⟩ <;> rw [h2]
   ·exact ins_nodup n1
   ·exact n1
 eq j s hj x := by
  unfold meetC at hj
  split at hj
  ·rename_i e
   subst e
   rw [h.eq j s hj x]
   constructor
   ·rintro ⟨h1, h2 | h2⟩
    ·exact ⟨h1, .inl (.inl h2)⟩
    ·exact ⟨h1, .inr (.inl h2)⟩
   ·rintro ⟨h1, (h2 | ⟨h2, h3⟩) | (h2 | ⟨h2, h3⟩)⟩
    ·exact ⟨h1, .inl h2⟩
    ·omega
    ·exact ⟨h1, .inr h2⟩
    ·omega
  ·rename_i hne
   obtain ⟨s1, h1, h2⟩ := putC_at hj
   obtain ⟨s2, h3, h4⟩ := putC_at h1
   have he := h.eq j s2 h3 x
   have hx1 : x ∈ s1 ↔ (x ∈ s2 ∨ (j = a ∧ x = (b : Int))) := by
    rcases h4 with ⟨e4, h4⟩ | ⟨e4, h4⟩ <;> rw [h4]
    ·rw [mem_ins]; simp [e4]
    ·simp [e4]
   have hx : x ∈ s ↔ (x ∈ s1 ∨ (j = b ∧ x = (a : Int))) := by
    rcases h2 with ⟨e4, h4⟩ | ⟨e4, h4⟩ <;> rw [h4]
    ·rw [mem_ins]; simp [e4]
    ·simp [e4]
   rw [hx, hx1, he]
   constructor
   ·rintro ((⟨h1, h2 | h2⟩ | ⟨h1, h2⟩) | ⟨h1, h2⟩)
    ·exact ⟨h1, .inl (.inl h2)⟩
    ·exact ⟨h1, .inr (.inl h2)⟩
    ·exact ⟨by omega, .inl (.inr ⟨by omega, h2⟩)⟩
    ·exact ⟨by omega, .inr (.inr ⟨h2, by omega⟩)⟩
   ·rintro ⟨h1, (h2 | ⟨h2, h3⟩) | (h2 | ⟨h2, h3⟩)⟩
    ·exact .inl (.inl ⟨h1, .inl h2⟩)
    ·exact .inl (.inr ⟨by omega, h3⟩)
    ·exact .inl (.inl ⟨h1, .inr h2⟩)
    ·exact .inr ⟨by omega, h2⟩
 rg x y hxy := by
  rw [meetC_len]
  rcases hxy with h1 | ⟨h1, h2⟩
  ·exact h.rg x y h1
  ·omega
theorem MetC.start (P : Nat) : MetC (List.replicate P []) (fun _ _ => False) where
 nd s hs := by have := List.eq_of_mem_replicate hs; rw [this]; simp
 eq j s hj x := by
  obtain ⟨_, e⟩ := List.getElem?_eq_some_iff.1 hj
  simp at e
  subst e
  simp
 rg _ _ h := h.elim
theorem MetC.small {C : Sets} {M : Rel2} (h : MetC C M) : ∀ s ∈ C, s.length ≤ C.length := fun s hs => by
 obtain ⟨j, hj⟩ := List.mem_iff_getElem?.1 hs
 exact nodup_range_len (h.nd s hs) (fun x hx => by
  rcases ((h.eq j s hj x).1 hx).2 with h1 | h1
  ·exact (h.rg _ _ h1).2
  ·exact (h.rg _ _ h1).1)
/-- the blocks but those of S are as they were -/
def KeptBut (S : List Nat) (w w' : World) : Prop := w.heap.size ≤ w'.heap.size ∧ ∀ k, k < w.heap.size → k ∉ S → w'.heap[k]? = w.heap[k]?
theorem KeptBut.refl (S : List Nat) (w : World) : KeptBut S w w := ⟨Nat.le_refl _, fun _ _ _ => rfl⟩
theorem KeptBut.trans {S : List Nat} {a b c : World} (h : KeptBut S a b) (k : KeptBut S b c) : KeptBut S a c := ⟨Nat.le_trans h.1 k.1, fun j hj hn => (k.2 j (Nat.lt_of_lt_of_le hj h.1) hn).trans (h.2 j hj hn)⟩
theorem KeptBut.grown {S : List Nat} {w w' : World} {b : Nat} (h : w.grownBy w' (some b)) (hb : b ∈ S) : KeptBut S w w' := ⟨h.size, fun k hk hn => h.block k hk (fun e => by injection e with e; subst e; exact hn hb)⟩
theorem KeptBut.alloc (S : List Nat) (w : World) (o : Obj) : KeptBut S w (w.alloc o) := ⟨by simp, fun k hk _ => (World.grownBy_alloc w o none).block k hk (by simp)⟩
theorem it_kept {S : List Nat} {w w' : World} {b r : Nat} {m L : KV} (h : IT w b r m L) (hk : KeptBut S w w') (hb : b ∉ S) (hr : r ∉ S) : IT w' b r m L := by
 have l1 := h.im.lt
 have l2 := h.lt
 obtain ⟨es, clock, seen, h1, h2, h3, h4, h5, h6⟩ := h
 exact ⟨es, clock, seen, (hk.2 b l1 hb).trans h1, h2, h3, h4, (hk.2 r l2 hr).trans h5, h6⟩
theorem blk_kept {S : List Nat} {w w' : World} {g : Nat} {t : TypeId} {cs : Array Value} (h : Blk w g t cs) (hk : KeptBut S w w') (hg : g ∉ S) : Blk w' g t cs := (hk.2 g h.lt hg).trans h
end Go.Bk.Liv
namespace Go.Proofs.YtgmapikcpnffhaaGreat
open Go.RowKit Go.Bk Go.Bk.Liv
set_option linter.unusedVariables false
set_option linter.unusedSimpArgs false

/-- the memory of live.Clash's sets -/
structure CkM (w1 w : World) (N gK gC : Nat) (bC : List Nat) (C : Sets) : Prop where
 k : Blk w gK 112 #[.slice (some ⟨gC, 0, none⟩) C.length C.length]
 c : Blk w gC 113 (mapsV bC).toArray
 lc : bC.length = C.length
 mc : ∀ (i : Nat) b s, bC[i]? = some b → C[i]? = some s → IM w b (setKV s)
 nd : bC.Nodup
 lK : N ≤ gK
 lC : N ≤ gC
 lb : ∀ b ∈ bC, N ≤ b
 bel : Below N w1 w
 hz : N ≤ w1.heap.size
section
variable {w1 w w' : World} {N gK gC : Nat} {bC : List Nat} {C : Sets}
theorem CkM.k_notin (h : CkM w1 w N gK gC bC C) {g : Nat} {t : TypeId} {cs : Array Value} (k : Blk w g t cs) : g ∉ bC := fun hin => by
 obtain ⟨i, hi⟩ := List.mem_iff_getElem?.1 hin
 have hl := (List.getElem?_eq_some_iff.1 hi).1
 exact (h.mc i g _ hi (List.getElem?_eq_getElem (by rw [← h.lc]; exact hl))).blk_ne k rfl
theorem CkM.it_notin (h : CkM w1 w N gK gC bC C) {b r : Nat} {m L : KV} (k : IT w b r m L) : r ∉ bC := fun hin => by
 obtain ⟨i, hi⟩ := List.mem_iff_getElem?.1 hin
 have hl := (List.getElem?_eq_some_iff.1 hi).1
 exact it_ne_im k (h.mc i r _ hi (List.getElem?_eq_getElem (by rw [← h.lc]; exact hl))) rfl
theorem CkM.hsz (h : CkM w1 w N gK gC bC C) : N ≤ w.heap.size := Nat.le_trans h.hz h.bel.size
theorem CkM.grown {r : Option Nat} (h : CkM w1 w N gK gC bC C) (hg : w.grownBy w' r) (hr : ∀ g, r = some g → N ≤ g ∧ g ≠ gK ∧ g ≠ gC ∧ g ∉ bC) : CkM w1 w' N gK gC bC C :=
 { h with k := h.k.grown hg (fun e => (hr _ e).2.1 rfl), c := h.c.grown hg (fun e => (hr _ e).2.2.1 rfl), mc := fun i b s q1 q2 => (h.mc i b s q1 q2).grown hg (fun e => (hr _ e).2.2.2 (List.mem_of_getElem? q1)), bel := below_grown h.bel hg h.hsz (fun g e => (hr g e).1) }
theorem CkM.alloc (h : CkM w1 w N gK gC bC C) (o : Obj) : CkM w1 (w.alloc o) N gK gC bC C := h.grown (World.grownBy_alloc w o none) (fun g e => by cases e)
theorem CkM.drew (h : CkM w1 w N gK gC bC C) : CkM w1 w.drew N gK gC bC C :=
 { h with k := h.k, c := h.c, mc := fun i b s q1 q2 => (h.mc i b s q1 q2).drew, bel := h.bel.drew }
theorem CkM.put (h : CkM w1 w N gK gC bC C) {a b : Nat} {s : List Int} {x : Int} (hb : bC[a]? = some b) (hs : C[a]? = some s) (hg : w.grownBy w' (some b)) (hm : IM w' b (setKV (ins s x))) : CkM w1 w' N gK gC bC (putC C a x) := by
 rw [putC_get hs]
 have hi := h.mc a b s hb hs
 refine { k := ?_, c := h.c.grown hg (fun e => by injection e with e; exact hi.blk_ne h.c e), lc := by rw [List.length_set]; exact h.lc, mc := fun j c u q1 q2 => ?_, nd := h.nd, lK := h.lK, lC := h.lC, lb := h.lb, bel := below_grown h.bel hg h.hsz (fun g e => by injection e with e; rw [← e]; exact h.lb b (List.mem_of_getElem? hb)), hz := h.hz }
 ·rw [List.length_set]
  exact h.k.grown hg (fun e => by injection e with e; exact hi.blk_ne h.k e)
 ·rcases set_get q2 with ⟨e, e2, _⟩ | ⟨e, e2⟩
  ·subst e
   subst e2
   rw [hb] at q1
   injection q1 with q1
   subst q1
   exact hm
  ·exact (h.mc j c u q1 e2).grown hg (fun e3 => by injection e3 with e3; subst e3; exact e (nodup_at h.nd hb q1))
end
def MtPost (w1 : World) (N gK gC : Nat) (bC : List Nat) (C : Sets) (a b : Nat) (w : World) (en : Ending) (w' : World) : Prop := en = .returned (.tuple #[]) ∧ CkM w1 w' N gK gC bC (meetC C a b) ∧ KeptBut bC w w'
set_option maxRecDepth 100000 in
set_option maxHeartbeats 2000000 in
theorem meet_any (w1 : World) (N gK gC : Nat) (bC : List Nat) (C : Sets) (a b : Nat) (w : World) (h : CkM w1 w N gK gC bC C) (ha : a < C.length) (hb : b < C.length) (hs : ∀ s ∈ C, s.length ≤ C.length) (hn : C.length ≤ 100000) :
  Calls Tryz.prog 69 #[.int .i64 (a : Int), .int .i64 (b : Int), .pointer (some ⟨gK, 0, none⟩)] w (MtPost w1 N gK gC bC C a b w) := by
 have H := Lib.hid h
 have HS := Lib.hid hs
 by_cases hab : a = b
 ·subst hab
  have hq : ((a : Int) != (a : Int)) = false := by simp
  clear h hs
  go_enter Tryz.func69, Tryz.ntmps69
  go_wp2
  go_end0
  refine ⟨rfl, ?_, KeptBut.refl _ _⟩
  unfold meetC
  rw [if_pos rfl]
  exact H.out
 ·have hq : ((a : Int) != (b : Int)) = true := by simp; omega
  have HAB := Lib.hid hab
  obtain ⟨sa, hsa⟩ : ∃ s, C[a]? = some s := ⟨_, List.getElem?_eq_getElem ha⟩
  obtain ⟨ba, hba⟩ : ∃ s, bC[a]? = some s := ⟨_, List.getElem?_eq_getElem (by rw [h.lc]; exact ha)⟩
  obtain ⟨sb, hsb⟩ : ∃ s, C[b]? = some s := ⟨_, List.getElem?_eq_getElem hb⟩
  obtain ⟨bb, hbb⟩ : ∃ s, bC[b]? = some s := ⟨_, List.getElem?_eq_getElem (by rw [h.lc]; exact hb)⟩
  have f0 := h.k.cell 0
  simp at f0
  have f2 := h.c.cell a
  have e0 : (mapsV bC).toArray[a]? = some (.map (some ba)) := by simp [mapsV, hba]
  rw [e0] at f2
  obtain ⟨n, hnn⟩ : ∃ n, C.length = n := ⟨_, rfl⟩
  rw [hnn] at f0 ha hb hn
  have ha2 : (a : Int) < (n : Int) := by omega
  have hb2 : (b : Int) < (n : Int) := by omega
  have y1 := h.k.lt
  have y2 := h.c.lt
  have HSA := Lib.hid hsa
  have HBA := Lib.hid hba
  have HSB := Lib.hid hsb
  have HBB := Lib.hid hbb
  have HN := Lib.hid hnn
  have hmi := Lib.hid (h.mc a ba sa hba hsa)
  have hl1 := hs sa (List.mem_of_getElem? hsa)
  have hl2 := hs sb (List.mem_of_getElem? hsb)
  rw [hnn] at hl1 hl2
  clear h hs hab hsa hba hsb hbb hnn e0
  go_enter Tryz.func69, Tryz.ntmps69
  go_wp2_with fail
  (with_reducible refine (Add_any ba sa [(b : Int)] _ _ (hmi.out.alloc _) (IR.one (Blk.new _ _ _)) (by simp) (by omega)).mono ?_)
  rintro en w3 ⟨rfl, h1, h2, h3⟩
  have H3 := Lib.hid ((H.out.alloc (.cells #[.int .i64 (b : Int)] 3)).put HBA.out HSA.out h2 h1)
  have HK3 := Lib.hid ((KeptBut.alloc bC w (.cells #[.int .i64 (b : Int)] 3)).trans (KeptBut.grown h2 (List.mem_of_getElem? HBA.out)))
  have h4 := H3.out
  have f0 := h4.k.cell 0
  simp at f0
  rw [putC_len, HN.out] at f0
  have f2 := h4.c.cell b
  have e0 : (mapsV bC).toArray[b]? = some (.map (some bb)) := by simp [mapsV, HBB.out]
  rw [e0] at f2
  have y1 := h4.k.lt
  have y2 := h4.c.lt
  have hsb' : (putC C a b)[b]? = some sb := by
   rw [putC_get HSA.out, List.getElem?_set_ne HAB.out]
   exact HSB.out
  have HSB' := Lib.hid hsb'
  have hmi2 := Lib.hid (h4.mc b bb sb HBB.out hsb')
  clear h1 h2 h3 h4 e0 hsb' hmi
  go_wp2_with fail
  (with_reducible refine (Add_any bb sb [(a : Int)] _ _ (hmi2.out.alloc _) (IR.one (Blk.new _ _ _)) (by simp) (by omega)).mono ?_)
  rintro en w4 ⟨rfl, h1, h2, h3⟩
  have H4 := Lib.hid ((H3.out.alloc (.cells #[.int .i64 (a : Int)] 3)).put HBB.out HSB'.out h2 h1)
  have HK4 := Lib.hid (HK3.out.trans ((KeptBut.alloc bC w3 (.cells #[.int .i64 (a : Int)] 3)).trans (KeptBut.grown h2 (List.mem_of_getElem? HBB.out))))
  clear h1 h2 h3
  go_wp2
  go_end0
  refine ⟨rfl, ?_, HK4.out⟩
  unfold meetC
  rw [if_neg HAB.out]
  exact H4.out
/-- the state of live.Clash: all that Req asks for is met, and nothing but what S allows -/
def CS (S Req : Rel2) (P : Nat) (w1 : World) (N gK gC : Nat) (bC : List Nat) (w : World) : Prop := ∃ C M, CkM w1 w N gK gC bC C ∧ MetC C M ∧ C.length = P ∧ (∀ a b, M a b → S a b) ∧ ∀ a b, Req a b → M a b
theorem CS.weak {S Req Req' : Rel2} {P : Nat} {w1 w : World} {N gK gC : Nat} {bC : List Nat} (h : CS S Req P w1 N gK gC bC w) (hr : ∀ a b, Req' a b → Req a b) : CS S Req' P w1 N gK gC bC w := by
 obtain ⟨C, M, h1, h2, h3, h4, h5⟩ := h
 exact ⟨C, M, h1, h2, h3, h4, fun a b hab => h5 a b (hr a b hab)⟩
theorem CS.grown {S Req : Rel2} {P : Nat} {w1 w w' : World} {N gK gC : Nat} {bC : List Nat} {r : Option Nat} (h : CS S Req P w1 N gK gC bC w) (hg : w.grownBy w' r) (hr : ∀ g, r = some g → N ≤ g ∧ ∃ b m L, IT w b g m L) : CS S Req P w1 N gK gC bC w' := by
 obtain ⟨C, M, h1, h2, h3, h4, h5⟩ := h
 refine ⟨C, M, h1.grown hg (fun g e => ?_), h2, h3, h4, h5⟩
 obtain ⟨q1, b, m, L, q2⟩ := hr g e
 exact ⟨q1, it_blk_ne q2 h1.k, it_blk_ne q2 h1.c, h1.it_notin q2⟩
theorem CS.alloc {S Req : Rel2} {P : Nat} {w1 w : World} {N gK gC : Nat} {bC : List Nat} (h : CS S Req P w1 N gK gC bC w) (o : Obj) : CS S Req P w1 N gK gC bC (w.alloc o) := h.grown (World.grownBy_alloc w o none) (fun g e => by cases e)
theorem CS.bel {S Req : Rel2} {P : Nat} {w1 w : World} {N gK gC : Nat} {bC : List Nat} (h : CS S Req P w1 N gK gC bC w) : Below N w1 w ∧ N ≤ w.heap.size := by
 obtain ⟨C, M, h1, _⟩ := h
 exact ⟨h1.bel, h1.hsz⟩
/-- meet, by what it does to the state -/
def McPost (S Req : Rel2) (P : Nat) (w1 : World) (N gK gC : Nat) (bC : List Nat) (a b : Nat) (w : World) (en : Ending) (w' : World) : Prop :=
 en = .returned (.tuple #[]) ∧ CS S (fun x y => Req x y ∨ (x = (a : Int) ∧ y = (b : Int))) P w1 N gK gC bC w' ∧ KeptBut bC w w'
theorem meet_cs (S Req : Rel2) (P : Nat) (w1 : World) (N gK gC : Nat) (bC : List Nat) (a b : Nat) (w : World) (h : CS S Req P w1 N gK gC bC w) (ha : a < P) (hb : b < P) (hS : S a b) (hP : P ≤ 100000) :
  Calls Tryz.prog 69 #[.int .i64 (a : Int), .int .i64 (b : Int), .pointer (some ⟨gK, 0, none⟩)] w (McPost S Req P w1 N gK gC bC a b w) := by
 obtain ⟨C, M, h1, h2, h3, h4, h5⟩ := h
 subst h3
 refine (meet_any w1 N gK gC bC C a b w h1 ha hb h2.small hP).mono ?_
 rintro en w' ⟨rfl, q1, q2⟩
 refine ⟨rfl, ⟨_, _, q1, h2.meet ha hb, meetC_len C a b, fun x y hxy => ?_, fun x y hxy => ?_⟩, q2⟩
 ·rcases hxy with hxy | ⟨e1, e2⟩
  ·exact h4 x y hxy
  ·rw [e1, e2]; exact hS
 ·rcases hxy with hxy | hxy
  ·exact .inl (h5 x y hxy)
  ·exact .inr hxy
end Go.Proofs.YtgmapikcpnffhaaGreat

/-
 A region whose last operation writes what a load reads; a row under way.
 Conditions: none.
-/
import Derived.Deep.RegionHeld
import Derived.Deep.RegionHeld3
import Derived.Deep.AppendLies
import Derived.Test.YtgmapikcpnffhaaGreatAHo
import Derived.Test.YtgmapikcpnffhaaGreatAPl
namespace Go.Bk
open Go
section
variable {P : Program} {ops : Array Oper} {Q : Exit → Act → World → Prop} {md : Region.Mode} {S1 S2 : World → Prop} {ap : Nat}
/-- what holds of the world: S1, and S2 till operation ap has come up -/
def SD (S1 S2 : World → Prop) (ap : Nat) (listed : Array Bool) (w : World) : Prop := S1 w ∧ (listed.getD ap false = false → S2 w)
theorem SD.of_same {l l' : Array Bool} {w : World} (h : SD S1 S2 ap l w) (he : l'.getD ap false = l.getD ap false) : SD S1 S2 ap l' w := ⟨h.1, fun e => h.2 (he ▸ e)⟩
theorem SD.after {l : Array Bool} {w : World} (h : S1 w) (he : l.getD ap false = true) : SD S1 S2 ap l w := ⟨h, fun e => by rw [he] at e; cases e⟩
def wpAnyD (P : Program) (md : Region.Mode) (ops : Array Oper) (Q : Exit → Act → World → Prop) (S1 S2 : World → Prop) (ap : Nat) : Nat → Array Bool → Act → World → Prop
 | 0, listed, a, w => Region.ready md ops listed = [] ∧ Q .normal a w
 | fuel + 1, listed, a, w =>
  (Region.ready md ops listed = [] → Q .normal a w) ∧
  ∀ i ∈ Region.ready md ops listed, wpOp P ops Q i (fun a' w' => SD S1 S2 ap (listed.setIfInBounds i true) w' ∧ wpAnyD P md ops Q S1 S2 ap fuel (listed.setIfInBounds i true) a' w') a w
theorem wpAny_of_D : ∀ (fuel : Nat) (listed : Array Bool) (a : Act) (w : World), wpAnyD P md ops Q S1 S2 ap fuel listed a w → wpAny P md ops Q fuel listed a w
 | 0, _, _, _, h => h
 | fuel + 1, _, _, _, h => ⟨h.1, fun i hi => wpOp_mono (fun a' w' h' => wpAny_of_D fuel _ a' w' h'.2) (h.2 i hi)⟩
/-- does operation ap wait for i? -/
def waits (md : Region.Mode) (ops : Array Oper) (ap i : Nat) : Bool := match ops[ap]? with
 | some o => o.after.any fun e => Region.binds md e && e.on == i
 | none => false
theorem wpAnyD_first {i : Nat} {oi : Oper} {v : Value} {SS : World → Prop} {edge : Prop} (hi : ops[i]? = some oi) (hsel : ∀ (j : Nat) (o : Oper) cs b, ops[j]? = some o → o.op ≠ .select cs b)
  (hQ : ∀ c a w, Q (.panic c) (a.put oi.dst v) w → Q (.panic c) a w) (hne : i ≠ ap) (hedge : edge → waits md ops ap i = true)
  (hSS : ∀ l w, (edge → l.getD ap false = false) → SD S1 S2 ap l w → SS w) :
  ∀ (fuel : Nat) (listed : Array Bool) (a : Act) (w : World),
   (∀ j oj, ops[j]? = some oj → j ≠ i → listed.getD j true = false → (∀ e ∈ oj.after, Region.binds md e = true → e.on ≠ i) → oi.apart ops oj = true) →
   i ∈ Region.ready md ops listed → (edge → listed.getD ap false = false) → YieldsIf P ops SS oi v a → SD S1 S2 ap listed w →
   wpAnyD P md ops Q S1 S2 ap fuel (listed.setIfInBounds i true) (a.put oi.dst v) w → wpAnyD P md ops Q S1 S2 ap (fuel + 1) listed a w := by
 have same : ∀ (l : Array Bool), (l.setIfInBounds i true).getD ap false = l.getD ap false := fun l => getD_set_ne false hne
 intro fuel
 induction fuel with
 | zero =>
  intro listed a w _ hr hap hy hS H
  refine ⟨fun h => (by rw [h] at hr; cases hr), fun j hj => ?_⟩
  by_cases hji : j = i
  ·subst hji; exact hy.wpOp hi (hSS _ _ hap hS) ⟨hS.of_same (same _), H⟩
  ·have := ready_mono hj hji
   rw [H.1] at this
   cases this
 | succ fuel ih =>
  intro listed a w hfree hr hap hy hS H
  refine ⟨fun h => (by rw [h] at hr; cases hr), fun j hj => ?_⟩
  by_cases hji : j = i
  ·subst hji; exact hy.wpOp hi (hSS _ _ hap hS) ⟨hS.of_same (same _), H⟩
  ·have h1 := H.2 j (ready_mono hj hji)
   obtain ⟨hjun, oj, hoj, hall⟩ := mem_ready.1 hj
   have hnot : ∀ e ∈ oj.after, Region.binds md e = true → e.on ≠ i := fun e he hb heq => by
    have h1 := hall e he hb
    have h0 := (mem_ready.1 hr).1
    rw [heq] at h1
    rcases Nat.lt_or_ge i listed.size with h' | h'
    ·simp [h'] at h0 h1; rw [h0] at h1; cases h1
    ·simp [Array.getElem?_eq_none h'] at h1
   have h2 := wpOp_putIf hoj (hfree j oj hoj hji hjun hnot) (fun cs b => hsel i oi cs b hi) (fun cs b => hsel j oj cs b hoj) hQ hy h1
   have hfree' : ∀ k ok, ops[k]? = some ok → k ≠ i → (listed.setIfInBounds j true).getD k true = false →
     (∀ e ∈ ok.after, Region.binds md e = true → e.on ≠ i) → oi.apart ops ok = true := fun k ok hk hki hun hno => by
    refine hfree k ok hk hki ?_ hno
    by_cases hjk : j = k
    ·subst hjk; exact hjun
    ·rw [getD_set_ne true hjk] at hun; exact hun
   have hap' : edge → (listed.setIfInBounds j true).getD ap false = false := fun he => by
    have hja : j ≠ ap := fun e => by
     subst e
     have hw := hedge he
     unfold waits at hw
     rw [hoj] at hw
     obtain ⟨x, hx, hb⟩ := Array.any_eq_true'.1 hw
     simp only [Bool.and_eq_true, beq_iff_eq] at hb
     exact hnot x hx hb.1 hb.2
    rw [getD_set_ne false hja]
    exact hap he
   refine wpOp_mono (fun a' w' h3 => ?_) h2
   obtain ⟨h4, h5, h6⟩ := h3
   have h7 : SD S1 S2 ap (listed.setIfInBounds j true) w' := h5.of_same (by rw [Array.setIfInBounds_comm _ _ (Ne.symm hji)]; exact (same _).symm)
   refine ⟨h7, ih (listed.setIfInBounds j true) a' w' hfree' (ready_mono hr (Ne.symm hji)) hap' h4 h7 ?_⟩
   rw [Array.setIfInBounds_comm _ _ hji]
   exact h6
/-- take number i first, by what holds throughout -/
theorem wpAnyD_take {l : List Oper} {i : Nat} {oi : Oper} {v : Value} {fuel : Nat} {listed : Array Bool} {a : Act} {w : World} (hi : l[i]? = some oi)
  (hs : Region.noSelect l.toArray = true) (hf : Region.free md l.toArray listed i = true) (hr : (Region.ready md l.toArray listed).contains i = true)
  (hQ : ∀ c a w, Q (.panic c) (a.put oi.dst v) w → Q (.panic c) a w) (hne : (i != ap) = true) (hy : YieldsIf P l.toArray S1 oi v a) (hS : SD S1 S2 ap listed w)
  (h : SD S1 S2 ap (listed.setIfInBounds i true) w → wpAnyD P md l.toArray Q S1 S2 ap fuel (listed.setIfInBounds i true) (a.put oi.dst v) w) : wpAnyD P md l.toArray Q S1 S2 ap (fuel + 1) listed a w :=
 have hne' : i ≠ ap := by simpa using hne
 have hi' : l.toArray[i]? = some oi := by simpa using hi
 wpAnyD_first (edge := False) hi' (Region.noSelect_spec hs) hQ hne' (fun h => h.elim) (fun _ _ _ h => h.1) fuel listed a w (Region.free_spec hi' hf) (by simpa using hr) (fun h => h.elim) hy hS (h (hS.of_same (getD_set_ne false hne')))
/-- take number i first, for which ap waits, by both -/
theorem wpAnyD_take2 {l : List Oper} {i : Nat} {oi : Oper} {v : Value} {fuel : Nat} {listed : Array Bool} {a : Act} {w : World} (hi : l[i]? = some oi)
  (hs : Region.noSelect l.toArray = true) (hf : Region.free md l.toArray listed i = true) (hr : (Region.ready md l.toArray listed).contains i = true)
  (hQ : ∀ c a w, Q (.panic c) (a.put oi.dst v) w → Q (.panic c) a w) (hne : (i != ap) = true) (hw : waits md l.toArray ap i = true) (hap : listed.getD ap false = false)
  (hy : YieldsIf P l.toArray (fun w => S1 w ∧ S2 w) oi v a) (hS : SD S1 S2 ap listed w)
  (h : SD S1 S2 ap (listed.setIfInBounds i true) w → wpAnyD P md l.toArray Q S1 S2 ap fuel (listed.setIfInBounds i true) (a.put oi.dst v) w) : wpAnyD P md l.toArray Q S1 S2 ap (fuel + 1) listed a w :=
 have hne' : i ≠ ap := by simpa using hne
 have hi' : l.toArray[i]? = some oi := by simpa using hi
 wpAnyD_first (edge := True) hi' (Region.noSelect_spec hs) hQ hne' (fun _ => hw) (fun _ _ h1 h => ⟨h.1, h.2 (h1 trivial)⟩) fuel listed a w (Region.free_spec hi' hf) (by simpa using hr) (fun _ => hap) hy hS (h (hS.of_same (getD_set_ne false hne')))
/-- one operation alone may come up -/
theorem wpAnyD_one {l : List Oper} {i : Nat} {o : Oper} {fuel : Nat} {listed : Array Bool} {a : Act} {w : World} (hr : Region.ready md l.toArray listed = [i]) (ho : l[i]? = some o)
  (h : ∀ K' : Act → World → Prop, Shut (∀ a w, SD S1 S2 ap (listed.setIfInBounds i true) w → (SD S1 S2 ap (listed.setIfInBounds i true) w → wpAnyD P md l.toArray Q S1 S2 ap fuel (listed.setIfInBounds i true) a w) → K' a w) → if Region.wanted o (yielded l.toArray a.tmps) = true then Oper.wp P o a w K' Q else K' (a.put o.dst undef) w) :
  wpAnyD P md l.toArray Q S1 S2 ap (fuel + 1) listed a w :=
 ⟨fun h0 => (by rw [hr] at h0; cases h0), fun j hj => by
  rw [hr] at hj
  have := List.mem_singleton.1 hj
  subst this
  exact wpOp_step (by simpa using ho) (fun K' hK => h K' (fun a w h1 h2 => hK a w ⟨h1, h2 h1⟩))⟩
theorem wpAnyD_done {l : List Oper} {listed : Array Bool} {a : Act} {w : World} (hr : Region.ready md l.toArray listed = []) (h : Q .normal a w) : ∀ fuel, wpAnyD P md l.toArray Q S1 S2 ap fuel listed a w
 | 0 => ⟨hr, h⟩
 | _ + 1 => ⟨fun _ => h, by rw [hr]; simp⟩
/-- the beginning -/
theorem wp_region_D {l : List Oper} {id : Nat} {a : Act} {w : World} (S1 S2 : World → Prop) (ap : Nat) (hm : P.follows .mixedOrders = true) (h1 : S1 w.drew) (h2 : S2 w.drew)
  (h : SD S1 S2 ap (Array.replicate l.length false) w.drew → wpAnyD P .any l.toArray Q S1 S2 ap l.length (Array.replicate l.length false) a w.drew) : (Code.region id l.toArray true).wp P Q a w :=
 wp_region_any hm (wpAny_of_D _ _ _ _ (by
  have h3 := h ⟨h1, fun _ => h2⟩
  rw [List.size_toArray]
  exact h3))
end
end Go.Bk
namespace Go.Proofs.YtgmapikcpnffhaaGreat
open Go.RowKit Go.Bk Go.Bk.Liv
set_option linter.unusedVariables false
set_option linter.unusedSimpArgs false
/-- an instruction of the call's own -/
def CodeO (w : World) (base : Nat) (cs : List Value) (c : CodeD) : Prop := ∃ a b d, cs = [.int .i64 c.op, .int .u64 (c.n : Int), a, b, d] ∧ c.ok ∧ w.ownsRow base 3 1 a c.args.length (i64s c.args) ∧ w.ownsRow base 3 1 b c.outs.length (i64s c.outs) ∧ w.ownsRow base 3 1 d c.to.length (i64s c.to)
/-- instructions of the call's own -/
def CodesO (w : World) (base : Nat) (v : Value) (C : List CodeD) : Prop := ∃ vs : List (List Value), w.ownsRow base 48 5 v C.length vs.flatten ∧ vs.length = C.length ∧ ∀ (i : Nat) cs c, vs[i]? = some cs → C[i]? = some c → CodeO w base cs c
theorem CodeO.grown {w w' : World} {base : Nat} {cs : List Value} {c : CodeD} {r : Option Nat} (h : CodeO w base cs c) (hg : w.grownBy w' r) (hr : ∀ g cs, Blk w g 3 cs → r ≠ some g) : CodeO w' base cs c := by
 obtain ⟨a, b, d, e, h0, h1, h2, h3⟩ := h
 have k : ∀ {v : Value} {n : Nat} {xs : List Value}, w.ownsRow base 3 1 v n xs → w'.ownsRow base 3 1 v n xs := fun ho => own_grown ho hg (fun g hgg => by
  obtain ⟨cur, hb⟩ := own_blk ho hgg
  exact hr g cur hb)
 exact ⟨a, b, d, e, h0, k h1, k h2, k h3⟩
theorem CodesO.nil (w : World) (base : Nat) : CodesO w base (.slice none 0 0) [] := ⟨[], World.ownsRow_nil _ _ _ _, rfl, fun i cs c h => by simp at h⟩
theorem CodesO.below {w w' : World} {base : Nat} {v : Value} {C : List CodeD} (h : CodesO w base v C) (hb : Below w.heap.size w w') : CodesO w' base v C := by
 obtain ⟨vs, h1, h2, h3⟩ := h
 exact ⟨vs, own_below h1 hb (Nat.le_refl _), h2, fun i cs c q1 q2 => (h3 i cs c q1 q2).grown (below_grownBy hb) (fun _ _ _ => by simp)⟩
theorem CodesO.push {w w' : World} {base n : Nat} {v v' : Value} {C : List CodeD} {cs : List Value} {c : CodeD} {vs : List (List Value)} (h1 : w.ownsRow base 48 5 v C.length vs.flatten) (h2 : vs.length = C.length) (h3 : ∀ (i : Nat) cs c, vs[i]? = some cs → C[i]? = some c → CodeO w base cs c)
  (hc : CodeO w base cs c) (ho : w'.ownsRow base 48 5 v' (C.length + 1) (vs.flatten ++ cs)) (hg : w.grownBy w' v.ownBlock) : CodesO w' base v' (C ++ [c]) := by
 have hr : ∀ g cs, Blk w g 3 cs → v.ownBlock ≠ some g := fun g cs hb => own_ne h1 hb (by decide)
 refine ⟨vs ++ [cs], by rw [List.length_append, List.flatten_append]; simpa using ho, by simp [h2], fun i u x hu hx => ?_⟩
 by_cases hi : i < vs.length
 ·rw [List.getElem?_append_left hi] at hu
  rw [List.getElem?_append_left (by omega)] at hx
  exact (h3 i u x hu hx).grown hg hr
 ·rw [List.getElem?_append_right (by omega)] at hu
  rw [List.getElem?_append_right (by omega)] at hx
  have h0 : i - vs.length = 0 := by
   have := (List.getElem?_eq_some_iff.1 hu).1
   simp at this
   omega
  rw [h0] at hu
  rw [← h2, h0] at hx
  simp at hu hx
  subst hu
  subst hx
  exact hc.grown hg hr
/-- the row under way: its box, what its cells name, and that nothing else was written -/
def RuB (w1 : World) (gb : Nat) (r : RowD) (hs : List Int) (T : Int) (d : Value) (C : List CodeD) (wr : World) : Prop := ∃ a b p, Blk wr gb 31 #[a, b, .int .i64 T, p, d] ∧ wr.ownsRow w1.heap.size 3 1 a r.sig.inn.length (i64s r.sig.inn) ∧ wr.ownsRow w1.heap.size 3 1 b r.sig.out.length (i64s r.sig.out) ∧ wr.ownsRow w1.heap.size 3 1 p r.params.length (i64s (toldL hs r.params)) ∧ CodesO wr w1.heap.size d C ∧ Below w1.heap.size w1 wr ∧ w1.heap.size ≤ gb
theorem RuB.mk1 {w1 wC : World} {r : RowD} {hs : List Int} {a b p : Value} (oA : wC.ownsRow w1.heap.size 3 1 a r.sig.inn.length (i64s r.sig.inn)) (oB : wC.ownsRow w1.heap.size 3 1 b r.sig.out.length (i64s r.sig.out)) (oC : wC.ownsRow w1.heap.size 3 1 p r.params.length (i64s (toldL hs r.params))) (sC : Below w1.heap.size w1 wC) :
  RuB w1 wC.heap.size r hs 16 (.slice none 0 0) [] (wC.alloc (.cells #[a, b, .int .i64 16, p, .slice none 0 0] 31)) :=
 ⟨a, b, p, Blk.new _ _ _, own_alloc oA _, own_alloc oB _, own_alloc oC _, CodesO.nil _ _, sC.alloc sC.size _, sC.size⟩
theorem own5 {w : World} {base n g : Nat} {v : Value} {xs : List Value} {cs : Array Value} (h : w.ownsRow base 3 1 v n xs) (hk : Blk w g 31 cs) (a b c d e : Value) : (((((w.setCell ⟨g, 0, none⟩ a).setCell ⟨g, 1, none⟩ b).setCell ⟨g, 2, none⟩ c).setCell ⟨g, 3, none⟩ d).setCell ⟨g, 4, none⟩ e).ownsRow base 3 1 v n xs := by
 have hn := own_ne h hk (by decide)
 exact own_other (own_other (own_other (own_other (own_other h hn) hn) hn) hn) hn
theorem RuB.mk2 {w1 wC : World} {r : RowD} {hs : List Int} {a b p : Value} {gz : Nat} {c0 c1 c2 c3 c4 : Value} (oA : wC.ownsRow w1.heap.size 3 1 a r.sig.inn.length (i64s r.sig.inn)) (oB : wC.ownsRow w1.heap.size 3 1 b r.sig.out.length (i64s r.sig.out)) (oC : wC.ownsRow w1.heap.size 3 1 p r.params.length (i64s (toldL hs r.params))) (sC : Below w1.heap.size w1 wC)
  (kz : Blk wC gz 31 #[c0, c1, c2, c3, c4]) (hz : w1.heap.size ≤ gz) :
  RuB w1 gz r hs 16 (.slice none 0 0) [] (((((wC.setCell ⟨gz, 0, none⟩ a).setCell ⟨gz, 1, none⟩ b).setCell ⟨gz, 2, none⟩ (.int .i64 16)).setCell ⟨gz, 3, none⟩ p).setCell ⟨gz, 4, none⟩ (.slice none 0 0)) := by
 refine ⟨a, b, p, ?_, own5 oA kz _ _ _ _ _, own5 oB kz _ _ _ _ _, own5 oC kz _ _ _ _ _, CodesO.nil _ _, below5 sC hz _ _ _ _ _, hz⟩
 have h := blk_setSame (blk_setSame (blk_setSame (blk_setSame (blk_setSame kz 0 a) 1 b) 2 (.int .i64 16)) 3 p) 4 (.slice none 0 0)
 simpa using h
theorem CodeO.other {w : World} {base g i : Nat} {cs : List Value} {c : CodeD} {t : TypeId} {ks : Array Value} (h : CodeO w base cs c) (hk : Blk w g t ks) (ht : 3 ≠ t) (u : Value) : CodeO (w.setCell ⟨g, i, none⟩ u) base cs c := by
 obtain ⟨a, b, d, e, h0, h1, h2, h3⟩ := h
 exact ⟨a, b, d, e, h0, own_other h1 (own_ne h1 hk ht), own_other h2 (own_ne h2 hk ht), own_other h3 (own_ne h3 hk ht)⟩
theorem CodesO.other {w : World} {base g i : Nat} {v : Value} {C : List CodeD} {ks : Array Value} (h : CodesO w base v C) (hk : Blk w g 31 ks) (u : Value) : CodesO (w.setCell ⟨g, i, none⟩ u) base v C := by
 obtain ⟨vs, h1, h2, h3⟩ := h
 exact ⟨vs, own_other h1 (own_ne h1 hk (by decide)), h2, fun j cs c q1 q2 => (h3 j cs c q1 q2).other hk (by decide) u⟩
theorem CodesO.row {w : World} {base : Nat} {v : Value} {C : List CodeD} (h : CodesO w base v C) : ∃ xs, w.ownsRow base 48 5 v C.length xs := by
 obtain ⟨vs, h1, _⟩ := h
 exact ⟨_, h1⟩
theorem CodesO.other5 {w : World} {base g : Nat} {v : Value} {C : List CodeD} {x0 x1 x2 x3 x4 : Value} (h : CodesO w base v C) (hk : Blk w g 31 #[x0, x1, x2, x3, x4]) (a b c d e : Value) : CodesO (((((w.setCell ⟨g, 0, none⟩ a).setCell ⟨g, 1, none⟩ b).setCell ⟨g, 2, none⟩ c).setCell ⟨g, 3, none⟩ d).setCell ⟨g, 4, none⟩ e) base v C :=
 ((((h.other hk a).other (blk_setSame hk 0 a) b).other (blk_setSame (blk_setSame hk 0 a) 1 b) c).other (blk_setSame (blk_setSame (blk_setSame hk 0 a) 1 b) 2 c) d).other (blk_setSame (blk_setSame (blk_setSame (blk_setSame hk 0 a) 1 b) 2 c) 3 d) e
theorem CodesO.mono {w : World} {base b2 : Nat} {v : Value} {C : List CodeD} (h : CodesO w base v C) (hb : b2 ≤ base) : CodesO w b2 v C := by
 obtain ⟨vs, h1, h2, h3⟩ := h
 refine ⟨vs, own_mono h1 hb, h2, fun i cs c q1 q2 => ?_⟩
 obtain ⟨a, b, d, e, k0, k1, k2, k3⟩ := h3 i cs c q1 q2
 exact ⟨a, b, d, e, k0, own_mono k1 hb, own_mono k2 hb, own_mono k3 hb⟩
theorem RuB.setT {w1 wr : World} {gb : Nat} {r : RowD} {hs : List Int} {T : Int} {d : Value} {C : List CodeD} (h : RuB w1 gb r hs T d C wr) (T' : Int) : RuB w1 gb r hs T' d C (wr.setCell ⟨gb, 2, none⟩ (.int .i64 T')) := by
 obtain ⟨a, b, p, kb, oa, ob, op, oc, hb, hg⟩ := h
 have hk := blk_setSame kb 2 (.int .i64 T')
 exact ⟨a, b, p, by simpa using hk, own_other oa (own_ne oa kb (by decide)), own_other ob (own_ne ob kb (by decide)), own_other op (own_ne op kb (by decide)), oc.other kb _, hb.setCell (p := ⟨gb, 2, none⟩) hg _, hg⟩
def RuPost (e : EnvD) (r : RowD) (w : World) (en : Ending) (w' : World) : Prop :=
  (¬ CheckP e r ∧ en = .returned (.tuple #[.agg #[.slice none 0 0, .slice none 0 0, .int .i64 0, .slice none 0 0, .slice none 0 0], .int .i64 6]) ∧ Below w.heap.size w w') ∨
  (CheckP e r ∧ 2032 < r.places ∧ en = .returned (.tuple #[.agg #[.slice none 0 0, .slice none 0 0, .int .i64 0, .slice none 0 0, .slice none 0 0], .int .i64 15]) ∧ Below w.heap.size w w') ∨
  (CheckP e r ∧ ∃ (P : Nat) (hs : List Int) (a b p d : Value), r.places = P ∧ P ≤ 2032 ∧ RightX r P hs ∧ en = .returned (.tuple #[.agg #[a, b, .int .i64 (topOf hs), p, d], .int .i64 0]) ∧
    w'.ownsRow w.heap.size 3 1 a r.sig.inn.length (i64s r.sig.inn) ∧ w'.ownsRow w.heap.size 3 1 b r.sig.out.length (i64s r.sig.out) ∧ w'.ownsRow w.heap.size 3 1 p r.params.length (i64s (toldL hs r.params)) ∧ CodesO w' w.heap.size d (r.code.map (toldC hs)) ∧ Below w.heap.size w w')
theorem below_step {w w1 w2 : World} (h : Below w.heap.size w w1) (hb : Below w1.heap.size w1 w2) : Below w.heap.size w w2 := h.trans (hb.mono h.size)
theorem run_S {w1 w' : World} {s1 : Nat} {a b c : Value} (r0 : w1.cell? ⟨s1, 0, none⟩ = some a) (r1 : w1.cell? ⟨s1, 1, none⟩ = some b) (r3 : w1.cell? ⟨s1, 3, none⟩ = some c) (hs : s1 < w1.heap.size) (hb : Below w1.heap.size w1 w') :
  w'.cell? ⟨s1, 0, none⟩ = some a ∧ w'.cell? ⟨s1, 1, none⟩ = some b ∧ w'.cell? ⟨s1, 3, none⟩ = some c ∧ Below w1.heap.size w1 w' :=
 ⟨(hb.cell (p := ⟨s1, 0, none⟩) hs).trans r0, (hb.cell (p := ⟨s1, 1, none⟩) hs).trans r1, (hb.cell (p := ⟨s1, 3, none⟩) hs).trans r3, hb⟩
theorem run_sB {w1 w' : World} {s1 : Nat} {a b c : Value} (h : w'.cell? ⟨s1, 0, none⟩ = some a ∧ w'.cell? ⟨s1, 1, none⟩ = some b ∧ w'.cell? ⟨s1, 3, none⟩ = some c ∧ Below w1.heap.size w1 w') : Below w1.heap.size w1 w' := h.2.2.2
theorem below_al {w w1 : World} {o : Obj} (h : Below w.heap.size w w1) : Below w.heap.size w (w1.alloc o) := h.alloc h.size o
theorem own_carry1 {w w' : World} {base n : Nat} {e : TypeId} {v : Value} {xs : List Value} (h : w.ownsRow base e 1 v n xs) (hb : Below w.heap.size w w') : w'.ownsRow base e 1 v n xs := own_below h hb (Nat.le_refl _)
theorem own_carry2 {w w' : World} {o : Obj} {base n : Nat} {e : TypeId} {v : Value} {xs : List Value} (h : w.ownsRow base e 1 v n xs) (hb : Below (w.alloc o).heap.size (w.alloc o) w') : w'.ownsRow base e 1 v n xs := own_below (own_alloc h o) hb (Nat.le_refl _)
theorem box_after {wx wc : World} {t : TypeId} {a b c d f : Value} (hb : Below (wx.alloc (.cells #[a, b, c, d, f] t)).heap.size (wx.alloc (.cells #[a, b, c, d, f] t)) wc) : Blk wc wx.heap.size t #[a, b, c, d, f] := (Blk.new wx t #[a, b, c, d, f]).below hb (by simp)
theorem box_afterD {wx wc : World} {t : TypeId} {a b c d f : Value} (hb : Below (wx.alloc (.cells #[a, b, c, d, f] t)).drew.heap.size (wx.alloc (.cells #[a, b, c, d, f] t)).drew wc) : Blk wc wx.heap.size t #[a, b, c, d, f] := ((Blk.new wx t #[a, b, c, d, f]).drew).below hb (by show wx.heap.size < (wx.alloc _).heap.size; simp)
theorem drew_al (w : World) {o : Obj} : Below w.heap.size w (w.alloc o).drew := by
 have h := (Below.refl w.heap.size w).alloc (Nat.le_refl _) o
 exact ⟨h.os, h.tape, h.output, h.size, h.block⟩
theorem drew_below (w : World) : Below w.heap.size w w.drew := ⟨rfl, rfl, rfl, Nat.le_refl _, fun _ _ => rfl⟩
theorem one5 (a b c d e : Value) (ha : a.oneCell' = true) (hb : b.oneCell' = true) (hc : c.oneCell' = true) (hd : d.oneCell' = true) (he : e.oneCell' = true) : ∀ u ∈ [a, b, c, d, e], u.oneCell' = true := by
 intro u hu
 simp only [List.mem_cons, List.not_mem_nil, or_false] at hu
 rcases hu with rfl | rfl | rfl | rfl | rfl <;> assumption
theorem code_told {w : World} {base : Nat} {hs : List Int} {c : CodeD} {a b d : Value} {o : Obj} {t : TypeId} {x0 x1 : Value} (h0 : c.ok) (oA : w.ownsRow base 3 1 a c.args.length (i64s (toldL hs c.args))) (oB : w.ownsRow base 3 1 b c.outs.length (i64s (toldL hs c.outs))) (oT : w.ownsRow base 3 1 d c.to.length (i64s c.to)) (_ : Blk (w.alloc o) w.heap.size t #[x0, x1, a, b, d]) :
  CodeO (w.alloc o) base [.int .i64 c.op, .int .u64 (c.n : Int), a, b, d] (toldC hs c) := by
 refine ⟨a, b, d, rfl, h0, ?_, ?_, own_alloc oT o⟩
 ·show (w.alloc o).ownsRow base 3 1 a (toldL hs c.args).length (i64s (toldL hs c.args))
  rw [toldL_len]
  exact own_alloc oA o
 ·show (w.alloc o).ownsRow base 3 1 b (toldL hs c.outs).length (i64s (toldL hs c.outs))
  rw [toldL_len]
  exact own_alloc oB o
theorem code_to100 {e : EnvD} {r : RowD} {c : CodeD} (hk : codeOk e r c = true) : c.to.length ≤ 100 := by
 have h2 := codeOk_to hk
 have h3 : toHi c.op ≤ 65 := by unfold toHi; split; omega; split <;> omega
 omega
theorem info_codeA : (Tryz.prog.info? 48).map (fun i => (i.zero, i.size, i.bytes)) = some (some (.agg #[.int .i64 0, .int .u64 0, .slice none 0 0, .slice none 0 0, .slice none 0 0]), 5, 88) := by kernel_rfl
theorem sN_call {w1 w w' : World} {N : Nat} {x0 x1 x2 x3 x4 : Value} (h : w.cell? ⟨N, 0, none⟩ = some x0 ∧ w.cell? ⟨N, 1, none⟩ = some x1 ∧ w.cell? ⟨N, 2, none⟩ = some x2 ∧ w.cell? ⟨N, 3, none⟩ = some x3 ∧ w.cell? ⟨N, 4, none⟩ = some x4 ∧ N < w.heap.size ∧ Below w1.heap.size w1 w) (hb : Below w.heap.size w w') : w'.cell? ⟨N, 0, none⟩ = some x0 ∧ w'.cell? ⟨N, 1, none⟩ = some x1 ∧ w'.cell? ⟨N, 2, none⟩ = some x2 ∧ w'.cell? ⟨N, 3, none⟩ = some x3 ∧ w'.cell? ⟨N, 4, none⟩ = some x4 ∧ N < w'.heap.size ∧ Below w1.heap.size w1 w' := by
 obtain ⟨h0, h1, h2, h3, h4, hN, hw⟩ := h
 have k : ∀ i, w'.cell? ⟨N, i, none⟩ = w.cell? ⟨N, i, none⟩ := fun i => hb.cell (p := ⟨N, i, none⟩) hN
 exact ⟨(k 0).trans h0, (k 1).trans h1, (k 2).trans h2, (k 3).trans h3, (k 4).trans h4, Nat.lt_of_lt_of_le hN hb.size, below_step hw hb⟩
theorem sN_alloc {w1 w : World} {N : Nat} {x0 x1 x2 x3 x4 : Value} {o : Obj} (h : w.cell? ⟨N, 0, none⟩ = some x0 ∧ w.cell? ⟨N, 1, none⟩ = some x1 ∧ w.cell? ⟨N, 2, none⟩ = some x2 ∧ w.cell? ⟨N, 3, none⟩ = some x3 ∧ w.cell? ⟨N, 4, none⟩ = some x4 ∧ N < w.heap.size ∧ Below w1.heap.size w1 w) : (w.alloc o).cell? ⟨N, 0, none⟩ = some x0 ∧ (w.alloc o).cell? ⟨N, 1, none⟩ = some x1 ∧ (w.alloc o).cell? ⟨N, 2, none⟩ = some x2 ∧ (w.alloc o).cell? ⟨N, 3, none⟩ = some x3 ∧ (w.alloc o).cell? ⟨N, 4, none⟩ = some x4 ∧ N < (w.alloc o).heap.size ∧ Below w1.heap.size w1 (w.alloc o) := sN_call h ((Below.refl _ _).alloc (Nat.le_refl _) _)
theorem sN_drew {w1 w : World} {N : Nat} {x0 x1 x2 x3 x4 : Value} (h : w.cell? ⟨N, 0, none⟩ = some x0 ∧ w.cell? ⟨N, 1, none⟩ = some x1 ∧ w.cell? ⟨N, 2, none⟩ = some x2 ∧ w.cell? ⟨N, 3, none⟩ = some x3 ∧ w.cell? ⟨N, 4, none⟩ = some x4 ∧ N < w.heap.size ∧ Below w1.heap.size w1 w) : w.drew.cell? ⟨N, 0, none⟩ = some x0 ∧ w.drew.cell? ⟨N, 1, none⟩ = some x1 ∧ w.drew.cell? ⟨N, 2, none⟩ = some x2 ∧ w.drew.cell? ⟨N, 3, none⟩ = some x3 ∧ w.drew.cell? ⟨N, 4, none⟩ = some x4 ∧ N < w.drew.heap.size ∧ Below w1.heap.size w1 w.drew := sN_call h (drew_below w)
theorem sN_below {w1 w : World} {N : Nat} {x0 x1 x2 x3 x4 : Value} (h : w.cell? ⟨N, 0, none⟩ = some x0 ∧ w.cell? ⟨N, 1, none⟩ = some x1 ∧ w.cell? ⟨N, 2, none⟩ = some x2 ∧ w.cell? ⟨N, 3, none⟩ = some x3 ∧ w.cell? ⟨N, 4, none⟩ = some x4 ∧ N < w.heap.size ∧ Below w1.heap.size w1 w) : Below w1.heap.size w1 w := h.2.2.2.2.2.2
theorem sN_grown {w1 w w' : World} {N : Nat} {x0 x1 x2 x3 x4 : Value} {r : Option Nat} (h : w.cell? ⟨N, 0, none⟩ = some x0 ∧ w.cell? ⟨N, 1, none⟩ = some x1 ∧ w.cell? ⟨N, 2, none⟩ = some x2 ∧ w.cell? ⟨N, 3, none⟩ = some x3 ∧ w.cell? ⟨N, 4, none⟩ = some x4 ∧ N < w.heap.size ∧ Below w1.heap.size w1 w) (hg : w.grownBy w' r) (hr : ∀ j, r = some j → w1.heap.size ≤ j ∧ j ≠ N) : w'.cell? ⟨N, 0, none⟩ = some x0 ∧ w'.cell? ⟨N, 1, none⟩ = some x1 ∧ w'.cell? ⟨N, 2, none⟩ = some x2 ∧ w'.cell? ⟨N, 3, none⟩ = some x3 ∧ w'.cell? ⟨N, 4, none⟩ = some x4 ∧ N < w'.heap.size ∧ Below w1.heap.size w1 w' := by
 obtain ⟨h0, h1, h2, h3, h4, hN, hw⟩ := h
 have k : ∀ i, w'.cell? ⟨N, i, none⟩ = w.cell? ⟨N, i, none⟩ := fun i => World.cell?_of_block (hg.block N hN (fun e => (hr N e.symm).2 rfl))
 exact ⟨(k 0).trans h0, (k 1).trans h1, (k 2).trans h2, (k 3).trans h3, (k 4).trans h4, Nat.lt_of_lt_of_le hN hg.size, below_grown hw hg hw.size (fun j hj => (hr j hj).1)⟩
theorem sN_set {w1 w : World} {N gb i : Nat} {x0 x1 x2 x3 x4 u : Value} (h : w.cell? ⟨N, 0, none⟩ = some x0 ∧ w.cell? ⟨N, 1, none⟩ = some x1 ∧ w.cell? ⟨N, 2, none⟩ = some x2 ∧ w.cell? ⟨N, 3, none⟩ = some x3 ∧ w.cell? ⟨N, 4, none⟩ = some x4 ∧ N < w.heap.size ∧ Below w1.heap.size w1 w) (hne : N ≠ gb) (hgb : w1.heap.size ≤ gb) : (w.setCell ⟨gb, i, none⟩ u).cell? ⟨N, 0, none⟩ = some x0 ∧ (w.setCell ⟨gb, i, none⟩ u).cell? ⟨N, 1, none⟩ = some x1 ∧ (w.setCell ⟨gb, i, none⟩ u).cell? ⟨N, 2, none⟩ = some x2 ∧ (w.setCell ⟨gb, i, none⟩ u).cell? ⟨N, 3, none⟩ = some x3 ∧ (w.setCell ⟨gb, i, none⟩ u).cell? ⟨N, 4, none⟩ = some x4 ∧ N < (w.setCell ⟨gb, i, none⟩ u).heap.size ∧ Below w1.heap.size w1 (w.setCell ⟨gb, i, none⟩ u) := by
 obtain ⟨h0, h1, h2, h3, h4, hN, hw⟩ := h
 have k : ∀ j, (w.setCell ⟨gb, i, none⟩ u).cell? ⟨N, j, none⟩ = w.cell? ⟨N, j, none⟩ := fun j => World.cell?_of_block (heap_setCell_other w ⟨gb, i, none⟩ N u hne)
 exact ⟨(k 0).trans h0, (k 1).trans h1, (k 2).trans h2, (k 3).trans h3, (k 4).trans h4, by simpa using hN, hw.setCell (p := ⟨gb, i, none⟩) hgb _⟩
theorem RuB.below {w1 w w' : World} {gb : Nat} {r : RowD} {hs : List Int} {T : Int} {d : Value} {C : List CodeD} (h : RuB w1 gb r hs T d C w) (hb : Below w.heap.size w w') : RuB w1 gb r hs T d C w' := by
 obtain ⟨a, b, p, kb, oa, ob, op, oc, hw, hg⟩ := h
 exact ⟨a, b, p, kb.below hb kb.lt, own_carry1 oa hb, own_carry1 ob hb, own_carry1 op hb, oc.below hb, below_step hw hb, hg⟩
theorem RuB.push {w1 w w' : World} {gb n : Nat} {r : RowD} {hs : List Int} {T : Int} {d d' a b p : Value} {C : List CodeD} {cs : List Value} {c : CodeD} {vs : List (List Value)}
  (kb : Blk w gb 31 #[a, b, .int .i64 T, p, d]) (oa : w.ownsRow w1.heap.size 3 1 a r.sig.inn.length (i64s r.sig.inn)) (ob : w.ownsRow w1.heap.size 3 1 b r.sig.out.length (i64s r.sig.out)) (op : w.ownsRow w1.heap.size 3 1 p r.params.length (i64s (toldL hs r.params))) (h1 : w.ownsRow w1.heap.size 48 5 d C.length vs.flatten) (h2 : vs.length = C.length) (h3 : ∀ (i : Nat) cs c, vs[i]? = some cs → C[i]? = some c → CodeO w w1.heap.size cs c) (hb : Below w1.heap.size w1 w) (hg : w1.heap.size ≤ gb)
  (hc : CodeO w w1.heap.size cs c) (ho : w'.ownsRow w1.heap.size 48 5 d' (C.length + 1) (vs.flatten ++ cs)) (hgr : w.grownBy w' d.ownBlock) : RuB w1 gb r hs T d' (C ++ [c]) (w'.setCell ⟨gb, 4, none⟩ d') := by
 have nr : d.ownBlock ≠ some gb := own_ne h1 kb (by decide)
 have ni : ∀ g cs, Blk w g 3 cs → d.ownBlock ≠ some g := fun g cs hk => own_ne h1 hk (by decide)
 have og : ∀ {v : Value} {n : Nat} {xs : List Value}, w.ownsRow w1.heap.size 3 1 v n xs → w'.ownsRow w1.heap.size 3 1 v n xs := fun h => own_grown h hgr (fun g hgg => by
  obtain ⟨cur, hk⟩ := own_blk h hgg
  exact ni g cur hk)
 have kb' := kb.grown hgr nr
 have hk := blk_setSame kb' 4 d'
 refine ⟨a, b, p, by simpa using hk, own_other (og oa) (own_ne (og oa) kb' (by decide)), own_other (og ob) (own_ne (og ob) kb' (by decide)), own_other (og op) (own_ne (og op) kb' (by decide)), (CodesO.push (n := n) h1 h2 h3 hc ho hgr).other kb' _, (below_grown hb hgr hb.size (fun j hj => (h1.lt j hj).1)).setCell (p := ⟨gb, 4, none⟩) hg _, hg⟩
theorem blk_set5 {w : World} {g : Nat} {t : TypeId} {x0 x1 x2 x3 x4 : Value} (hk : Blk w g t #[x0, x1, x2, x3, x4]) (a b c d e : Value) : Blk (((((w.setCell ⟨g, 0, none⟩ a).setCell ⟨g, 1, none⟩ b).setCell ⟨g, 2, none⟩ c).setCell ⟨g, 3, none⟩ d).setCell ⟨g, 4, none⟩ e) g t #[a, b, c, d, e] := by
 have h := blk_setSame (blk_setSame (blk_setSame (blk_setSame (blk_setSame hk 0 a) 1 b) 2 c) 3 d) 4 e
 simpa using h
set_option maxRecDepth 100000 in
theorem run_results (tm : Array Value) (W : World) (gz : Nat) (a b c d e x : Value) (h4 : tm.getD 4 undef = .pointer (some ⟨gz, 0, none⟩)) (h5 : tm.getD 5 undef = x) (k : Blk W gz 31 #[a, b, c, d, e]) :
  (results Tryz.f14 tm).run Tryz.prog W = .ok (.tuple #[.agg #[a, b, c, d, e], x]) W := by
 obtain ⟨z0, z1, z2, z3, z4⟩ := blk5 k
 simp only [Array.getD_eq_getD_getElem?] at h4 h5
 simp [results, Tryz.results14, go_sem, h4, h5, z0, z1, z2, z3, z4]

end Go.Proofs.YtgmapikcpnffhaaGreat

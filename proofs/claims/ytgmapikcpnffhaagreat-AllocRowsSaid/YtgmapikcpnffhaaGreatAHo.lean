/-
 alloc.Homes: just which homes.
 Conditions: none.
-/
import Derived.Deep.QuietTactic
import Derived.BigQuiet
import Derived.Test.YtgmapikcpnffhaaGreatAPl
import Derived.Test.YtgmapikcpnffhaaGreatProg
import Derived.Test.YtgmapikcpnffhaaGreatABeg
import Derived.Test.YtgmapikcpnffhaaGreatASort
namespace Go.Proofs.YtgmapikcpnffhaaGreat
open Go.RowKit Go.Bk Go.Bk.Liv
set_option linter.unusedVariables false
set_option linter.unusedSimpArgs false
theorem zero_boolA (w : World) : (zeroValue 4).run Tryz.prog w = .ok (.bool false) w := by kernel_rfl
set_option maxRecDepth 100000 in
set_option maxHeartbeats 4000000 in
theorem give_any (first b : Nat) (s : List Int) (w : World) (h : IM w b (setKV s)) :
  Calls Tryz.prog 36 #[.int .i64 (first : Int), .map (some b)] w fun en w' => en = .returned (.int .i64 ((giveV first s : Nat) : Int)) ∧ w' = w := by
 have HF := Lib.hid h
 clear h
 go_enter Tryz.func36, Tryz.ntmps36
 go_wp2
 go_loopw [6] (fun i wr => ∃ n : Nat, n ≤ 2048 ∧ i = .int .i64 n ∧ w = wr ∧ Hid (∀ m, m < n → ¬ (first ≤ m ∧ m ≠ 15 ∧ (m : Int) ∉ s))) (fun i _ => 2048 - (intOf i).toNat)
 case atStart => exact ⟨0, by omega, rfl, rfl, Lib.hid (fun m hm => by omega)⟩
 case round =>
  obtain ⟨n, hn, rfl, hw, HM⟩ := hrel
  subst hw
  by_cases hlt : n < 2048
  ·have t1 : decide ((n : Int) < 2048) = true := by simp; omega
   have next : ¬ (first ≤ n ∧ n ≠ 15 ∧ (n : Int) ∉ s) → ∀ m, m < n + 1 → ¬ (first ≤ m ∧ m ≠ 15 ∧ (m : Int) ∉ s) := fun hx m hm => by
    by_cases e : m = n
    ·subst e; exact hx
    ·exact HM.out m (by omega)
   have HX := Lib.hid next
   clear next
   by_cases h1 : first ≤ n
   ·have t2 : decide ((first : Int) ≤ (n : Int)) = true := by simp; omega
    have t2n : decide (first ≤ n) = true := by simp; omega
    by_cases h2 : n = 15
    ·have t3 : ((n : Int) != 15) = false := by subst h2; rfl
     have HZ := Lib.hid (HX.out (fun hh => hh.2.1 h2))
     clear h2
     go_wp2
     exact ⟨⟨n + 1, by omega, by simp, trivial, HZ⟩, by simp [intOf]; omega⟩
    ·have t3 : ((n : Int) != 15) = true := by simp; omega
     have hlk := (HF.out.lookup (P := Tryz.prog) Tryz.underlying76 Tryz.underlying3 (zero_boolA _) (n : Int)).1
     rw [setKV_get] at hlk
     by_cases h3 : (n : Int) ∈ s
     ·rw [if_pos h3] at hlk
      simp only [Option.getD_some] at hlk
      have HZ := Lib.hid (HX.out (fun hh => hh.2.2 h3))
      clear h3 h2
      go_wp2
      exact ⟨⟨n + 1, by omega, by simp, trivial, HZ⟩, by simp [intOf]; omega⟩
     ·rw [if_neg h3] at hlk
      simp only [Option.getD_none] at hlk
      have HZ := Lib.hid (giveV_at hlt ⟨h1, h2, h3⟩ HM.out)
      clear h3 h2
      go_wp2
      go_ret
      exact ⟨by rw [HZ.out]; rfl, rfl⟩
   ·have t2 : decide ((first : Int) ≤ (n : Int)) = false := by simp; omega
    have t2n : decide (first ≤ n) = false := by simp; omega
    have HZ := Lib.hid (HX.out (fun hh => h1 hh.1))
    go_wp2
    exact ⟨⟨n + 1, by omega, by simp, trivial, HZ⟩, by simp [intOf]; omega⟩
  ·have t1 : decide ((n : Int) < 2048) = false := by simp; omega
   have HZ := Lib.hid (giveV_none (first := first) (tk := s) (fun m hm => HM.out m (by omega)))
   go_wp2
   go_ret
   exact ⟨by rw [HZ.out]; rfl, rfl⟩
end Go.Proofs.YtgmapikcpnffhaaGreat
namespace Go.Bk.Liv
open Go Go.Bk
set_option linter.unusedVariables false
set_option linter.unusedSimpArgs false
/-- the numbers of a list told by a function, one turned -/
theorem range_set (P : Nat) (H : Nat → Int) (p : Nat) (x : Int) : ((List.range P).map H).set p x = (List.range P).map fun q => if q = p then x else H q := by
 apply List.ext_getElem?
 intro i
 by_cases hi : i < P
 ·by_cases e : p = i
  ·subst e
   rw [List.getElem?_set_self (by simpa using hi)]
   simp [hi]
  ·rw [List.getElem?_set_ne e]
   have e2 : ¬ i = p := fun h => e h.symm
   simp [hi, e2]
 ·rw [List.getElem?_eq_none (by simp; omega), List.getElem?_eq_none (by simp; omega)]
theorem range_rep (P : Nat) (x : Int) : List.replicate P x = (List.range P).map fun _ => x := by
 rw [List.map_const']
 simp
theorem range_at {P : Nat} {H : Nat → Int} {p : Nat} (h : p < P) : ((List.range P).map H)[p]? = some (H p) := by simp [h]
/-- a list that holds the numbers below P, in some order, as plain numbers -/
theorem perm_nats {P : Nat} {D : List Int} (h : D.Perm ((List.range P).map fun i : Nat => (i : Int))) : ∃ L : List Nat, D = L.map (fun i : Nat => (i : Int)) ∧ L.Nodup ∧ ∀ p, p ∈ L ↔ p < P := by
 have h0 : ∀ x ∈ D, 0 ≤ x := fun x hx => by
  have := h.mem_iff.1 hx
  simp at this
  omega
 refine ⟨D.map Int.toNat, ?_, ?_, fun p => ?_⟩
 ·rw [List.map_map]
  conv => lhs; rw [← List.map_id D]
  exact List.map_congr_left fun x hx => by have := h0 x hx; simp; omega
 ·have hn : ((List.range P).map fun i : Nat => (i : Int)).Nodup := by
   rw [List.Nodup, List.pairwise_map]
   exact List.nodup_range.imp (fun h => by omega)
  have hd := h.nodup_iff.2 hn
  rw [List.Nodup, List.pairwise_map]
  exact (List.Pairwise.and_mem.1 hd).imp (fun {a b} q => by have := h0 a q.1; have := h0 b q.2.1; have := q.2.2; omega)
 ·constructor
  ·intro hp
   obtain ⟨x, hx, rfl⟩ := List.mem_map.1 hp
   have := h.mem_iff.1 hx
   simp at this
   omega
  ·intro hp
   exact List.mem_map.2 ⟨(p : Int), h.mem_iff.2 (List.mem_map.2 ⟨p, List.mem_range.2 hp, rfl⟩), by simp⟩
theorem not_taken {L : List Nat} {k p : Nat} (hn : L.Nodup) (hp : L[k]? = some p) : p ∉ L.take k := by
 intro hin
 obtain ⟨i, hi⟩ := List.mem_iff_getElem?.1 hin
 rw [List.getElem?_take] at hi
 by_cases h : i < k
 ·rw [if_pos h] at hi
  obtain ⟨h1, e1⟩ := List.getElem?_eq_some_iff.1 hi
  obtain ⟨h2, e2⟩ := List.getElem?_eq_some_iff.1 hp
  exact (List.pairwise_iff_getElem.1 hn) i k h1 h2 h (e1.trans e2.symm)
 ·rw [if_neg h] at hi
  cases hi
theorem take_snoc {L : List Nat} {k p : Nat} (hp : L[k]? = some p) : L.take (k + 1) = L.take k ++ [p] := by
 obtain ⟨h2, e2⟩ := List.getElem?_eq_some_iff.1 hp
 rw [List.take_succ_eq_append_getElem h2, e2]
theorem perm_len {P : Nat} {D : List Int} (h : D.Perm ((List.range P).map fun i : Nat => (i : Int))) : D.length = P := by
 have := h.length_eq
 simpa using this
end Go.Bk.Liv
namespace Go.Proofs.YtgmapikcpnffhaaGreat
open Go.RowKit Go.Bk Go.Bk.Liv
set_option linter.unusedVariables false
set_option linter.unusedSimpArgs false
set_option maxRecDepth 100000 in
set_option maxHeartbeats 4000000 in
theorem bse_any (v : Value) (l : List Int) (x : Int) (w : World) (hs : IR w v l) (hr : l.Pairwise (· ≤ ·)) (hl : l.length ≤ 1000000) :
  Calls Tryz.prog 35 #[v, .int .i64 x] w fun e w' => (∃ k : Nat, e = .returned (.tuple #[.int .i64 k, .bool (decide (x ∈ l))])) ∧ ∃ q, w' = w.drewN q := by
 obtain ⟨A, c, rfl, hsrc⟩ := hs
 by_cases h0 : l.length = 0
 ·have hl0 : l = [] := List.eq_nil_of_length_eq_zero h0
  subst hl0
  go_enter Tryz.func35, Tryz.ntmps35
  go_wp2_with fail
  go_loopw [7, 8] (fun i j wr => i = .int .i64 0 ∧ j = .int .i64 0 ∧ w = wr) (fun _ _ _ => 0)
  case atStart => exact ⟨rfl, rfl, rfl⟩
  case round =>
   obtain ⟨rfl, rfl, hw⟩ := hrel
   subst hw
   go_wp2_with fail
   go_ret2
   exact ⟨⟨0, by simp⟩, 0, rfl⟩
 ·obtain ⟨b, o, rfl, hb, hc⟩ := hsrc.2 (by omega)
  have h := Tryz.slices_BinarySearch_int b o l.length c l x w (Nat.le_refl _) (by omega) (fun j hj => by
   rw [hc j (.int .i64 (l.getD j 0)) (by simp [i64s, List.getD_eq_getElem?_getD, List.getElem?_eq_getElem hj])]) (by rw [List.take_of_length_le (Nat.le_refl _)]; exact hr)
  refine h.mono ?_
  rintro e w' ⟨rfl, q, rfl⟩
  rw [List.take_of_length_le (Nat.le_refl _)]
  exact ⟨⟨l.countP (· < x), by simp⟩, q, rfl⟩
theorem give_any8 (b : Nat) (s : List Int) (w : World) (h : IM w b (setKV s)) : Calls Tryz.prog 36 #[.int .i64 8, .map (some b)] w fun en w' => en = .returned (.int .i64 ((giveV 8 s : Nat) : Int)) ∧ w' = w := give_any 8 b s w h
theorem give_any0 (b : Nat) (s : List Int) (w : World) (h : IM w b (setKV s)) : Calls Tryz.prog 36 #[.int .i64 0, .map (some b)] w fun en w' => en = .returned (.int .i64 ((giveV 0 s : Nat) : Int)) ∧ w' = w := give_any 0 b s w h
/-- the places in order, as far as they are laid -/
def OrS (g P k : Nat) (wO wr : World) : Prop := ∃ D : List Int, D.length = P ∧ (∀ i, i < k → D[i]? = some (i : Int)) ∧ Blk wr g 3 (i64s D).toArray ∧ Only g wO wr
theorem OrS.put {g P k : Nat} {wO wr : World} (h : OrS g P k wO wr) (hk : k < P) : OrS g P (k + 1) wO (wr.setCell ⟨g, k, none⟩ (.int .i64 (k : Int))) := by
 obtain ⟨D, h1, h2, h3, h4⟩ := h
 refine ⟨D.set k (k : Int), by rw [List.length_set]; exact h1, fun i hi => ?_, Go.Bk.blk_put h3 k (k : Int), h4.setCell k _⟩
 by_cases e : k = i
 ·subst e
  rw [List.getElem?_set_self (by omega)]
 ·rw [List.getElem?_set_ne e]
  exact h2 i (by omega)
theorem OrS.done {g P : Nat} {wO wr : World} (h : OrS g P P wO wr) : Blk wr g 3 (i64s ((List.range P).map fun i : Nat => (i : Int))).toArray ∧ Only g wO wr := by
 obtain ⟨D, h1, h2, h3, h4⟩ := h
 have e : D = (List.range P).map fun i : Nat => (i : Int) := by
  apply List.ext_getElem?
  intro i
  by_cases hi : i < P
  ·rw [h2 i hi]; simp [hi]
  ·rw [List.getElem?_eq_none (by omega), List.getElem?_eq_none (by simp; omega)]
 subst e
 exact ⟨h3, h4⟩
end Go.Proofs.YtgmapikcpnffhaaGreat
namespace Go.Bk.Liv
open Go Go.Bk
/-- homes given one after the other -/
inductive HoR (r : RowD) : List Nat → (Nat → Int) → Prop
 | nil : HoR r [] (fun _ => -1)
 | snoc {L : List Nat} {H : Nat → Int} {p : Nat} {cl : List Int} {first : Nat} (h : HoR r L H) (hcl : IsSet cl (Clashes r p)) (hf : (first = 8 ∧ AcrossP r p) ∨ (first = 0 ∧ ¬ AcrossP r p)) : HoR r (L ++ [p]) (fun q => if q = p then ((giveV first (cl.map fun x => H x.toNat) : Nat) : Int) else H q)
theorem HoR.one {r : RowD} {L : List Nat} {H H' : Nat → Int} (h : HoR r L H) (h' : HoR r L H') : H = H' := by
 have key : ∀ {L : List Nat} {H : Nat → Int}, HoR r L H → ∀ {L' : List Nat} {H' : Nat → Int}, HoR r L' H' → L = L' → H = H' := by
  intro L H h
  induction h with
  | nil =>
   intro L' H' h' e
   cases h' with
   | nil => rfl
   | snoc h hcl hf => simp at e
  | snoc h hcl hf ih =>
   intro L' H' h' e
   cases h' with
   | nil => simp at e
   | snoc h2 hcl2 hf2 =>
    obtain ⟨e1, e2⟩ := List.append_inj' e rfl
    injection e2 with e2
    subst e1
    subst e2
    have hH := ih h2 rfl
    subst hH
    have hc := hcl.one hcl2
    subst hc
    rcases hf with ⟨f1, g1⟩ | ⟨f1, g1⟩ <;> rcases hf2 with ⟨f2, g2⟩ | ⟨f2, g2⟩
    ·subst f1; subst f2; rfl
    ·exact absurd g1 g2
    ·exact absurd g2 g1
    ·subst f1; subst f2; rfl
 exact key h h' rfl
end Go.Bk.Liv
namespace Go.Proofs.YtgmapikcpnffhaaGreat
open Go.RowKit Go.Bk Go.Bk.Liv
set_option linter.unusedVariables false
set_option linter.unusedSimpArgs false
/-- a row's homes -/
def HomesR (r : RowD) (P : Nat) (hs : List Int) : Prop := ∃ (L : List Nat) (H : Nat → Int), stD (begK (begV r)) P ((List.range P).map fun i : Nat => (i : Int)) = L.map (fun i : Nat => (i : Int)) ∧ HoR r L H ∧ hs = (List.range P).map H
theorem HomesR.one {r : RowD} {P : Nat} {hs hs' : List Int} (h : HomesR r P hs) (h' : HomesR r P hs') : hs = hs' := by
 obtain ⟨L, H, h1, h2, rfl⟩ := h
 obtain ⟨L', H', h1', h2', rfl⟩ := h'
 have e : L = L' := by
  rw [h1] at h1'
  exact (List.map_inj_right (fun a b h => by omega)).1 h1'
 subst e
 rw [h2.one h2']
/-- such homes as the document says, and just those -/
structure RightX (r : RowD) (P : Nat) (hs : List Int) : Prop extends RightP r P hs where
 hr : HomesR r P hs
def HoPostX (e : EnvD) (r : RowD) (w : World) (en : Ending) (w' : World) : Prop :=
 (¬ CheckP e r ∧ en = .returned (.tuple #[.slice none 0 0, .int .i64 6]) ∧ Below w.heap.size w w') ∨
 (CheckP e r ∧ 2032 < r.places ∧ en = .returned (.tuple #[.slice none 0 0, .int .i64 15]) ∧ Below w.heap.size w w') ∨
 (CheckP e r ∧ ∃ (P : Nat) (hs : List Int) (g : Nat), r.places = P ∧ P ≤ 2032 ∧ RightX r P hs ∧ en = .returned (.tuple #[.slice (some ⟨g, 0, none⟩) P P, .int .i64 0]) ∧ w.heap.size ≤ g ∧ Blk w' g 3 (i64s hs).toArray ∧ Below w.heap.size w w')
/-- the homes so far -/
def HoX (r : RowD) (P gH : Nat) (L : List Nat) (w5 : World) (i : Nat) (wr : World) : Prop := ∃ H : Nat → Int, (GrInv r P (L.take i) H ∧ HoR r (L.take i) H) ∧ Blk wr gH 3 (i64s ((List.range P).map H)).toArray ∧ Below gH w5 wr
set_option maxRecDepth 100000 in
set_option maxHeartbeats 16000000 in
theorem homes_x (e : EnvD) (r : RowD) (ve vr : Value) (w : World) (he : EnvV w ve e) (hr : RowV w vr r) : Calls Tryz.prog 10 #[ve, vr] w (HoPostX e r w) := by
 have HE := Lib.hid he
 have HR := Lib.hid hr
 obtain ⟨va, vb, vd, rfl, h1, h2, h3⟩ := he
 obtain ⟨vp, vq, vpar, vs, rfl, h4, h5, h6, h7⟩ := hr
 clear h1 h2 h3 h4 h5 h6 h7
 have HB0 := Lib.hid (al2 w (.cells #[va, .int .i64 e.imports, vb, vd, .bool e.mem] 26) (.cells #[vp, vq, .int .i64 r.places, vpar, vs] 31))
 have KR0 := Lib.hid (Blk.newAt (w.alloc (.cells #[va, .int .i64 e.imports, vb, vd, .bool e.mem] 26)) (N := w.heap.size + 1) 31 #[vp, vq, .int .i64 r.places, vpar, vs] (by simp))
 have KE0 := Lib.hid (Blk.alloc (Blk.new w 26 #[va, .int .i64 e.imports, vb, vd, .bool e.mem]) (.cells #[vp, vq, .int .i64 r.places, vpar, vs] 31))
 go_enter Tryz.func10, Tryz.ntmps10
 go_wp2_with fail
 (with_reducible refine (Check_any e r _ _ _ (HE.out.below HB0.out (Nat.le_refl _)) (HR.out.below HB0.out (Nat.le_refl _))).mono ?_)
 rintro en w1 ⟨b, rfl, hbc, hb1⟩
 have HB1 := Lib.hid (HB0.out.trans (hb1.mono HB0.out.size))
 have HBC := Lib.hid hbc
 have KR1 := Lib.hid (KR0.out.below hb1 KR0.out.lt)
 have KE1 := Lib.hid (KE0.out.below hb1 KE0.out.lt)
 clear hb1 hbc
 cases b with
 | false =>
  go_wp2
  go_ret2
  exact .inl ⟨(fun h => by have := HBC.out.2 h; cases this), rfl, HB1.out⟩
 | true =>
  have HC := Lib.hid (HBC.out.1 rfl)
  obtain ⟨P, hP⟩ : ∃ P : Nat, r.places = P := ⟨r.places.toNat, by have := HC.out.p1; omega⟩
  have hPt : r.places.toNat = P := by omega
  have HPT := Lib.hid hPt
  obtain ⟨n, hn⟩ : ∃ n, r.code.length = n := ⟨_, rfl⟩
  have HN := Lib.hid hn
  have HP := Lib.hid hP
  rw [hP] at KR1
  rw [hP] at HR
  clear hP hPt hn KR0 KE0
  obtain ⟨r0, r1, r2, r3, r4⟩ := blk5 KR1.out
  obtain ⟨e0, e1, e2, e3, e4⟩ := blk5 KE1.out
  have y1 := KR1.out.lt
  have y2 := KE1.out.lt
  by_cases hbig : 2032 < P
  ·have t1 : decide ((2032 : Int) < (P : Int)) = true := by simp; omega
   have t1n : decide (2032 < P) = true := by simp; omega
   go_wp2_with fail
   go_ret2
   exact .inr (.inl ⟨HC.out, by rw [HP.out]; omega, rfl, HB1.out⟩)
  ·have t1 : decide ((2032 : Int) < (P : Int)) = false := by simp; omega
   have t1n : decide (2032 < P) = false := by simp; omega
   go_wp2_with fail
   (with_reducible refine (Clash_any e r _ _ _ (HE.out.below HB1.out (Nat.le_refl _)) (HR.out.below HB1.out (Nat.le_refl _))).mono ?_)
   rintro en w2 (⟨hnc, _, _⟩ | ⟨_, vC, rfl, hT, hb2⟩)
   ·exact absurd HC.out hnc
   rw [HPT.out] at hT
   obtain ⟨AC, cC, rfl⟩ := hT.shape
   have HT2 := Lib.hid hT
   have HB2 := Lib.hid (HB1.out.trans (hb2.mono HB1.out.size))
   have KR2 := Lib.hid (KR1.out.below hb2 KR1.out.lt)
   have KE2 := Lib.hid (KE1.out.below hb2 KE1.out.lt)
   clear hT hb2 r0 r1 r2 r3 r4 e0 e1 e2 e3 e4 y1 y2 t1 t1n
   obtain ⟨r0, r1, r2, r3, r4⟩ := blk5 KR2.out
   obtain ⟨e0, e1, e2, e3, e4⟩ := blk5 KE2.out
   have y1 := KR2.out.lt
   have y2 := KE2.out.lt
   go_wp2_with fail
   (with_reducible refine (Across_any e r _ _ _ (HE.out.below HB2.out (Nat.le_refl _)) (HR.out.below HB2.out (Nat.le_refl _))).mono ?_)
   rintro en w3 (⟨hnc, _, _⟩ | ⟨_, pl, Aa, ca, rfl, ho, hset, hb3⟩)
   ·exact absurd HC.out hnc
   have HA3 := Lib.hid (IR.own ho)
   have HSET := Lib.hid hset
   have HSO := Lib.hid (show pl.Pairwise (· ≤ ·) from hset.1.imp (fun h => by omega))
   have HB3 := Lib.hid (HB2.out.trans (hb3.mono HB2.out.size))
   have KR3 := Lib.hid (KR2.out.below hb3 KR2.out.lt)
   have HT3 := Lib.hid (HT2.out.below hb3)
   obtain ⟨mp, hmp⟩ : ∃ m, pl.length = m := ⟨_, rfl⟩
   have HMP := Lib.hid hmp
   have hmp4 : mp ≤ 4096 := by rw [← hmp]; exact hset.small HC.out (fun x hx => hx.range HC.out)
   rw [hmp]
   rw [hmp] at HA3
   clear ho hset hb3 hmp r0 r1 r2 r3 r4 e0 e1 e2 e3 e4 y1 y2
   obtain ⟨r0, r1, r2, r3, r4⟩ := blk5 KR3.out
   have y1 := KR3.out.lt
   go_wp2_with fail
   (with_reducible refine (beg_x e r _ _ P n (HR.out.below HB3.out (Nat.le_refl _)) HC.out HP.out HN.out).mono ?_)
   rintro en w4 ⟨gA, rfl, hgA, hbeg, hb4⟩
   have HBEG := Lib.hid hbeg
   have HA4 := Lib.hid (HA3.out.below hb4 (Nat.le_refl _))
   have HB4 := Lib.hid (HB3.out.trans (hb4.mono HB3.out.size))
   have KR4 := Lib.hid (KR3.out.below hb4 KR3.out.lt)
   have HT4 := Lib.hid (HT3.out.below hb4)
   have hgA4 : gA < w4.heap.size := Blk.lt hbeg
   obtain ⟨ba, hba⟩ : ∃ b, w4.heap.size = b := ⟨_, rfl⟩
   have HBA := Lib.hid hba
   have hrb : w.heap.size + 1 < ba := by have := KR4.out.lt; omega
   have mk := run_mk (P := Tryz.prog) 23 3 (.int .i64 0) 8 Tryz.underlying23 info_int rfl P (by omega) (by omega)
   have hZ : (List.replicate P (Value.int .i64 0)).toArray = (i64s (List.replicate P 0)).toArray := by simp [i64s]
   rw [hZ] at mk
   clear hZ
   have KRo := Lib.hid (Blk.alloc (Blk.alloc KR4.out (.cells #[.slice (some ⟨gA, 0, none⟩) P P] 23)) (.cells (i64s (List.replicate P 0)).toArray 3))
   have KBo := Lib.hid (Blk.alloc (Blk.newAt w4 (N := ba) 23 #[.slice (some ⟨gA, 0, none⟩) P P] hba) (.cells (i64s (List.replicate P 0)).toArray 3))
   have KOo := Lib.hid (Blk.newAt (w4.alloc (.cells #[.slice (some ⟨gA, 0, none⟩) P P] 23)) (N := ba + 1) 3 (i64s (List.replicate P 0)).toArray (by simp [hba]))
   have HB4o := Lib.hid (show Below ba w4 ((w4.alloc (.cells #[.slice (some ⟨gA, 0, none⟩) P P] 23)).alloc (.cells (i64s (List.replicate P 0)).toArray 3)) from ((Below.refl ba w4).alloc (Nat.le_of_eq hba.symm) _).alloc (by simp [hba]) _)
   clear hbeg hb4 r0 r1 r2 r3 r4 y1 hgA KR3 HT3 KR2 KE2 KE1 KR1 HA3 HB1 HB2 HB3 HT2
   have KRp := Blk.alloc KR4.out (.cells #[.slice (some ⟨gA, 0, none⟩) P P] 23)
   obtain ⟨r0, r1, r2, r3, r4⟩ := blk5 KRp
   have y1 := KRp.lt
   clear KRp
   go_wp2_with fail
   obtain ⟨wO, hwO⟩ : ∃ wO, (w4.alloc (.cells #[.slice (some ⟨gA, 0, none⟩) P P] 23)).alloc (.cells (i64s (List.replicate P 0)).toArray 3) = wO := ⟨_, rfl⟩
   have HO0 := Lib.hid (show OrS (ba + 1) P 0 wO wO from ⟨_, by simp, fun i hi => by omega, hwO ▸ KOo.out, Only.refl _ _⟩)
   rw [hwO] at KRo KBo KOo HB4o ⊢
   clear hwO r0 r1 r2 r3 r4 y1 mk
   go_loopw [50] (fun i wr => ∃ k : Nat, k ≤ P ∧ i = .int .i64 k ∧ Hid (OrS (ba + 1) P k wO wr)) (fun i _ => P - (intOf i).toNat)
   case atStart => exact ⟨0, by omega, rfl, HO0⟩
   case round =>
    as_aux_lemma =>
    clear HO0
    obtain ⟨k, hk, rfl, IH⟩ := hrel
    by_cases hkP : k < P
    ·have t1 : decide ((k : Int) < P) = true := by simp; omega
     have t2 : (k : Int) < P := by omega
     obtain ⟨D, h1, h2, h3, h4⟩ := IH.out
     obtain ⟨u, c1⟩ := blk_some h3 (show k < D.length by omega)
     have c2 := frozen_of_row wr (ba + 1) k _ _ h3
     have c3 := h3.lt
     clear h1 h2 h3 h4
     go_wp2_with fail
     exact ⟨⟨k + 1, by omega, by simp, Lib.hid (IH.out.put hkP)⟩, by simp [intOf]; omega⟩
    ·have t1 : decide ((k : Int) < P) = false := by simp; omega
     have hkP2 : P = k := by omega
     subst hkP2
     obtain ⟨hk0, ho0⟩ := IH.out.done
     have HK0 := Lib.hid hk0
     have HO0 := Lib.hid ho0
     clear hk0 ho0 t1
     obtain ⟨DB, hDB0⟩ : ∃ DB, begV r = DB := ⟨_, rfl⟩
     have HDB := Lib.hid hDB0
     have hkDB := HBEG.out
     rw [hDB0] at hkDB
     have hDB : DB.length = P := by rw [← hDB0, begV_len]; exact HPT.out
     have HCMP := Lib.hid (homes1_ok ba gA (ba + 1) P P DB ((List.range P).map fun i : Nat => (i : Int)) wr (HO0.out.blk KBo.out (by omega)) (HO0.out.blk (hkDB.below HB4o.out (by omega)) (by omega)) hDB (fun x hx => by simp at hx; omega) (by omega) (by omega))
     clear hDB hkDB hDB0
     go_wp2_with fail
     (with_reducible refine (stabF_x (begK DB) ba (ba + 1) P P ((List.range P).map fun i : Nat => (i : Int)) _ HK0.out (by simp) (by omega) HCMP.out).mono ?_)
     obtain ⟨D6, hD6⟩ : ∃ D, stD (begK DB) P ((List.range P).map fun i : Nat => (i : Int)) = D := ⟨_, rfl⟩
     rw [hD6]
     have HD6 := Lib.hid hD6
     clear hD6
     rintro en w6 ⟨rfl, hp6, hk6, ho6⟩
     obtain ⟨L, hL, hLn, hLm⟩ := perm_nats hp6
     have hLl : L.length = P := by have := perm_len hp6; rw [hL] at this; simpa using this
     have HB46 := Lib.hid (HB4o.out.trans ((HO0.out.trans ho6).below ba wO (by omega) (Below.refl _ _)))
     have KR6 := Lib.hid (KR4.out.below HB46.out (by omega))
     have HL := Lib.hid hL
     have HLN := Lib.hid hLn
     have HLM := Lib.hid hLm
     have HLL := Lib.hid hLl
     have HK6 := Lib.hid hk6
     have hz6 := hk6.lt
     clear hp6 hk6 ho6 hL hLn hLm hLl HCMP HK0 HO0 KRo KBo KOo IH HBEG
     obtain ⟨s6, hs6⟩ : ∃ s, w6.heap.size = s := ⟨_, rfl⟩
     have HS6 := Lib.hid hs6
     rw [hs6] at hz6
     have KM := Lib.hid (Blk.newAt w6 (N := s6) 3 #[.int .i64 (-1)] hs6)
     have KRp := Blk.alloc KR6.out (.cells #[.int .i64 (-1)] 3)
     obtain ⟨r0, r1, r2, r3, r4⟩ := blk5 KRp
     have y1 := KRp.lt
     clear KRp
     go_wp2_with fail
     (with_reducible refine (rep_any (-1) s6 P _ KM.out (by omega)).mono ?_)
     rintro en w7 ⟨rfl, hk7, hb7⟩
     have hsz7 : (w6.alloc (.cells #[.int .i64 (-1)] 3)).heap.size = s6 + 1 := by simp [hs6]
     rw [hsz7] at hk7 hb7 ⊢
     have HB67 := Lib.hid (show Below s6 w6 w7 from ((Below.refl s6 w6).alloc (Nat.le_of_eq hs6.symm) _).trans (hb7.mono (by omega)))
     have HB47 := Lib.hid (HB46.out.trans (HB67.out.mono (by omega)))
     have HK7 := Lib.hid (HK6.out.below HB67.out hz6)
     have HH0 := Lib.hid (show HoX r P (s6 + 1) L w7 0 w7 from ⟨fun _ => -1, ⟨GrInv.start r P, HoR.nil⟩, by rw [← range_rep]; exact hk7, Below.refl _ _⟩)
     have hDl : D6.length = P := by rw [HL.out]; simpa using HLL.out
     have hz7 : s6 + 1 < w7.heap.size := hk7.lt
     clear hk7 hb7 r0 r1 r2 r3 r4 y1 KM KR6 HK6 HB67 hs6 hDl
     go_wp2_with fail
     go_loopw [67] (fun i wr => ∃ k : Nat, k ≤ P ∧ i = .int .i64 k ∧ Hid (HoX r P (s6 + 1) L w7 k wr)) (fun i _ => P - (intOf i).toNat)
     case atStart => exact ⟨0, by omega, rfl, HH0⟩
     case round =>
      as_aux_lemma =>
      clear HH0
      obtain ⟨k, hk, rfl, IH⟩ := hrel
      by_cases hkP : k < P
      ·have t1 : decide ((k : Int) < P) = true := by simp; omega
       have t2 : (k : Int) < P := by omega
       obtain ⟨H, hG, hkH, hbl⟩ := IH.out
       obtain ⟨p, hp⟩ : ∃ p, L[k]? = some p := ⟨_, List.getElem?_eq_getElem (by rw [HLL.out]; exact hkP)⟩
       have hpP := (HLM.out p).1 (List.mem_of_getElem? hp)
       have hpi : (p : Int) < P := by omega
       have KOr := HK7.out.below hbl (by omega)
       have c0 := blk_num KOr (show D6[k]? = some (p : Int) by rw [HL.out, List.getElem?_map, hp]; rfl)
       have c1 := KOr.lt
       have HBr := Lib.hid (HB47.out.trans (hbl.mono (show ba ≤ s6 + 1 by omega)))
       have hTr := HT4.out.below (show Below w4.heap.size w4 wr by rw [HBA.out]; exact HBr.out)
       obtain ⟨cl, hcl⟩ := hTr.get hpP
       obtain ⟨b1, o1, B1, k1, rfl, hb1, hc1, hir⟩ := hTr.first hpP hcl
       have hcz := hcl.small HC.out (fun x hx => hx.range HC.out)
       obtain ⟨m, hm⟩ : ∃ m, cl.length = m := ⟨_, rfl⟩
       rw [hm] at hc1 hir hcz
       have HM := Lib.hid hm
       have HIR := Lib.hid hir
       have HCL := Lib.hid hcl
       have HLP := Lib.hid hp
       have HG := Lib.hid hG
       have HKH := Lib.hid hkH
       have HBL := Lib.hid hbl
       have hmm : ∀ w, (Instr.makeMap 76 none).run Tryz.prog w = .ok (.map (some w.heap.size)) (w.alloc (.map #[] 0)) := fun w => by simp [Instr.makeMap]
       obtain ⟨bm, hbm⟩ : ∃ b, wr.heap.size = b := ⟨_, rfl⟩
       have HBM := Lib.hid hbm
       have hsz := hbl.size
       obtain ⟨hl, hhl⟩ : ∃ hl, (cl.map fun x => H x.toNat) = hl := ⟨_, rfl⟩
       have HHL := Lib.hid hhl
       clear hhl
       have HM0 := Lib.hid (show IM (wr.alloc (.map #[] 0)) bm (setKV (insAll [] (hl.take 0))) ∧ Below bm wr (wr.alloc (.map #[] 0)) from ⟨IM.newAt hbm, (Below.refl bm wr).alloc (Nat.le_of_eq hbm.symm) _⟩)
       have c0' : (wr.alloc (.map #[] 0)).cell? ⟨b1, o1 + p, none⟩ = some (.slice B1 m k1) := ((Below.refl bm wr).alloc (Nat.le_of_eq hbm.symm) (.map #[] 0)).cell (p := ⟨b1, o1 + p, none⟩) (show b1 < bm by omega) |>.trans hc1
       have y1 : b1 < bm := by omega
       clear hp hG hkH hbl KOr hTr hcl hir hm IH
       obtain ⟨wo, rfl⟩ : ∃ wo : World, wo = wr := ⟨_, rfl⟩
       go_wp2_with fail
       go_loopw [77] (fun i wr => ∃ j : Nat, j ≤ m ∧ i = .int .i64 j ∧ Hid (IM wr bm (setKV (insAll [] (hl.take j))) ∧ Below bm wo wr)) (fun i _ => m - (intOf i).toNat)
       case atStart => exact ⟨0, by omega, rfl, HM0⟩
       case round =>
        as_aux_lemma =>
        clear HM0 c0 c0' c1
        obtain ⟨j, hj, rfl, IZ⟩ := hrel
        obtain ⟨hIM, hbz⟩ := IZ.out
        have HIM := Lib.hid hIM
        have HBZ := Lib.hid hbz
        have KHz := Lib.hid (HKH.out.below hbz (by omega))
        by_cases hjm : j < m
        ·have t3 : decide ((j : Int) < m) = true := by simp; omega
         have t4 : (j : Int) < m := by omega
         obtain ⟨q, hq⟩ : ∃ q, cl[j]? = some q := ⟨_, List.getElem?_eq_getElem (by rw [HM.out]; exact hjm)⟩
         have hqr := Clashes.range HC.out ((HCL.out.2 q).1 (List.mem_of_getElem? hq))
         rw [HP.out] at hqr
         obtain ⟨zq, rfl⟩ : ∃ z : Nat, q = z := ⟨q.toNat, by omega⟩
         have hzq : zq < P := by omega
         have hzi : (zq : Int) < P := by omega
         obtain ⟨xb, xo, rfl, hxb, hcx⟩ := (HIR.out.below (show Below wo.heap.size wo wr by rw [HBM.out]; exact hbz) (Nat.le_refl _)).cell hq
         have hcH := blk_num KHz.out (range_at (H := H) hzq)
         have yH := KHz.out.lt
         have HTK := Lib.hid (show insAll [] (hl.take (j + 1)) = ins (insAll [] (hl.take j)) (H zq) from by
          have hq2 : hl[j]? = some (H zq) := by rw [← HHL.out, List.getElem?_map, hq]; rfl
          obtain ⟨h1, h2⟩ := List.getElem?_eq_some_iff.1 hq2
          rw [List.take_succ_eq_append_getElem h1, h2]
          exact insAll_snoc _ _ _)
         clear hq hqr hIM hbz IZ
         go_wp2_with (at_mapUpdate; refine wp_upd _ rfl _ _ _ 76 rfl 3 4 Tryz.underlying76 Tryz.underlying3 bm (setKV (insAll [] (hl.take j))) (H zq) (.bool true) rfl rfl rfl HIM.out ?_)
         rintro w' h1 h2 h3
         rw [setKV_upd, ← HTK.out] at h1
         have HNX := Lib.hid (show IM w' bm (setKV (insAll [] (hl.take (j + 1)))) ∧ Below bm wo w' from ⟨h1, below_grown HBZ.out h2 (by have := HBZ.out.size; have := HBM.out; omega) (fun kk hkk => by injection hkk with hkk; omega)⟩)
         clear h1 h2 h3
         go_wp2
         exact ⟨⟨j + 1, by omega, by simp, HNX⟩, by simp [intOf]; omega⟩
        ·have t3 : decide ((j : Int) < m) = false := by simp; omega
         have hjm2 : m = j := by omega
         obtain ⟨s, hs⟩ : ∃ s, insAll [] (hl.take j) = s := ⟨_, rfl⟩
         rw [hs] at hIM
         have HMS := Lib.hid (show ∀ f, giveV f (cl.map fun x => H x.toNat) = giveV f s from fun f => giveV_congr (fun x => by
          rw [← hs, mem_insAll, List.take_of_length_le (by rw [← HHL.out, List.length_map, HM.out]; omega), HHL.out]
          simp))
         have HAz := Lib.hid ((HA4.out.below (show Below w4.heap.size w4 wr by rw [HBA.out]; exact HBr.out.trans (hbz.mono (by omega))) (Nat.le_refl _)))
         clear hs
         go_wp2_with fail
         (with_reducible refine (bse_any _ pl (p : Int) _ HAz.out HSO.out (by rw [HMP.out]; omega)).mono ?_)
         rintro en wb ⟨⟨kk, rfl⟩, q, rfl⟩
         have HMy := Lib.hid (hIM.drewN q)
         have KHy := Lib.hid (KHz.out.drewN q)
         have HBy := Lib.hid (below_drewN (HBL.out.trans (hbz.mono (by omega))) q)
         obtain ⟨wy, hwy⟩ : ∃ wy, wr.drewN q = wy := ⟨_, rfl⟩
         rw [hwy] at HMy KHy HBy ⊢
         clear hwy hIM hbz HIM HBZ KHz HAz IZ
         by_cases hac : AcrossP r p
         ·have hd : decide ((p : Int) ∈ pl) = true := by rw [decide_eq_true_eq]; exact (HSET.out.2 _).2 hac
          rw [hd]
          have HGN := Lib.hid (GrInv.step (first := 8) HG.out.1 HC.out HP.out (by omega) hpP (not_taken HLN.out HLP.out) HCL.out (.inl ⟨rfl, hac⟩))
          rw [HMS.out, ← take_snoc HLP.out] at HGN
          have HRN := Lib.hid (HoR.snoc (first := 8) HG.out.2 HCL.out (.inl ⟨rfl, hac⟩))
          rw [HMS.out, ← take_snoc HLP.out] at HRN
          clear hd
          go_wp2_with fail
          (with_reducible refine (give_any8 bm s _ HMy.out).mono ?_)
          rintro en w9 ⟨rfl, rfl⟩
          obtain ⟨u9, c9⟩ := blk_some KHy.out (show p < ((List.range P).map H).length by simp; omega)
          have f9 := frozen_of_row w9 (s6 + 1) p _ _ KHy.out
          have y9 := KHy.out.lt
          go_wp2_with fail
          refine ⟨⟨k + 1, by omega, by simp, Lib.hid (show HoX r P (s6 + 1) L w7 (k + 1) _ from ⟨_, ⟨HGN.out, HRN.out⟩, by rw [← range_set]; exact Go.Bk.blk_put KHy.out p _, HBy.out.setCell (p := ⟨s6 + 1, _, none⟩) (Nat.le_refl _) _⟩)⟩, by simp [intOf]; omega⟩
         ·have hd : decide ((p : Int) ∈ pl) = false := by rw [decide_eq_false_iff_not]; exact fun h => hac ((HSET.out.2 _).1 h)
          rw [hd]
          have HGN := Lib.hid (GrInv.step (first := 0) HG.out.1 HC.out HP.out (by omega) hpP (not_taken HLN.out HLP.out) HCL.out (.inr ⟨rfl, hac⟩))
          rw [HMS.out, ← take_snoc HLP.out] at HGN
          have HRN := Lib.hid (HoR.snoc (first := 0) HG.out.2 HCL.out (.inr ⟨rfl, hac⟩))
          rw [HMS.out, ← take_snoc HLP.out] at HRN
          clear hd
          go_wp2_with fail
          (with_reducible refine (give_any0 bm s _ HMy.out).mono ?_)
          rintro en w9 ⟨rfl, rfl⟩
          obtain ⟨u9, c9⟩ := blk_some KHy.out (show p < ((List.range P).map H).length by simp; omega)
          have f9 := frozen_of_row w9 (s6 + 1) p _ _ KHy.out
          have y9 := KHy.out.lt
          go_wp2_with fail
          refine ⟨⟨k + 1, by omega, by simp, Lib.hid (show HoX r P (s6 + 1) L w7 (k + 1) _ from ⟨_, ⟨HGN.out, HRN.out⟩, by rw [← range_set]; exact Go.Bk.blk_put KHy.out p _, HBy.out.setCell (p := ⟨s6 + 1, _, none⟩) (Nat.le_refl _) _⟩)⟩, by simp [intOf]; omega⟩
      ·have t1 : decide ((k : Int) < P) = false := by simp; omega
       have hkP2 : P = k := by omega
       subst hkP2
       go_wp2_with fail
       go_ret2
       obtain ⟨H, hG, hkH, hbl⟩ := IH.out
       have hTk : L.take P = L := List.take_of_length_le (by rw [HLL.out]; exact Nat.le_refl _)
       obtain ⟨hG, hR⟩ := hG
       rw [hTk] at hG hR
       exact .inr (.inr ⟨HC.out, P, (List.range P).map H, s6 + 1, HP.out, by omega, ⟨hG.done (fun p hp => (HLM.out p).2 hp) (fun p hp => (HLM.out p).1 hp), ⟨L, H, by rw [HDB.out, HD6.out, HL.out], hR, rfl⟩⟩, rfl, by omega, hkH, HB4.out.trans ((HB47.out.mono (by omega)).trans (hbl.mono (by omega)))⟩)
end Go.Proofs.YtgmapikcpnffhaaGreat

/-
 The document's small steps: what is so behind an instruction, which places are so, a number among some, equal rows.
 Conditions: none.
-/
import Derived.Test.YtgmapikcpnffhaaGreatLivTm
namespace Go.Bk.Liv
open Go Go.RowKit Go.Bk
set_option linter.unusedVariables false
set_option linter.unusedSimpArgs false
theorem bh_step {l : List Int} {T : Nat → Nat → Bool} {p k : Nat} {x : Int} (h : l[k]? = some x) : bh (l.take (k + 1)) T p = (bh (l.take k) T p || T x.toNat p) := by
 obtain ⟨hk, e⟩ := List.getElem?_eq_some_iff.1 h
 rw [List.take_succ_eq_append_getElem hk, e]
 unfold bh
 rw [List.any_append]
 simp
theorem src_ne_bool {t : TypeId} {w : World} {b o n c g P k : Nat} {l : List Int} {x : Int} {f : Nat → Bool} (h : IR w (.slice (some ⟨b, o, none⟩) n c) l) (hx : l[k]? = some x) (hg : RB t w g P f) : b ≠ g := by
 intro e
 subst e
 obtain ⟨b', o', e, _, hc⟩ := h.cell hx
 injection e with e
 injection e with e1 e2
 subst e1
 subst e2
 rw [Blk.cell hg] at hc
 rw [List.getElem?_toArray] at hc
 unfold boolsV at hc
 rw [List.getElem?_map, Option.map_eq_some_iff] at hc
 obtain ⟨_, _, h2⟩ := hc
 cases h2
theorem IR.set_ne {w : World} {b o n c g i : Nat} {l : List Int} {u : Value} (h : IR w (.slice (some ⟨b, o, none⟩) n c) l) (hb : b ≠ g) : IR (w.setCell ⟨g, i, none⟩ u) (.slice (some ⟨b, o, none⟩) n c) l :=
 h.setCell u (fun A n' c' e a ha => by
  injection e with e1 e2 e3
  subst e1
  injection ha with ha
  subst ha
  exact hb)
/-- the numbers below k that are so -/
def lst (f : Nat → Bool) (k : Nat) : List Int := ((List.range k).filter f).map fun i : Nat => (i : Int)
theorem lst_len (f : Nat → Bool) (k : Nat) : (lst f k).length ≤ k := by
 unfold lst
 rw [List.length_map]
 have := List.length_filter_le f (List.range k)
 simpa using this
theorem lst_next (f : Nat → Bool) (k : Nat) : lst f (k + 1) = if f k then lst f k ++ [(k : Int)] else lst f k := by
 unfold lst
 rw [List.range_succ, List.filter_append]
 cases h : f k <;> simp [h]
theorem lst_set (f : Nat → Bool) (P : Nat) : IsSet (lst f P) (fun x => ∃ i : Nat, x = i ∧ i < P ∧ f i = true) := by
 refine ⟨?_, fun x => ?_⟩
 ·unfold lst
  rw [List.pairwise_map]
  exact (List.pairwise_lt_range.filter _).imp (fun h => by omega)
 ·unfold lst
  simp only [List.mem_map, List.mem_filter, List.mem_range]
  constructor
  ·rintro ⟨i, ⟨h1, h2⟩, rfl⟩
   exact ⟨i, rfl, h1, h2⟩
  ·rintro ⟨i, rfl, h1, h2⟩
   exact ⟨i, ⟨h1, h2⟩, rfl⟩
theorem IsSet.imp {l : List Int} {Q R : Int → Prop} (h : IsSet l Q) (hq : ∀ x, Q x ↔ R x) : IsSet l R := ⟨h.1, fun x => (h.2 x).trans (hq x)⟩
end Go.Bk.Liv
namespace Go.Proofs.YtgmapikcpnffhaaGreat
open Go.RowKit Go.Bk Go.Bk.Liv
set_option linter.unusedVariables false
set_option linter.unusedSimpArgs false
def BePost (P : Nat) (f : Nat → Bool) (w : World) (en : Ending) (w' : World) : Prop := ∃ g, en = .returned (.slice (some ⟨g, 0, none⟩) P P) ∧ w.heap.size ≤ g ∧ RB 4 w' g P f ∧ Below w.heap.size w w'
set_option maxRecDepth 100000 in
set_option maxHeartbeats 4000000 in
theorem behind_any (r : RowD) (vr v : Value) (i n P : Nat) (c : CodeD) (T : Nat → Nat → Bool) (w : World) (hr : RowV w vr r) (hT : TB w v n P T) (hi : r.code[i]? = some c) (hn : r.code.length = n) (hP : r.places = P) (hP4 : P ≤ 4096) (hf : FlowOk r) :
  Calls Tryz.prog 51 #[vr, v, .int .i64 (i : Int)] w (BePost P (bh (nextOf c i) T) w) := by
 obtain ⟨vp, vq, vs, vd, rfl, h4, h5, h6, h7⟩ := hr
 obtain ⟨A, cA, rfl⟩ := hT.shape
 have HR := Lib.hid (show RowV w (.agg #[vp, vq, .int .i64 (P : Int), vs, vd]) r from ⟨vp, vq, vs, vd, by rw [hP], h4, h5, h6, h7⟩)
 rw [hP]
 have HT := Lib.hid hT
 have HI := Lib.hid hi
 have HN := Lib.hid hn
 have HF := Lib.hid hf
 have HB0 := Lib.hid (show Below w.heap.size w (w.alloc (.cells #[vp, vq, .int .i64 (P : Int), vs, vd] 31)) from (Below.refl _ _).alloc (Nat.le_refl _) _)
 have K0 := Lib.hid (Blk.new w 31 #[vp, vq, .int .i64 (P : Int), vs, vd])
 have mk := run_mk (P := Tryz.prog) 24 4 (.bool false) 1 Tryz.underlying24 info_bool rfl P (by omega) (by omega)
 clear h4 h5 h6 h7 hT hi hn hf hP
 go_enter Tryz.func51, Tryz.ntmps51
 go_wp2_with fail
 have HB1 := Lib.hid (show Below w.heap.size w ((w.alloc (.cells #[vp, vq, .int .i64 (P : Int), vs, vd] 31)).alloc (.cells (Array.replicate P (.bool false)) 4)) from al2 _ _ _)
 have G1 := Lib.hid (RB.new (t := 4) (w.alloc (.cells #[vp, vq, .int .i64 (P : Int), vs, vd] 31)) (N := w.heap.size + 1) (n := P) false (by simp))
 have K1 := Lib.hid (K0.out.alloc (.cells (Array.replicate P (.bool false)) 4))
 clear mk
 (with_reducible refine (rnext_any r _ i c _ (HR.out.below HB1.out (Nat.le_refl _)) HI.out (HF.out.to i c HI.out).2.1).mono ?_)
 rintro en w1 ⟨vl, rfl, hl, hb⟩
 obtain ⟨B, cB, rfl⟩ := hl.shape
 obtain ⟨l, hll⟩ : ∃ l, nextOf c i = l := ⟨_, rfl⟩
 have HLR := Lib.hid (show ∀ x ∈ l, 0 ≤ x ∧ x < (n : Int) from fun x hx => by rw [← HN.out]; exact (HF.out.to i c HI.out).1 x (by rw [hll]; exact hx))
 rw [hll] at hl ⊢
 obtain ⟨m, hm⟩ : ∃ m, l.length = m := ⟨_, rfl⟩
 rw [hm] at hl ⊢
 have hm66 : m ≤ 66 := by rw [← hm, ← hll]; exact (HF.out.to i c HI.out).2.2
 have HLL := Lib.hid hll
 have HM := Lib.hid hm
 have HL := Lib.hid hl
 have HB := Lib.hid (HB1.out.trans (hb.mono HB1.out.size))
 have G2 := Lib.hid (G1.out.keep hb)
 have K2 := Lib.hid (K1.out.below hb K1.out.lt)
 clear hl hb hll hm
 go_wp2_with fail
 go_loopw [9] (fun j wr => ∃ k : Nat, k ≤ m ∧ j = .int .i64 k ∧ Hid (RB 4 wr (w.heap.size + 1) P (bh (l.take k) T)) ∧ Hid (IR wr (.slice B m cB) l) ∧ Hid (Blk wr w.heap.size 31 #[vp, vq, .int .i64 (P : Int), vs, vd]) ∧ Hid (Below w.heap.size w wr)) (fun j _ => m - (intOf j).toNat)
 case atStart => exact ⟨0, by omega, rfl, Lib.hid (G2.out.congr fun p _ => by simp [bh]), HL, K2, HB⟩
 case round => as_aux_lemma =>
  obtain ⟨k, hk, rfl, IG, IL, IK, IB⟩ := hrel
  by_cases hkm : k < m
  ·have t1 : decide ((k : Int) < m) = true := by simp; omega
   have t2 : (k : Int) < m := by omega
   obtain ⟨x, hx⟩ : ∃ x, l[k]? = some x := ⟨_, List.getElem?_eq_getElem (by rw [HM.out]; exact hkm)⟩
   have hxr := HLR.out x (List.mem_of_getElem? hx)
   obtain ⟨z, rfl⟩ : ∃ z : Nat, x = z := ⟨x.toNat, by omega⟩
   have hzn : (z : Int) < n := hxr.2
   have hzn2 : z < n := by omega
   have HX := Lib.hid hx
   clear hx hxr
   go_wp2_with fail
   go_loopw [10] (fun j wr => ∃ p : Nat, p ≤ P ∧ j = .int .i64 p ∧ Hid (RB 4 wr (w.heap.size + 1) P (fun q => bh (l.take (if q < p then k + 1 else k)) T q)) ∧ Hid (IR wr (.slice B m cB) l) ∧ Hid (Blk wr w.heap.size 31 #[vp, vq, .int .i64 (P : Int), vs, vd]) ∧ Hid (Below w.heap.size w wr)) (fun j _ => P - (intOf j).toNat)
   case atStart => exact ⟨0, by omega, rfl, Lib.hid (IG.out.congr fun p _ => by rw [if_neg (by omega)]), IL, IK, IB⟩
   case round => as_aux_lemma =>
    clear IG IL IK IB
    obtain ⟨p, hp, rfl, IG, IL, IK, IB⟩ := hrel
    have r2 := IK.out.cell 2
    simp at r2
    have y1 := IK.out.lt
    by_cases hpP : p < P
    ·have t3 : decide ((p : Int) < P) = true := by simp; omega
     have t4 : (p : Int) < P := by omega
     obtain ⟨b, o, rfl, hb, hc⟩ := IL.out.cell HX.out
     have hne := src_ne_bool IL.out HX.out IG.out
     obtain ⟨b2, o2, C, kC, rfl, hb2, hc2, hs2⟩ := (HT.out.below IB.out (Nat.le_refl _)).row hzn2
     obtain ⟨b3, o3, rfl, hb3, hc3⟩ := src_bool hs2 hpP
     have hc4 := IG.out.cell hpP
     rw [if_neg (Nat.lt_irrefl p)] at hc4
     have hg4 := Blk.lt IG.out
     have hz4 := frz IG.out p
     have HS := Lib.hid (bh_step (T := T) (p := p) HX.out)
     rw [Int.toNat_natCast] at HS
     have HNE := Lib.hid hne
     clear hs2 hne
     have HG' := fun (b : Bool) (hb : b = bh (l.take (k + 1)) T p) => Lib.hid ((IG.out.set p b).congr (f' := fun q => bh (l.take (if q < p + 1 then k + 1 else k)) T q) (fun q _ => by
      by_cases e : q = p
      ·subst e; simp [hb]
      ·rw [if_neg e]
       by_cases h : q < p
       ·rw [if_pos h, if_pos (by omega)]
       ·rw [if_neg h, if_neg (by omega)]))
     have HL' := fun (b' : Bool) => Lib.hid (IR.set_ne (g := w.heap.size + 1) (i := p) (u := .bool b') IL.out HNE.out)
     have HK' := fun (b' : Bool) => Lib.hid (blk_other (k := p) (u := .bool b') IK.out (show w.heap.size ≠ w.heap.size + 1 by omega))
     have HB' := fun (b' : Bool) => Lib.hid (IB.out.setCell (p := ⟨w.heap.size + 1, p, none⟩) (by simp) (.bool b'))
     cases hv : bh (l.take k) T p with
     | true =>
      rw [hv] at hc4 HS
      have HG2 := HG' true (by rw [HS.out]; rfl)
      have HL2 := HL' true
      have HK2 := HK' true
      have HB2 := HB' true
      clear HG' HL' HK' HB' hv
      go_wp2
      exact ⟨⟨p + 1, by omega, by simp, HG2, HL2, HK2, HB2⟩, by simp [intOf]; omega⟩
     | false =>
      rw [hv] at hc4 HS
      obtain ⟨tb, htb⟩ : ∃ tb, T z p = tb := ⟨_, rfl⟩
      rw [htb] at hc3 HS
      have HG2 := HG' tb (by rw [HS.out]; simp)
      have HL2 := HL' tb
      have HK2 := HK' tb
      have HB2 := HB' tb
      clear HG' HL' HK' HB' hv htb
      go_wp2
      exact ⟨⟨p + 1, by omega, by simp, HG2, HL2, HK2, HB2⟩, by simp [intOf]; omega⟩
    ·have t3 : decide ((p : Int) < P) = false := by simp; omega
     have HG2 := Lib.hid (IG.out.congr (f' := bh (l.take (k + 1)) T) fun q hq => by rw [if_pos (by omega)])
     clear IG
     go_wp2
     exact ⟨⟨k + 1, by omega, by simp, HG2, IL, IK, IB⟩, by simp [intOf]; omega⟩
  ·have t1 : decide ((k : Int) < m) = false := by simp; omega
   have HG2 := Lib.hid (IG.out.congr (f' := bh l T) fun q hq => by rw [List.take_of_length_le (by rw [HM.out]; omega)])
   clear IG
   go_wp2
   go_ret
   exact ⟨_, rfl, by omega, by rw [HLL.out]; exact HG2.out, IB.out⟩
def RliPost (P : Nat) (f : Nat → Bool) (w : World) (en : Ending) (w' : World) : Prop := ∃ v p, en = .returned v ∧ w'.ownsRow w.heap.size 3 1 v p.length (i64s p) ∧ p.length ≤ P ∧ IsSet p (fun x => ∃ i : Nat, x = i ∧ i < P ∧ f i = true) ∧ Below w.heap.size w w'
set_option maxRecDepth 100000 in
set_option maxHeartbeats 4000000 in
theorem list_any (A : Option Addr) (P c : Nat) (f : Nat → Bool) (w : World) (hs : Src w A P (boolsV (rowOf P f))) (hP4 : P ≤ 4096) : Calls Tryz.prog 50 #[.slice A P c] w (RliPost P f w) := by
 have HS := Lib.hid hs
 clear hs
 go_enter Tryz.func50, Tryz.ntmps50
 go_wp2
 go_loopw [3, 4] (fun v j wr => ∃ k q : Nat, k ≤ P ∧ j = .int .i64 k ∧ Hid ((lst f k).length = q) ∧ Hid (wr.ownsRow w.heap.size 3 1 v q (i64s (lst f k))) ∧ Hid (Below w.heap.size w wr)) (fun _ j _ => P - (intOf j).toNat)
 case atStart => exact ⟨0, 0, by omega, rfl, Lib.hid (by simp [lst]), Lib.hid (World.ownsRow_nil _ _ _ _), Lib.hid (Below.refl _ _)⟩
 case round =>
  obtain ⟨k, q, hk, rfl, IQ, iO, IB⟩ := hrel
  obtain ⟨Av, cv, hv, _⟩ := own_shape iO.out
  subst hv
  have hqk : q ≤ k := by have := lst_len f k; have := IQ.out; omega
  have hbz := IB.out.size
  by_cases hkP : k < P
  ·have t1 : decide ((k : Int) < P) = true := by simp; omega
   have t2 : (k : Int) < P := by omega
   obtain ⟨b, o, rfl, hb, hc⟩ := src_bool HS.out hkP
   have hc' := (IB.out.cell (p := ⟨b, o + k, none⟩) hb).trans hc
   have hb' : b < wr.heap.size := by omega
   have HNX := Lib.hid (lst_next f k)
   clear hc
   cases hf : f k with
   | true =>
    rw [hf] at hc' HNX
    rw [if_pos rfl] at HNX
    clear hf
    go_wp2_with (at_builtin; refine append_own _ rfl (.tmp 15) (.tmp 17) 23 rfl w.heap.size 3 (.int .i64 0) 8 Tryz.underlying23 info_int rfl (.slice Av q cv) q (i64s (lst f k)) rfl (own_alloc iO.out _) (some ⟨wr.heap.size, 0, none⟩) 1 1 [.int .i64 (k : Int)] rfl (src_one _ _ _) (one_int _ _) (by unfold maxLen; omega) (by omega) (by simp; omega) ?_)
    rintro v' w' h1 h2
    have HO := Lib.hid (show w'.ownsRow w.heap.size 3 1 v' (q + 1) (i64s (lst f (k + 1))) by
     rw [HNX.out]
     have e : i64s (lst f k ++ [(k : Int)]) = i64s (lst f k) ++ [.int .i64 (k : Int)] := by simp [i64s]
     rw [e]
     exact h1)
    have HQ := Lib.hid (show (lst f (k + 1)).length = q + 1 by rw [HNX.out]; simp [IQ.out])
    have HB := Lib.hid ((IB.out.alloc hbz (.cells #[.int .i64 (k : Int)] 3)).trans h2)
    clear h1 h2
    go_wp2
    exact ⟨⟨k + 1, q + 1, by omega, by simp, HQ, HO, HB⟩, by simp [intOf]; omega⟩
   | false =>
    rw [hf] at hc' HNX
    rw [if_neg (by simp)] at HNX
    clear hf
    have HO := Lib.hid (show wr.ownsRow w.heap.size 3 1 (.slice Av q cv) q (i64s (lst f (k + 1))) by rw [HNX.out]; exact iO.out)
    have HQ := Lib.hid (show (lst f (k + 1)).length = q by rw [HNX.out]; exact IQ.out)
    clear iO IQ
    go_wp2
    exact ⟨⟨k + 1, q, by omega, by simp, HQ, HO, IB⟩, by simp [intOf]; omega⟩
  ·have t1 : decide ((k : Int) < P) = false := by simp; omega
   have hkP2 : k = P := by omega
   subst hkP2
   go_wp2
   go_ret
   exact ⟨_, lst f k, rfl, by rw [IQ.out]; exact iO.out, lst_len f k, lst_set f k, IB.out⟩
set_option maxRecDepth 100000 in
set_option maxHeartbeats 1000000 in
theorem rin_any (v : Value) (l : List Int) (x : Int) (w : World) (hs : IR w v l) (hm : l.length ≤ 9223372036854775806) :
  Calls Tryz.prog 82 #[v, .int .i64 x] w fun e w' => e = .returned (.bool (decide (x ∈ l))) ∧ w = w' := by
 obtain ⟨A, c, rfl⟩ := hs.shape
 have HS := Lib.hid hs
 obtain ⟨n, hn⟩ : ∃ n, l.length = n := ⟨_, rfl⟩
 obtain ⟨F, hF⟩ : ∃ F : Bool, decide (x ∈ l) = F := ⟨_, rfl⟩
 rw [hn] at HS hm ⊢
 rw [hF]
 have HN := Lib.hid hn
 have HF := Lib.hid hF
 clear hs hn hF
 go_enter Tryz.func82, Tryz.ntmps82
 go_wp2
 go_loop [5] (fun i => ∃ k : Nat, k ≤ n ∧ i = .int .i64 k ∧ Hid (x ∉ l.take k)) (fun i => n - (intOf i).toNat)
 case atStart => exact ⟨0, by omega, rfl, Lib.hid (by simp)⟩
 case round =>
  obtain ⟨k, hk, rfl, IX⟩ := hrel
  by_cases hlt : k < n
  ·have t1 : decide ((k : Int) < n) = true := by simp; omega
   have t2 : (k : Int) < n := by omega
   obtain ⟨y, hy⟩ : ∃ y, l[k]? = some y := ⟨_, List.getElem?_eq_getElem (by rw [HN.out]; exact hlt)⟩
   obtain ⟨ab, ao, rfl, hab, hcl⟩ := HS.out.cell hy
   have HY := Lib.hid hy
   clear hy
   by_cases hyx : y = x
   ·have t3 : (y == x) = true := by simp [hyx]
    have HT := Lib.hid (show F = true by rw [← HF.out, decide_eq_true_eq, ← hyx]; exact List.mem_of_getElem? HY.out)
    clear hyx
    go_wp2
    go_ret
    exact ⟨by rw [HT.out]; rfl, rfl⟩
   ·have t3 : (y == x) = false := by simp [hyx]
    have HT := Lib.hid (show x ∉ l.take (k + 1) by
     rw [take_step HY.out]
     rintro (h | h)
     ·exact IX.out h
     ·exact hyx h.symm)
    clear hyx IX
    go_wp2
    go_round
    case rel => exact ⟨k + 1, by omega, by simp, HT⟩
    case measure => simp [intOf]; omega
  ·have t1 : decide ((k : Int) < n) = false := by simp; omega
   have HT := Lib.hid (show F = false by
    rw [← HF.out, decide_eq_false_iff_not]
    have := IX.out
    rwa [List.take_of_length_le (by rw [HN.out]; omega)] at this)
   go_wp2
   go_ret
   exact ⟨by rw [HT.out]; rfl, rfl⟩
end Go.Proofs.YtgmapikcpnffhaaGreat

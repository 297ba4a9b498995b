/-
 Where each place begins.
 Conditions: none.
-/
import Derived.Laws.CopyOwn
import Derived.Deep.AppendLies
import Derived.Deep.QuietTactic
import Derived.BigQuiet
import Derived.BigRegion
import Derived.RangeFuncNested
import Derived.RangeFuncBound
import Derived.RangeFuncCalls
import Derived.RangeFuncLeaves
import Derived.RangeFuncFrom
import Derived.Shelf.Abstract
import Derived.Shelf.RegionOpen
import Derived.OwnWalkIn
import Derived.TacticsInMore
import Derived.LoopNIn
import Derived.LoopIn
import Derived.Test.YtgmapikcpnffhaaGreatLNum
import Derived.Test.YtgmapikcpnffhaaGreatASort
import Derived.Test.YtgmapikcpnffhaaGreatShelf
import Derived.Test.YtgmapikcpnffhaaGreatLRing
import Derived.Test.YtgmapikcpnffhaaGreatZeros
import Derived.Test.YtgmapikcpnffhaaGreatLivPlain
import Derived.Test.YtgmapikcpnffhaaGreatLivBe
namespace Go.Proofs.YtgmapikcpnffhaaGreat
open Go.RowKit Go.Bk Go.Bk.Num
set_option linter.unusedVariables false
set_option linter.unusedSimpArgs false
theorem splice_at {D : List Int} {n k : Nat} {x : Int} (hn : ∀ i, i < n → D[i]? = some x) (hk : n + k ≤ D.length) : splice (i64s D) n (List.replicate k (.int .i64 x)) = i64s (splice D n (List.replicate k x)) ∧ (splice D n (List.replicate k x)).length = D.length ∧ ∀ i, i < n + k → (splice D n (List.replicate k x))[i]? = some x := by
 refine ⟨by simp [splice, i64s, List.map_take, List.map_drop], length_splice _ _ _ (by simpa using hk), fun i hi => ?_⟩
 unfold splice
 by_cases h : i < n
 ·rw [List.getElem?_append_left (by rw [List.length_take]; omega), List.getElem?_take, if_pos h]
  exact hn i h
 ·rw [List.getElem?_append_right (by rw [List.length_take]; omega), List.length_take, Nat.min_eq_left (by omega), List.getElem?_append_left (by simp; omega)]
  rw [List.getElem?_replicate, if_pos (by omega)]
set_option maxRecDepth 100000 in
set_option maxHeartbeats 4000000 in
theorem rep_any (x : Int) (b0 P : Nat) (w : World) (hb : Blk w b0 3 #[.int .i64 x]) (hP : P ≤ 4096) :
  Calls Tryz.prog 34 #[.slice (some ⟨b0, 0, none⟩) 1 1, .int .i64 (P : Int)] w fun en w' => en = .returned (.slice (some ⟨w.heap.size, 0, none⟩) P P) ∧ Blk w' w.heap.size 3 (i64s (List.replicate P x)).toArray ∧ Below w.heap.size w w' := by
 have HB := Lib.hid hb
 have y1 := hb.lt
 have mk := run_mk (P := Tryz.prog) 23 3 (.int .i64 0) 8 Tryz.underlying23 info_int rfl P (by omega) (by omega)
 clear hb
 have hmul : ∀ W, Calls Tryz.prog 77 #[.int .u64 1, .int .u64 (P : Int)] W fun e w' => e = .returned (.tuple #[.int .u64 0, .int .u64 (P : Int)]) ∧ w' = W := fun W => by
  have e1 : ((1 * P / 18446744073709551616 : Nat) : Int) = 0 := by omega
  have e2 : ((1 * P % 18446744073709551616 : Nat) : Int) = (P : Int) := by omega
  have h := Tryz.bits_Mul 1 P (by omega) (by omega) W
  rw [e1, e2] at h
  exact h
 go_enter Tryz.func34, Tryz.ntmps34
 go_wp2_with fail
 (with_reducible refine (hmul _).mono ?_)
 rintro en w1 ⟨rfl, rfl⟩
 clear hmul
 have t1 : decide ((9223372036854775807 : Int) < (P : Int)) = false := by simp; omega
 obtain ⟨gN, hgN⟩ : ∃ g, w1.heap.size = g := ⟨_, rfl⟩
 have HG := Lib.hid hgN
 have hZ : (List.replicate P (Value.int .i64 0)).toArray = (i64s (List.replicate P 0)).toArray := by simp [i64s]
 have HN := Lib.hid (show Blk (w1.alloc (.cells (i64s (List.replicate P 0)).toArray 3)) gN 3 (i64s (List.replicate P 0)).toArray from Blk.newAt _ _ _ hgN)
 have HS := Lib.hid (Blk.alloc HB.out (.cells (i64s (List.replicate P 0)).toArray 3))
 have HL0 := Lib.hid ((Below.refl gN w1).alloc (Nat.le_of_eq hgN.symm) (.cells (i64s (List.replicate P 0)).toArray 3))
 rw [hZ] at mk
 clear hZ
 obtain ⟨k0, hk0⟩ : ∃ k, Nat.min 1 P = k := ⟨_, rfl⟩
 have hk1 : k0 ≤ P := by rw [← hk0]; exact Nat.min_le_right _ _
 have hk2 : k0 ≤ 1 := by rw [← hk0]; exact Nat.min_le_left _ _
 have hk3 : 0 < P → 1 ≤ k0 := fun h => by rw [← hk0]; exact Nat.le_min.2 ⟨Nat.le_refl _, h⟩
 have HK0 := Lib.hid hk0
 clear hk0
 have hsrc : ∀ j v, (List.replicate k0 (Value.int .i64 x))[j]? = some v → (w1.alloc (.cells (i64s (List.replicate P 0)).toArray 3)).cell? ((⟨b0, 0, none⟩ : Addr).add j) = some v := by
  intro j v hj
  have hj1 := (List.getElem?_eq_some_iff.1 hj).1
  rw [List.length_replicate] at hj1
  have hj0 : j = 0 := by omega
  subst hj0
  rw [List.getElem?_replicate, if_pos hj1] at hj
  injection hj with hj
  subst hj
  have := HS.out.cell 0
  rw [Addr.add_lit]
  simpa using this
 have HSRC := Lib.hid hsrc
 clear hsrc
 have HQ9 := Lib.hid (show (List.replicate k0 (Value.int .i64 x)).length = Nat.min 1 P from by rw [List.length_replicate]; exact HK0.out.symm)
 have HQ8 := Lib.hid (show 0 + (List.replicate k0 (Value.int .i64 x)).length ≤ (i64s (List.replicate P 0)).length from by rw [List.length_replicate, i64s_len, List.length_replicate]; omega)
 obtain ⟨cs, hcs⟩ : ∃ cs, List.replicate k0 (Value.int .i64 x) = cs := ⟨_, rfl⟩
 have HCS := Lib.hid hcs
 rw [hcs] at HSRC HQ9 HQ8
 clear hcs
 go_wp2_with ((with_reducible show wpList _ _ _ _ _ _); refine wpList_copy_splice rfl (.tmp 31) (.tmp 32) 23 23 rfl 3 Tryz.underlying23 (by kernel_rfl) _ _ P P 1 1 rfl rfl gN 0 (i64s (List.replicate P 0)) 3 HN.out cs HQ9.out (fun _ => ⟨rfl, _, rfl, HSRC.out⟩) HQ8.out (fun v hv => by rw [← HCS.out] at hv; rw [List.eq_of_mem_replicate hv]; rfl) gN w1 HL0.out (Nat.le_refl _) ?_)
 rintro w3 hg3 hb3
 have hcl : cs.length = k0 := by rw [← HCS.out, List.length_replicate]
 rw [hcl]
 have q0 := splice_at (D := List.replicate P 0) (n := 0) (k := k0) (x := x) (fun i hi => by omega) (by simp; omega)
 obtain ⟨q1, q2, q3⟩ := q0
 have HW := Lib.hid (show ∃ D : List Int, D.length = P ∧ (∀ i, i < k0 → D[i]? = some x) ∧ Blk w3 gN 3 (i64s D).toArray ∧ Below gN w1 w3 from ⟨_, by rw [q2]; simp, fun i hi => q3 i (by omega), by rw [← q1, HCS.out]; exact hg3.out, hb3⟩)
 clear hg3 hb3 q1 q2 q3 HN HS HL0 HSRC HQ9 HQ8 hcl HCS
 go_wp2
 go_loopw [8] (fun i wr => ∃ n : Nat, (0 < P → 1 ≤ n) ∧ n ≤ P ∧ i = .int .i64 n ∧ Hid (∃ D : List Int, D.length = P ∧ (∀ i, i < n → D[i]? = some x) ∧ Blk wr gN 3 (i64s D).toArray ∧ Below gN w1 wr)) (fun i _ => P - (intOf i).toNat)
 case atStart => exact ⟨k0, hk3, hk1, rfl, HW⟩
 case round =>
  clear HW mk
  obtain ⟨n, hn1, hn2, rfl, IW⟩ := hrel
  by_cases hlt : n < P
  ·have t2 : decide ((n : Int) < P) = true := by simp; omega
   obtain ⟨D, hD, hx, hk, hbl⟩ := IW.out
   have HK := Lib.hid hk
   have HBL := Lib.hid hbl
   have HX := Lib.hid hx
   have HD := Lib.hid hD
   obtain ⟨m, hm⟩ : ∃ m, Nat.min n (P - n) = m := ⟨_, rfl⟩
   have hn1' := hn1 (by omega)
   have hm1 : 1 ≤ m := by rw [← hm]; exact Nat.le_min.2 ⟨by omega, by omega⟩
   have hm3 : m ≤ P - n := by rw [← hm]; exact Nat.min_le_right _ _
   have hm2 : n + m ≤ P := by omega
   have hmn : m ≤ n := by rw [← hm]; exact Nat.min_le_left _ _
   have HMM := Lib.hid hm
   have u1 : (n : Int) ≤ (P : Int) := by omega
   have hcut : ¬ P = n := by omega
   have u2 : ((P : Int) - (n : Int)) = ((P - n : Nat) : Int) := by omega
   have w1' : IntKind.i64.wrap ((n : Int) + (m : Int)) = ((n + m : Nat) : Int) := by rw [show (n : Int) + (m : Int) = ((n + m : Nat) : Int) by omega]; exact IntWalk.i64_in _ (by omega)
   clear hk hbl hx hD IW hm
   have hsrc : ∀ j v, (List.replicate m (Value.int .i64 x))[j]? = some v → wr.drew.cell? ((⟨gN, 0, none⟩ : Addr).add j) = some v := by
    intro j v hj
    have hjm := (List.getElem?_eq_some_iff.1 hj).1
    rw [List.length_replicate] at hjm
    rw [List.getElem?_replicate, if_pos hjm] at hj
    injection hj with hj
    subst hj
    have := blk_num HK.out.drew (HX.out j (by omega))
    rw [Addr.add_lit]
    simpa using this
   have HSRC := Lib.hid hsrc
   have HLN := Lib.hid (show (List.replicate m (Value.int .i64 x)).length = Nat.min n (P - n) from by rw [List.length_replicate]; exact HMM.out.symm)
   have HFT := Lib.hid (show n + (List.replicate m (Value.int .i64 x)).length ≤ (i64s D).length from by rw [i64s_len, HD.out, List.length_replicate]; omega)
   have HBD := Lib.hid (show Below gN w1 wr.drew from ⟨HBL.out.os, HBL.out.tape, HBL.out.output, HBL.out.size, HBL.out.block⟩)
   clear hsrc
   go_wp2_with fail
   go_region_law ((refine step_copy_splice (by rfl) (.tmp 41) (.tmp 44) 23 23 (by rfl) 3 Tryz.underlying23 (by kernel_rfl) (some ⟨gN, n, none⟩) (some ⟨gN, 0, none⟩) (P - n) (P - n) n P (by go_simp) (by go_simp) gN n (i64s D) 3 HK.out.drew (List.replicate m (.int .i64 x)) HLN.out (fun _ => ⟨rfl, ⟨gN, 0, none⟩, rfl, HSRC.out⟩) HFT.out (fun v hv => by rw [List.eq_of_mem_replicate hv]; rfl) gN w1 HBD.out (Nat.le_refl _) ?_; intro w4 hg4 hb4))
   all_goals
    obtain ⟨q1, q2, q3⟩ := splice_at (D := D) (n := n) (k := m) (x := x) HX.out (by rw [HD.out]; omega)
    have HW := Lib.hid (show ∃ D : List Int, D.length = P ∧ (∀ i, i < n + m → D[i]? = some x) ∧ Blk w4 gN 3 (i64s D).toArray ∧ Below gN w1 w4 from ⟨_, by rw [q2]; exact HD.out, q3, by rw [← q1]; exact hg4.out, hb4⟩)
    clear q1 q2 q3 hg4 hb4
    go_simp
    go_wp2
    exact ⟨⟨n + m, fun _ => by omega, by omega, rfl, HW⟩, by simp [intOf]; omega⟩
  ·have t2 : decide ((n : Int) < P) = false := by simp; omega
   go_wp2
   go_ret
   have hnP : n = P := by omega
   subst hnP
   obtain ⟨D, hD, hx, hk, hbl⟩ := IW.out
   have e : D = List.replicate n x := by
    apply List.ext_getElem?
    intro i
    rw [List.getElem?_replicate]
    by_cases hi : i < n
    ·rw [if_pos hi]; exact hx i hi
    ·rw [if_neg hi, List.getElem?_eq_none (by omega)]
   subst e
   exact ⟨by rw [HG.out]; rfl, by rw [HG.out]; exact hk, by rw [HG.out]; exact hbl⟩
end Go.Proofs.YtgmapikcpnffhaaGreat
namespace Go.Proofs.YtgmapikcpnffhaaGreat
open Go.RowKit Go.Bk Go.Bk.Num
set_option linter.unusedVariables false
set_option linter.unusedSimpArgs false
set_option maxRecDepth 100000 in
set_option maxHeartbeats 4000000 in
theorem grow_any (n : Nat) (w : World) (hn : n ≤ 1000000) :
  Calls Tryz.prog 108 #[.slice none 0 0, .int .i64 (n : Int)] w fun en w' => ∃ v, en = .returned v ∧ w'.ownsRow w.heap.size 3 1 v 0 [] ∧ Below w.heap.size w w' := by
 go_enter Tryz.func108, Tryz.ntmps108
 by_cases h0 : n = 0
 ·subst h0
  go_wp2
  go_ret
  exact ⟨_, rfl, World.ownsRow_nil _ _ _ _, Below.refl _ _⟩
 ·have t1 : decide ((0 : Int) < (n : Int)) = true := by simp; omega
  have t1n : decide (0 < n) = true := by simp; omega
  go_wp2_with (at_builtin; refine append_zeros _ rfl (.tmp 20) (.tmp 21) 23 3 rfl w.heap.size 3 (.int .i64 0) 8 .i64 Tryz.underlying23 Tryz.underlying3 info_int rfl rfl (.slice none 0 0) 0 [] rfl (World.ownsRow_nil _ _ _ _) .i64 n _ rfl rfl (by unfold maxLen; omega) (by omega) (Nat.le_refl _) ?_)
  rintro v' w' ho hb
  obtain ⟨A, c, rfl, hcc⟩ := own_shape ho
  have hA : A ≠ none := by
   intro e
   subst e
   rcases ho.2 with ⟨e, _⟩ | ⟨g, cap, cur, e, _⟩
   ·injection e; omega
   ·injection e; simp_all
  obtain ⟨a, rfl⟩ : ∃ a, A = some a := Option.ne_none_iff_exists'.1 hA
  have ho2 := own_take (k := 0) ho (by omega) hA
  have HO := Lib.hid ho2
  have HBB := Lib.hid hb
  clear ho hb ho2 hA
  go_wp2
  go_ret
  exact ⟨_, rfl, by simpa using HO.out, HBB.out⟩
set_option maxRecDepth 100000 in
set_option maxHeartbeats 4000000 in
theorem cat_any (A B : List Int) (va vb : Value) (b2 : Nat) (w : World) (hb : Blk w b2 23 #[va, vb]) (hA : IR w va A) (hB : IR w vb B) (la : A.length ≤ 100) (lb : B.length ≤ 100) :
  Calls Tryz.prog 74 #[.slice (some ⟨b2, 0, none⟩) 2 2] w fun en w' => ∃ v, en = .returned v ∧ w'.ownsRow w.heap.size 3 1 v (A.length + B.length) (i64s (A ++ B)) ∧ Below w.heap.size w w' := by
 have HB := Lib.hid hb
 have HAI := Lib.hid hA
 have HBI := Lib.hid hB
 obtain ⟨Aa, ca, rfl, _⟩ := hA
 obtain ⟨Ab, cb, rfl, _⟩ := hB
 obtain ⟨ma, hma⟩ : ∃ m, A.length = m := ⟨_, rfl⟩
 obtain ⟨mb, hmb⟩ : ∃ m, B.length = m := ⟨_, rfl⟩
 rw [hma] at HB HAI la ⊢
 rw [hmb] at HB HBI lb ⊢
 have HMA := Lib.hid hma
 have HMB := Lib.hid hmb
 clear hb hma hmb
 obtain ⟨ms, hms⟩ : ∃ s, ma + mb = s := ⟨_, rfl⟩
 have hmi : (ma : Int) + (mb : Int) = (ms : Int) := by omega
 rw [hms]
 have c0 := HB.out.cell 0
 have c1 := HB.out.cell 1
 simp at c0 c1
 have y1 := HB.out.lt
 go_enter Tryz.func74, Tryz.ntmps74
 go_wp2
 go_loopw [3, 11] (fun sv kv wr => w = wr ∧ ((kv = .int .i64 0 ∧ sv = .int .i64 0) ∨ (kv = .int .i64 1 ∧ sv = .int .i64 ma) ∨ (kv = .int .i64 2 ∧ sv = .int .i64 (ms : Int)))) (fun _ kv _ => 2 - (intOf kv).toNat)
 case atStart => exact ⟨rfl, .inl ⟨rfl, rfl⟩⟩
 case round =>
  obtain ⟨hw, ⟨rfl, rfl⟩ | ⟨rfl, rfl⟩ | ⟨rfl, rfl⟩⟩ := hrel
  ·subst hw
   have w1 : IntKind.i64.wrap (0 + (ma : Int)) = (ma : Int) := by rw [Int.zero_add]; exact IntWalk.i64_in _ (by omega)
   have t1 : decide ((ma : Int) < 0) = false := by simp
   go_wp2
   exact ⟨⟨trivial, .inr (.inl ⟨rfl, rfl⟩)⟩, by simp [intOf]⟩
  ·subst hw
   have w1 : IntKind.i64.wrap ((ma : Int) + (mb : Int)) = (ms : Int) := by rw [hmi]; exact IntWalk.i64_in _ (by omega)
   have t1 : decide ((ms : Int) < 0) = false := by simp
   go_wp2
   exact ⟨⟨trivial, .inr (.inr ⟨rfl, rfl⟩)⟩, by simp [intOf]⟩
  ·subst hw
   go_wp2_with fail
   (with_reducible refine (grow_any ms _ (by omega)).mono ?_)
   rintro en w1 ⟨v, rfl, ho, hbl⟩
   obtain ⟨base, hbase⟩ : ∃ b, w.heap.size = b := ⟨_, rfl⟩
   have HBS := Lib.hid hbase
   rw [hbase] at ho hbl
   have H0 := Lib.hid (show w1.ownsRow base 3 1 v 0 (i64s ([] : List Int)) from ho)
   have HL0 := Lib.hid hbl
   have HAx := Lib.hid (HAI.out.below hbl (Nat.le_of_eq hbase))
   have HBx := Lib.hid (HBI.out.below hbl (Nat.le_of_eq hbase))
   have HK := Lib.hid (HB.out.below hbl (by omega))
   have hsz := hbl.size
   have y2 := HK.out.lt
   clear ho hbl hbase c0 c1
   go_wp2
   go_loopw [6, 27] (fun v kv wr => Hid (Below base w wr) ∧ ((kv = .int .i64 0 ∧ Hid (wr.ownsRow base 3 1 v 0 (i64s ([] : List Int)))) ∨ (kv = .int .i64 1 ∧ Hid (wr.ownsRow base 3 1 v ma (i64s A))) ∨ (kv = .int .i64 2 ∧ Hid (wr.ownsRow base 3 1 v ms (i64s (A ++ B)))))) (fun _ kv _ => 2 - (intOf kv).toNat)
   case atStart => exact ⟨HL0, .inl ⟨rfl, H0⟩⟩
   case round =>
    clear H0 HL0 HK y2 HAx HBx hsz
    obtain ⟨IB, IC⟩ := hrel
    have HKr := HB.out.below IB.out (by have := HBS.out; omega)
    have c0 := HKr.cell 0
    have c1 := HKr.cell 1
    simp at c0 c1
    have y2 := HKr.lt
    have hsz := IB.out.size
    clear HKr
    rcases IC with ⟨rfl, iO⟩ | ⟨rfl, iO⟩ | ⟨rfl, iO⟩
    ·obtain ⟨Av, cv, hv, _⟩ := own_shape iO.out
     subst hv
     obtain ⟨_, _, e1, hsrc⟩ := HAI.out.below IB.out (by have := HBS.out; omega)
     rw [HMA.out] at e1 hsrc
     injection e1 with e1 _ e2
     subst e1
     subst e2
     have HSR := Lib.hid hsrc
     clear hsrc
     go_wp2_with (at_builtin; refine append_at _ rfl (.tmp 31) (.tmp 32) 23 rfl base 3 (.int .i64 0) 1 8 Tryz.underlying23 info_int rfl (by omega) (.slice Av 0 cv) 0 (i64s ([] : List Int)) rfl iO.out Aa ma ca (i64s A) rfl (by rw [Nat.mul_one]; exact HSR.out) (i64s_one _) (by unfold maxLen; omega) (by omega) (by have := HBS.out; omega) ?_)
     rintro v' w' g1 g2 g3 _
     have IO2 := Lib.hid (show w'.ownsRow base 3 1 v' ma (i64s A) from by simpa [i64s] using g1)
     have IB2 := Lib.hid (below_grown IB.out g2 (by have := HBS.out; omega) (fun j hj => (iO.out.lt j hj).1))
     clear g1 g2 g3
     go_wp2
     exact ⟨⟨IB2, .inr (.inl ⟨rfl, IO2⟩)⟩, by simp [intOf]⟩
    ·obtain ⟨Av, cv, hv, _⟩ := own_shape iO.out
     subst hv
     obtain ⟨_, _, e1, hsrc⟩ := HBI.out.below IB.out (by have := HBS.out; omega)
     rw [HMB.out] at e1 hsrc
     injection e1 with e1 _ e2
     subst e1
     subst e2
     have HSR := Lib.hid hsrc
     clear hsrc
     go_wp2_with (at_builtin; refine append_at _ rfl (.tmp 31) (.tmp 32) 23 rfl base 3 (.int .i64 0) 1 8 Tryz.underlying23 info_int rfl (by omega) (.slice Av ma cv) ma (i64s A) rfl iO.out Ab mb cb (i64s B) rfl (by rw [Nat.mul_one]; exact HSR.out) (i64s_one _) (by unfold maxLen; omega) (by omega) (by have := HBS.out; omega) ?_)
     rintro v' w' g1 g2 g3 _
     have IO2 := Lib.hid (show w'.ownsRow base 3 1 v' ms (i64s (A ++ B)) from by rw [i64s_app]; exact g1)
     have IB2 := Lib.hid (below_grown IB.out g2 (by have := HBS.out; omega) (fun j hj => (iO.out.lt j hj).1))
     clear g1 g2 g3
     go_wp2
     exact ⟨⟨IB2, .inr (.inr ⟨rfl, IO2⟩)⟩, by simp [intOf]⟩
    ·clear c0 c1
     go_wp2
     go_ret
     exact ⟨_, rfl, by rw [HBS.out]; exact iO.out, by rw [HBS.out]; exact IB.out⟩
end Go.Proofs.YtgmapikcpnffhaaGreat
namespace Go.Proofs.YtgmapikcpnffhaaGreat
open Go.RowKit Go.Bk Go.Shelf
set_option linter.unusedVariables false
set_option linter.unusedSimpArgs false
attribute [local go_sem] Oper.semAt_some
/-- a round's two values: a place, and the instruction's cells there -/
def plF {len : Nat} (f : Nat → List Value) (x : Fin len) : Array Value := #[.int .i64 (x.1 : Int), .agg (f x.1).toArray]
/-- an instruction's five cells lie there -/
def FiveAt (w : World) (b off : Nat) (l : List Value) (j : Nat) : Prop := ∃ c0 c1 c2 c3 c4, l = [c0, c1, c2, c3, c4] ∧ w.cell? ⟨b, off + j * 5, none⟩ = some c0 ∧ w.cell? ⟨b, off + j * 5 + 1, none⟩ = some c1 ∧ w.cell? ⟨b, off + j * 5 + 2, none⟩ = some c2 ∧ w.cell? ⟨b, off + j * 5 + 3, none⟩ = some c3 ∧ w.cell? ⟨b, off + j * 5 + 4, none⟩ = some c4
theorem FiveAt.below {w w' : World} {b off j N : Nat} {l : List Value} (h : FiveAt w b off l j) (hb : Below N w w') (hN : b < N) : FiveAt w' b off l j := by
 obtain ⟨c0, c1, c2, c3, c4, hf, g0, g1, g2, g3, g4⟩ := h
 exact ⟨c0, c1, c2, c3, c4, hf, (hb.cell (p := ⟨b, _, none⟩) hN).trans g0, (hb.cell (p := ⟨b, _, none⟩) hN).trans g1, (hb.cell (p := ⟨b, _, none⟩) hN).trans g2, (hb.cell (p := ⟨b, _, none⟩) hN).trans g3, (hb.cell (p := ⟨b, _, none⟩) hN).trans g4⟩
/-- what a round keeps: all below n₀, and the box of the slice -/
def KbC (n₀ Bs : Nat) (A B : World) : Prop := Below n₀ A B ∧ B.cell? ⟨Bs, 0, none⟩ = A.cell? ⟨Bs, 0, none⟩
theorem KbC.refl (n₀ Bs : Nat) (A : World) : KbC n₀ Bs A A := ⟨Below.refl _ _, rfl⟩
theorem KbC.trans {n₀ Bs : Nat} {A B C : World} (h : KbC n₀ Bs A B) (h' : KbC n₀ Bs B C) : KbC n₀ Bs A C := ⟨h.1.trans h'.1, h'.2.trans h.2⟩
theorem KbC.put {n₀ Bs : Nat} {w : World} (hn : n₀ ≤ w.heap.size) (hB : Bs < w.heap.size) (W : World) (l : Nat) (o o' : Obj) (hl : w.heap.size ≤ l) (h : W.heap[l]? = some o) (h1 : o.isCells = false) (h2 : o.isWalk = false) : KbC n₀ Bs W (W.putObj l o') := by
 refine ⟨belowK_b hn W l o o' hl h h1 h2, World.cell?_of_block (w := W) ?_⟩
 show (W.heap.setIfInBounds l o')[Bs]? = W.heap[Bs]?
 rw [Array.getElem?_setIfInBounds_ne (by omega)]
set_option maxHeartbeats 1000000 in
theorem backC_any (a : Option Addr) (len cap : Nat) (w : World) :
  Calls Tryz.prog 73 #[.slice a len cap] w fun e w' => e = .returned (.func (.func 107) #[] #[.pointer (some ⟨w.heap.size, 0, none⟩)]) ∧ w.alloc (.cells #[.slice a len cap] 29) = w' := by
 go_enter Tryz.func73, Tryz.ntmps73
 go_wp2
 go_ret
 exact ⟨rfl, rfl⟩
end Go.Proofs.YtgmapikcpnffhaaGreat
namespace Go.Proofs.YtgmapikcpnffhaaGreat
open Go.RowKit Go.Bk Go.Shelf
set_option linter.unusedVariables false
set_option linter.unusedSimpArgs false
attribute [local go_sem] Oper.semAt_some
/-- the last k of len places, the last first -/
def backL (len k : Nat) : List Nat := (List.range k).map fun q => len - 1 - q
theorem backL_succ (len k : Nat) : backL len (k + 1) = backL len k ++ [len - 1 - k] := by simp [backL, List.range_succ]
set_option maxRecDepth 100000 in
set_option maxHeartbeats 2000000 in
theorem backC1_x (F : Fence) (n : Nat) (h7 : F.fn 107) (hro : F.round = none) (hn : 1 ≤ n) (l Bs n₀ b off len cap : Nat) (f : Nat → List Value) (hreach : len ≤ 1000000) (hb : b < n₀) (J Jx : List (Fin len) → World → Prop)
  (hY : ∀ pre (x : Fin len) W, J pre W → pre.length < len → YieldAt F (n - 1) Tryz.prog l (plF f x) W fun e W' =>
   (e = .returned (.bool true) ∧ J (pre ++ [x]) W' ∧ KbC n₀ Bs W W') ∨ (e = .returned (.bool false) ∧ Jx (pre ++ [x]) W'))
  (W : World) (hBs : W.cell? ⟨Bs, 0, none⟩ = some (.slice (some ⟨b, off, none⟩) len cap)) (hbW : b < W.heap.size) (hc : ∀ j, j < len → FiveAt W b off (f j) j) (h0 : J [] W) :
  CallsIn F n Tryz.prog 107 #[.func (.yield l) #[] #[], .pointer (some ⟨Bs, 0, none⟩)] W fun e W' => (∃ v, e = .returned v) ∧
   ((∃ ys : List (Fin len), ys.map Fin.val = backL len len ∧ J ys W') ∨ (∃ pre, Jx pre W')) := by
 refine callsIn_of_wp Tryz.func107 rfl h7 ?_ hro
 simp only [Tryz.ntmps107, List.size_toArray, List.length_cons, List.length_nil, Nat.reduceAdd, Nat.reduceSub, Array.replicate_succ, Array.replicate_zero, List.push_toArray, List.append_toArray, List.nil_append, List.cons_append]
 have HC := Lib.hid hc
 have HY := Lib.hid hY
 clear hc hY
 gi_wp2
 gi_loopw [3] (fun i wr => ∃ k : Nat, ∃ ys : List (Fin len), (ys.length = k ∧ ys.map Fin.val = backL len k) ∧ k ≤ len ∧ i = .int .i64 ((len : Int) - 1 - k) ∧ J ys wr ∧ KbC n₀ Bs W wr)
  (fun i _ => (intOf i + 1).toNat)
 case atStart => exact ⟨0, [], ⟨rfl, rfl⟩, Nat.zero_le _, by simp, h0, KbC.refl _ _ _⟩
 case round =>
  obtain ⟨k, ys, ⟨hys, hyl⟩, hk, rfl, hJs, hnx⟩ := hrel
  have HYL := Lib.hid hyl
  clear hyl
  have hBx : wr.cell? ⟨Bs, 0, none⟩ = some (.slice (some ⟨b, off, none⟩) len cap) := hnx.2.trans hBs
  by_cases hlt : k < len
  ·obtain ⟨j, hj⟩ : ∃ j, len - 1 - k = j := ⟨_, rfl⟩
   have hji : (len : Int) - 1 - k = (j : Int) := by omega
   have hjl : j < len := by omega
   obtain ⟨c0, c1, c2, c3, c4, hf, g0, g1, g2, g3, g4⟩ := (HC.out j hjl).below hnx.1 hb
   obtain ⟨fn, tmps, assign, body, hy, hR⟩ := HY.out ys ⟨j, hjl⟩ wr hJs (by rw [hys]; exact hlt)
   simp only [plF] at hy
   rw [hf] at hy
   have y1 : b < wr.heap.size := by have := hnx.1.size; omega
   rw [hji]
   have HJ := Lib.hid hj
   have HJI := Lib.hid hji
   have HYS := Lib.hid hys
   clear hj hji hf hys
   gi_wp2
   refine hR.mono ?_
   rintro e W3 (⟨rfl, hJ3, hk3⟩ | ⟨rfl, hJx3⟩)
   ·gi_wp2
    go_roundw
    case rel => exact ⟨k + 1, _, ⟨by simp [HYS.out], by rw [List.map_append, HYL.out, backL_succ, HJ.out]; rfl⟩, by omega, by have := HJI.out; go_num, hJ3, hnx.trans hk3⟩
    case measure => simp [intOf]
   ·gi_wp2
    refine bodyPost_ret (results_none rfl _ _ _) rfl ?_
    exact ⟨⟨_, rfl⟩, .inr ⟨_, hJx3⟩⟩
  ·obtain rfl : k = len := by omega
   gi_wp2
   go_end0
   exact ⟨⟨_, rfl⟩, .inl ⟨_, HYL.out, hJs⟩⟩
theorem backC_stops_x (F : Fence) (n : Nat) (h7 : F.fn 107) (hro : F.round = none) (hn : 1 ≤ n) (Bs n₀ b off len cap : Nat) (f : Nat → List Value) (hreach : len ≤ 1000000) (w : World) (hBs : Bs < w.heap.size) (hn₀ : n₀ ≤ w.heap.size)
  (hc : w.cell? ⟨Bs, 0, none⟩ = some (.slice (some ⟨b, off, none⟩) len cap)) (hb : b < n₀) (hI : ∀ j, j < len → FiveAt w b off (f j) j) :
  SeqStopsK F n Tryz.prog 107 #[.pointer (some ⟨Bs, 0, none⟩)] (plF (len := len) f) (KbC n₀ Bs) (fun ys => ys.map Fin.val = backL len len) (fun _ => True) len w := fun q J Jx W hW _ _ hY h0 => by
 have hc' := (hW.cell (p := ⟨Bs, 0, none⟩) hBs).trans hc
 have hbw : b < w.heap.size := Nat.lt_of_lt_of_le hb hn₀
 refine (backC1_x F n h7 hro hn q Bs n₀ b off len cap f hreach hb J Jx hY W hc' (by have := hW.size; omega) (fun j hj => (hI j hj).below hW hbw) h0).mono ?_
 rintro e W' ⟨he, ⟨ys, hyl, hj⟩ | ⟨pre, hj⟩⟩
 ·exact ⟨he, .inl ⟨_, hyl, hj⟩⟩
 ·exact ⟨he, .inr ⟨_, trivial, hj⟩⟩
end Go.Proofs.YtgmapikcpnffhaaGreat
namespace Go.Proofs.YtgmapikcpnffhaaGreat
open Go.RowKit Go.Bk Go.Shelf Go.Bk.Liv
set_option linter.unusedVariables false
set_option linter.unusedSimpArgs false
attribute [local go_sem] Oper.semAt_some
theorem blk_own {β : Type} (g : Nat) (t : TypeId) (cs : Array Value) : Own (fun (_ : β) W => Blk W g t cs) := fun s W W' row hs hg hr => hs.grown hg (fun e => by
 obtain ⟨o, ho, hn⟩ := hr g e
 have : some o = some (Obj.cells cs t (0, 0)) := ho.symm.trans hs
 injection this with this
 subst this
 cases hn)
theorem keeps_below {W W' : World} (h : Below W.heap.size W W') : KeepsOthers W W' := KeepsOthers.of_grownBy (below_grownBy h) (fun j o e => by cases e)
/-- an instruction's cells, and what they mean -/
structure CodeAt (w : World) (b off j : Nat) (l : List Value) (c : CodeD) : Prop where
 five : FiveAt w b off l j
 val : ∃ p q t, l = [.int .i64 c.op, .int .u64 (c.n : Int), p, q, t] ∧ Ints w p c.args ∧ Ints w q c.outs ∧ Ints w t c.to
theorem code_fun {w : World} {Ac : Option Addr} {n cc : Nat} {l : List CodeD} (h : Structs 5 CodeC w (.slice Ac n cc) l) (hn : l.length = n) (h0 : 0 < n) :
  ∃ b off, Ac = some ⟨b, off, none⟩ ∧ b < w.heap.size ∧ ∃ f : Nat → List Value, ∀ j, j < n → ∃ c, l[j]? = some c ∧ CodeAt w b off j (f j) c := by
 obtain ⟨c0, hc0⟩ : ∃ c, l[0]? = some c := ⟨_, List.getElem?_eq_getElem (by omega)⟩
 obtain ⟨b, off, _, _, _, hA, hb, _⟩ := h.code hc0
 refine ⟨b, off, hA, hb, ?_⟩
 have key : ∀ j, ∃ v : List Value, j < n → ∃ c, l[j]? = some c ∧ CodeAt w b off j v c := by
  intro j
  by_cases hj : j < n
  ·obtain ⟨c, hc⟩ : ∃ c, l[j]? = some c := ⟨_, List.getElem?_eq_getElem (by omega)⟩
   obtain ⟨b', off', p, q, t, hA', _, g0, g1, g2, g3, g4, _, s1, s2, s3⟩ := h.code hc
   rw [hA] at hA'
   injection hA' with hA'
   injection hA' with e1 e2
   subst e1
   subst e2
   exact ⟨[.int .i64 c.op, .int .u64 (c.n : Int), p, q, t], fun _ => ⟨c, hc, ⟨⟨_, _, _, _, _, rfl, g0, g1, g2, g3, g4⟩, ⟨p, q, t, rfl, s1, s2, s3⟩⟩⟩⟩
  ·exact ⟨[], fun h => absurd h hj⟩
 exact Classical.skolem.1 key
theorem code_lens {e : EnvD} {r : RowD} {c : CodeD} (hc : CheckP e r) (hk : codeOk e r c = true) : c.args.length ≤ 100 ∧ c.outs.length ≤ 100 := by
 unfold codeOk at hk
 cases hf : formV e r.sig c.op c.n with
 | none => rw [hf] at hk; cases hk
 | some io =>
  obtain ⟨i1, o1⟩ := io
  rw [hf] at hk
  simp only [Bool.and_eq_true, decide_eq_true_eq] at hk
  have := formV_len hc.env hc.sig hf
  omega
end Go.Proofs.YtgmapikcpnffhaaGreat
namespace Go.Bk.Liv
open Go Go.Bk
/-- an instruction names places -/
def begC (j : Nat) (l : List Int) (D : List Int) : List Int := l.foldl (fun D p => D.set p.toNat (j : Int)) D
theorem begC_snoc (j : Nat) (l : List Int) (p : Int) (D : List Int) : begC j (l ++ [p]) D = (begC j l D).set p.toNat (j : Int) := by simp [begC]
theorem begC_len (j : Nat) : ∀ (l : List Int) (D : List Int), (begC j l D).length = D.length
 | [], _ => rfl
 | p :: l, D => by
  show (begC j l (D.set p.toNat (j : Int))).length = _
  rw [begC_len j l, List.length_set]
def codeL (r : RowD) (j : Nat) : List Int := match r.code[j]? with
 | some c => c.args ++ c.outs
 | none => []
/-- instructions name places, one behind the other -/
def begB (r : RowD) (js : List Nat) (D : List Int) : List Int := js.foldl (fun D j => begC j (codeL r j) D) D
theorem begB_snoc (r : RowD) (js : List Nat) (j : Nat) (D : List Int) : begB r (js ++ [j]) D = begC j (codeL r j) (begB r js D) := by simp [begB]
theorem begB_len (r : RowD) : ∀ (js : List Nat) (D : List Int), (begB r js D).length = D.length
 | [], _ => rfl
 | j :: js, D => by
  show (begB r js (begC j (codeL r j) D)).length = _
  rw [begB_len r js, begC_len]
def begP (l : List Int) (D : List Int) : List Int := l.foldl (fun D p => D.set p.toNat (-1)) D
theorem begP_snoc (l : List Int) (p : Int) (D : List Int) : begP (l ++ [p]) D = (begP l D).set p.toNat (-1) := by simp [begP]
theorem begP_len : ∀ (l : List Int) (D : List Int), (begP l D).length = D.length
 | [], _ => rfl
 | p :: l, D => by
  show (begP l (D.set p.toNat (-1))).length = _
  rw [begP_len l, List.length_set]
/-- of each place the first instruction that names it -/
def begV (r : RowD) : List Int := begP r.params (begB r ((List.range r.code.length).map fun q => r.code.length - 1 - q) (List.replicate r.places.toNat (r.code.length : Int)))
theorem begV_len (r : RowD) : (begV r).length = r.places.toNat := by simp [begV, begP_len, begB_len]
end Go.Bk.Liv
namespace Go.Proofs.YtgmapikcpnffhaaGreat
open Go.RowKit Go.Bk Go.Shelf Go.Bk.Liv
set_option linter.unusedVariables false
set_option linter.unusedSimpArgs false
attribute [local go_sem] Oper.semAt_some
/-- just these numbers -/
def BegX (gA : Nat) (D : List Int) (W : World) : Prop := Blk W gA 3 (i64s D).toArray
theorem BegX.own {β : Type} (gA : Nat) (F : β → List Int) : Own (fun (s : β) W => BegX gA (F s) W) := fun s W W' row h2 hg hr => blk_own (β := β) gA 3 _ s W W' row h2 hg hr
theorem BegX.below {gA N : Nat} {D : List Int} {W W' : World} (h : BegX gA D W) (hb : Below N W W') (hN : gA < N) : BegX gA D W' := Blk.below h hb hN
theorem BegX.put {gA : Nat} {D : List Int} {W : World} (h : BegX gA D W) (i : Nat) (x : Int) : BegX gA (D.set i x) (W.setCell ⟨gA, i, none⟩ (.int .i64 x)) := blk_put h i x
theorem BegX.cell {gA P : Nat} {D : List Int} {W : World} (h : BegX gA D W) (hl : D.length = P) {i : Nat} (hi : i < P) : (∃ u, W.cell? ⟨gA, i, none⟩ = some u) ∧ W.frozen? ⟨gA, i, none⟩ = false ∧ gA < W.heap.size :=
 ⟨blk_some h (by omega), frozen_of_row W gA i _ _ h, Blk.lt h⟩
set_option maxRecDepth 100000 in
set_option maxHeartbeats 8000000 in
theorem beg_inx (e : EnvD) (r : RowD) (vr : Value) (w : World) (P n : Nat) (hr : RowV w vr r) (hc : CheckP e r) (hP : r.places = P) (hn : r.code.length = n) :
  CallsIn Fence.wide 10 Tryz.prog 30 #[vr] w fun en w' => ∃ gA, en = .returned (.slice (some ⟨gA, 0, none⟩) P P) ∧ w.heap.size ≤ gA ∧ BegX gA (begV r) w' ∧ Below w.heap.size w w' := by
 obtain ⟨vp, vq, vpar, vs, rfl, h4, h5, h6, h7⟩ := hr
 obtain ⟨Ac, cc, rfl, _⟩ := h7.len
 rw [hP]
 have HN := Lib.hid hn
 have HP := Lib.hid hP
 have HC := Lib.hid hc
 have hP4 : P ≤ 4096 := by have := hc.p2; omega
 have hn4 : n ≤ 4096 := by have := hc.n2; omega
 have hn1 : 0 < n := by have := hc.n1; omega
 obtain ⟨np, hnp⟩ : ∃ np, r.params.length = np := ⟨_, rfl⟩
 have HNP := Lib.hid hnp
 have hnp4 : np ≤ 4096 := by
  have := nodup_range_len (m := r.places.toNat) hc.pun (fun x hx => by have := within_mem hc.pin hx; omega)
  omega
 obtain ⟨Ar, cr, rfl⟩ := h6.shape
 have HPI := Lib.hid h6.ir
 rw [hnp] at HPI ⊢
 rw [hn] at h7 ⊢
 obtain ⟨cb, off, rfl, hcb, f, hf⟩ := code_fun h7 hn hn1
 have HF := Lib.hid hf
 obtain ⟨s0, hs0⟩ : ∃ s, w.heap.size = s := ⟨_, rfl⟩
 have HS := Lib.hid hs0
 clear hf h4 h5 h6 h7 hnp hn hc hP
 refine callsIn_of_wp_marks Tryz.func30 rfl trivial ?_ rfl
 simp only [Tryz.ntmps30, List.size_toArray, List.length_cons, List.length_nil, Nat.reduceAdd, Nat.reduceSub, Array.replicate_succ, Array.replicate_zero, List.push_toArray, List.append_toArray, List.nil_append, List.cons_append]
 have KR0 := Lib.hid (Blk.newAt w (N := s0) 31 #[vp, vq, .int .i64 (P : Int), .slice Ar np cr, .slice (some ⟨cb, off, none⟩) n cc] hs0)
 obtain ⟨wa, hwa⟩ : ∃ wa, w.alloc (.cells #[vp, vq, .int .i64 (P : Int), .slice Ar np cr, .slice (some ⟨cb, off, none⟩) n cc] 31) = wa := ⟨_, rfl⟩
 have hwas : wa.heap.size = s0 + 1 := by rw [← hwa]; simp [hs0]
 have KN := Lib.hid (Blk.newAt wa (N := s0 + 1) 3 #[.int .i64 (n : Int)] hwas)
 have HB0 := Lib.hid (show Below s0 w wa from by rw [← hwa]; exact (Below.refl s0 w).alloc (Nat.le_of_eq hs0.symm) _)
 rw [hwa] at KR0
 obtain ⟨r0, r1, r2, r3, r4⟩ := blk5 KR0.out
 have y1 := KR0.out.lt
 gi_wp2_with fail
 refine ⟨trivial, ?_⟩
 refine (callsIn_wide.2 (rep_any (n : Int) (s0 + 1) P _ KN.out hP4)).mono ?_
 rintro en w1 ⟨rfl, hk1, hb1⟩
 have hsz1 : (wa.alloc (.cells #[.int .i64 (n : Int)] 3)).heap.size = s0 + 2 := by simp [hwas]
 rw [hsz1] at hk1 hb1 ⊢
 have HG1 := Lib.hid (show BegX (s0 + 2) (List.replicate P (n : Int)) w1 from hk1)
 have HB1 := Lib.hid (show Below s0 w w1 from (HB0.out.alloc (by omega) (.cells #[.int .i64 (n : Int)] 3)).trans (hb1.mono (by omega)))
 have KR1 := Lib.hid ((Blk.alloc KR0.out (.cells #[.int .i64 (n : Int)] 3)).below hb1 (by omega))
 have hz1 : s0 + 2 < w1.heap.size := hk1.lt
 obtain ⟨ba, hba⟩ : ∃ b, w1.heap.size = b := ⟨_, rfl⟩
 have KB0 := Lib.hid (Blk.newAt w1 (N := ba) 23 #[.slice (some ⟨s0 + 2, 0, none⟩) P P] hba)
 have KR2 := Lib.hid (Blk.alloc KR1.out (.cells #[.slice (some ⟨s0 + 2, 0, none⟩) P P] 23))
 clear r0 r1 r2 r3 r4 y1 hk1 hb1 KN KR0
 obtain ⟨r0, r1, r2, r3, r4⟩ := blk5 KR2.out
 have y1 := KR2.out.lt
 gi_wp2_with fail
 refine ⟨trivial, ?_⟩
 refine (callsIn_wide.2 (backC_any (some ⟨cb, off, none⟩) n cc _)).mono ?_
 rintro en w2 ⟨rfl, rfl⟩
 gi_wp2_with fail
 clear r0 r1 r2 r3 r4 y1
 have KX := Lib.hid (Blk.newAt (w1.alloc (.cells #[.slice (some ⟨s0 + 2, 0, none⟩) P P] 23)) (N := ba + 1) 29 #[.slice (some ⟨cb, off, none⟩) n cc] (by simp [hba]))
 have KBa := Lib.hid (Blk.alloc KB0.out (.cells #[.slice (some ⟨cb, off, none⟩) n cc] 29))
 have KRa := Lib.hid (Blk.alloc KR2.out (.cells #[.slice (some ⟨cb, off, none⟩) n cc] 29))
 have HGa := Lib.hid (show BegX (s0 + 2) (List.replicate P (n : Int)) ((w1.alloc (.cells #[.slice (some ⟨s0 + 2, 0, none⟩) P P] 23)).alloc (.cells #[.slice (some ⟨cb, off, none⟩) n cc] 29)) from (Blk.alloc (Blk.alloc HG1.out _) _))
 have HBa := Lib.hid (show Below s0 w ((w1.alloc (.cells #[.slice (some ⟨s0 + 2, 0, none⟩) P P] 23)).alloc (.cells #[.slice (some ⟨cb, off, none⟩) n cc] 29)) from (HB1.out.alloc (by omega) _).alloc (by simp; omega) _)
 obtain ⟨wR, hwR⟩ : ∃ wR, (w1.alloc (.cells #[.slice (some ⟨s0 + 2, 0, none⟩) P P] 23)).alloc (.cells #[.slice (some ⟨cb, off, none⟩) n cc] 29) = wR := ⟨_, rfl⟩
 rw [hwR] at KX KBa KRa HGa HBa ⊢
 have hszR : wR.heap.size = ba + 2 := by rw [← hwR]; simp [hba]
 clear hwR KB0 KR1 KR2 HG1
 have hba2 : s0 + 2 < ba := by omega
 have hcb2 : cb < s0 := by omega
 refine wpIn_rangeFunc_ownH rfl (by omega) (gf := 107) (lb := #[.pointer (some ⟨ba + 1, 0, none⟩)]) rfl trivial (enters_of Tryz.func107 (by kernel_rfl) rfl)
  (backC_stops_x Fence.wide (10 - 1) trivial rfl (by omega) (ba + 1) (s0 + 2) cb off n cc f (by omega) wR (by omega) (by omega) (by have := KX.out.cell 0; simpa using this) (by omega)
   (fun j hj => by
    obtain ⟨c, _, hcd⟩ := HF.out j hj
    exact hcd.five.below HBa.out (by omega))) KbC.trans (KbC.put (by omega) (by omega)) (Below.refl _ _) (fun _ => rfl)
  (fun (pre : List (Fin n)) W => (Blk W ba 23 #[.slice (some ⟨s0 + 2, 0, none⟩) P P] ∧ BegX (s0 + 2) (begB r (pre.map Fin.val) (List.replicate P (n : Int))) W) ∧ Below (s0 + 2) wR W)
  (fun _ _ _ => False)
  (OwnFrom.and (OwnFrom.and (Own.from (blk_own _ _ _) _) (Own.from (BegX.own _ (fun pre : List (Fin n) => begB r (pre.map Fin.val) (List.replicate P (n : Int)))) _)) (ownFrom_below (by omega) (by omega)))
  (fun _ _ _ _ _ hs _ _ => hs)
  ⟨⟨KBa.out, HGa.out⟩, Below.refl _ _⟩
  (fun x a' W => ∃ Bx, ba + 1 < Bx ∧ Blk W Bx 48 (f x.1).toArray ∧ a' = { tmps := #[.agg #[vp, vq, .int .i64 (P : Int), .slice Ar np cr, .slice (some ⟨cb, off, none⟩) n cc], .pointer (some ⟨s0, 0, none⟩), .slice none 0 0, .pointer (some ⟨ba, 0, none⟩), .int .i64 (x.1 : Int), .pointer (some ⟨Bx, 0, none⟩), undef, undef, undef, undef, .pointer (some ⟨s0, 4, none⟩), .slice (some ⟨cb, off, none⟩) n cc, .int .i64 (n : Int), .slice (some ⟨s0 + 1, 0, none⟩) 1 1, .pointer (some ⟨s0, 2, none⟩), .int .i64 (P : Int), .slice (some ⟨s0 + 2, 0, none⟩) P P, .pointer (some ⟨s0, 4, none⟩), .slice (some ⟨cb, off, none⟩) n cc, .func (.func 107) #[] #[.pointer (some ⟨ba + 1, 0, none⟩)], .int .i64 (x.1 : Int), .agg (f x.1).toArray, undef, undef, undef, undef, undef, undef, undef, undef, undef, undef, undef, undef, undef, undef, undef, undef, undef, undef, undef, undef, undef, undef, undef, undef, undef, undef, undef, undef], defers := [] })
  (fun x a' _ X Y row hs hg hr => by obtain ⟨Bx, h1, h2, h3⟩ := hs; exact ⟨Bx, h1, blk_own (β := Unit) Bx 48 _ () X Y row h2 hg (fun r e => (hr r e).2), h3⟩)
  ?assign ?body ?done ?stop
 case assign =>
  rintro l pre x W K ⟨⟨kb, kg⟩, hB⟩ hK
  obtain ⟨c, _, hcd⟩ := HF.out x.1 x.2
  obtain ⟨p, q, t, hv, i1, i2, i3⟩ := hcd.val
  obtain ⟨pA, pc, rfl⟩ := i1.shape
  obtain ⟨qA, qc, rfl⟩ := i2.shape
  obtain ⟨tA, tc, rfl⟩ := i3.shape
  have hsW := hB.size
  simp only [plF]
  rw [hv]
  clear i1 i2 i3
  gi_wp2
  exact hK _ _ ((KeepsOthers.alloc _ _).from _) ⟨(Below.refl _ W).alloc (by omega) _, World.cell?_of_block (w := W) (Below.heap_alloc W _ (ba + 1) (by omega))⟩
   ⟨⟨kb.alloc _, (BegX.own (β := Unit) _ (fun _ => _)) () _ _ none kg (World.grownBy_alloc W _ none) (fun r e => by cases e)⟩, hB.alloc (by omega) _⟩
   ⟨W.heap.size, by omega, by rw [hv]; exact Blk.new W 48 _, by rw [hv]⟩
 case body =>
  rintro l pre x a' W hl ⟨rr, hrr⟩ ⟨⟨kb, kg⟩, hB⟩ ⟨Bx, hBx, bX, rfl⟩ hlt
  obtain ⟨c, hcc, hcd⟩ := HF.out x.1 x.2
  obtain ⟨p, q, t, hv, i1, i2, i3⟩ := hcd.val
  obtain ⟨pA, pc, rfl⟩ := i1.shape
  obtain ⟨qA, qc, rfl⟩ := i2.shape
  obtain ⟨tA, tc, rfl⟩ := i3.shape
  have hck := HC.out.code c (List.mem_of_getElem? hcc)
  have hpl := Lib.hid (codeOk_places hck)
  have ha8 := code_lens HC.out hck
  obtain ⟨DD, hDD⟩ : ∃ DD, begB r (pre.map Fin.val) (List.replicate P (n : Int)) = DD := ⟨_, rfl⟩
  have HDD := Lib.hid hDD
  have HCC := Lib.hid (show codeL r x.1 = c.args ++ c.outs from by unfold codeL; rw [hcc])
  rw [hDD] at kg
  rw [hv] at bX ⊢
  have hsW := hB.size
  have hBw := HBa.out.trans (hB.mono (by omega))
  have HAI := Lib.hid ((i1.below hBw (by omega)).ir)
  have HOI := Lib.hid ((i2.below hBw (by omega)).ir)
  obtain ⟨r0, r1, r2, r3, r4⟩ := blk5 bX
  have y1 := bX.lt
  obtain ⟨N, hN⟩ : ∃ N, W.heap.size = N := ⟨_, rfl⟩
  have K2 := Lib.hid (Blk.newAt W (N := N) 23 #[.slice pA c.args.length pc, .slice qA c.outs.length qc] hN)
  have HAI2 := Lib.hid (HAI.out.alloc (.cells #[.slice pA c.args.length pc, .slice qA c.outs.length qc] 23))
  have HOI2 := Lib.hid (HOI.out.alloc (.cells #[.slice pA c.args.length pc, .slice qA c.outs.length qc] 23))
  clear hv i1 i2 i3 hck hBw
  gi_wp2_with fail
  refine ⟨trivial, ?_⟩
  refine (CallsIn.inRound l (callsIn_wide.2 (cat_any c.args c.outs (.slice pA c.args.length pc) (.slice qA c.outs.length qc) N _ K2.out HAI2.out HOI2.out ha8.1 ha8.2))).mono ?_
  rintro en W1 ⟨v, rfl, ho, hb⟩
  obtain ⟨m, hm⟩ : ∃ m, c.args.length + c.outs.length = m := ⟨_, rfl⟩
  have hmL : (c.args ++ c.outs).length = m := by simp [hm]
  have HML := Lib.hid hmL
  have hm2 : m ≤ 200 := by omega
  rw [hm] at ho
  obtain ⟨vA, vc, rfl, _⟩ := own_shape ho
  have hWsz : (W.alloc (.cells #[.slice pA c.args.length pc, .slice qA c.outs.length qc] 23)).heap.size = N + 1 := by simp [hN]
  have hb2 : Below W.heap.size W W1 := ((Below.refl W.heap.size W).alloc (Nat.le_refl _) _).trans (hb.mono (by simp))
  have HIR := Lib.hid (show IR W1 (.slice vA m vc) (c.args ++ c.outs) from IR.of (Src.of_own ho) hmL)
  have HKO := Lib.hid (keeps_below hb2)
  have HB1 := Lib.hid (hb2.mono (show s0 + 2 ≤ W.heap.size by omega))
  have HBx := Lib.hid (show W1.cell? ⟨ba + 1, 0, none⟩ = W.cell? ⟨ba + 1, 0, none⟩ from hb2.cell (p := ⟨ba + 1, 0, none⟩) (show ba + 1 < W.heap.size by omega))
  have HKB := Lib.hid (kb.below hb2 (by omega))
  have HKG := Lib.hid (kg.below hb2 (by omega))
  have HRG := Lib.hid (show ∀ y ∈ c.args ++ c.outs, 0 ≤ y ∧ y < (P : Int) from fun y hy => by
   rw [← HP.out]
   rcases List.mem_append.1 hy with h | h
   ·exact hpl.out.1 y h
   ·exact hpl.out.2.1 y h)
  have hNs : s0 + 2 < N := by omega
  have HLT := Lib.hid (show ∀ j, (Value.slice vA m vc).ownBlock = some j → N + 1 ≤ j from fun j h => by have := (ho.lt j h).1; rw [hWsz] at this; exact this)
  clear ho hb hb2 hWsz r0 r1 r2 r3 r4 y1 hm
  gi_wp2_with fail
  have HDL : DD.length = P := by rw [← HDD.out, begB_len]; simp
  gi_loopw [29] (fun i wr => ∃ k : Nat, k ≤ m ∧ i = .int .i64 k ∧ Hid (KeepsOthers W wr ∧ KbC (s0 + 2) (ba + 1) W wr ∧ Blk wr ba 23 #[.slice (some ⟨s0 + 2, 0, none⟩) P P] ∧ BegX (s0 + 2) (begC x.1 ((c.args ++ c.outs).take k) DD) wr ∧ IR wr (.slice vA m vc) (c.args ++ c.outs))) (fun i _ => m - (intOf i).toNat)
  case atStart => exact ⟨0, by omega, rfl, Lib.hid ⟨HKO.out, ⟨HB1.out, HBx.out⟩, HKB.out, HKG.out, HIR.out⟩⟩
  case round =>
   obtain ⟨k, hk, rfl, IH⟩ := hrel
   by_cases hkm : k < m
   ·have t1 : decide ((k : Int) < m) = true := by simp; omega
    have t2 : (k : Int) < m := by omega
    obtain ⟨y, hy⟩ : ∃ y, (c.args ++ c.outs)[k]? = some y := ⟨_, List.getElem?_eq_getElem (by rw [HML.out]; exact hkm)⟩
    have hyr := HRG.out y (List.mem_of_getElem? hy)
    obtain ⟨zy, rfl⟩ : ∃ z : Nat, y = z := ⟨y.toNat, by omega⟩
    have hzy : zy < P := by omega
    have hzi : (zy : Int) < P := by omega
    obtain ⟨i1, i2, i3, i4, i5⟩ := IH.out
    obtain ⟨vb, vo, rfl, hvb, hvc⟩ := i5.cell hy
    have c0 := i3.cell 0
    simp at c0
    have y0 := i3.lt
    obtain ⟨⟨u, c1⟩, c2, c3⟩ := i4.cell (by rw [begC_len]; exact HDL) hzy
    have hvN := HLT.out vb rfl
    have HI5 := Lib.hid i5
    have HI4 := Lib.hid i4
    have HI3 := Lib.hid i3
    have HI2 := Lib.hid i2
    have HI1 := Lib.hid i1
    have HTK := Lib.hid (show begC x.1 ((c.args ++ c.outs).take (k + 1)) DD = (begC x.1 ((c.args ++ c.outs).take k) DD).set zy (x.1 : Int) from by
     obtain ⟨h1, h2⟩ := List.getElem?_eq_some_iff.1 hy
     rw [List.take_succ_eq_append_getElem h1, h2, begC_snoc, Int.toNat_natCast])
    clear hy hyr i1 i2 i3 i4 i5 IH
    gi_wp2_with fail
    refine ⟨⟨k + 1, by omega, by simp, Lib.hid ⟨HI1.out.trans (KeepsOthers.setCell _ _ _), ⟨HI2.out.1.setCell (p := ⟨s0 + 2, _, none⟩) (Nat.le_refl _) _, (World.cell?_setCell_other _ _ _ _ (by simp; try omega)).trans HI2.out.2⟩, HI3.out.setCell _ (by simp; try omega), (by rw [HTK.out]; exact HI4.out.put _ _), Liv.IR.set_ne HI5.out (by omega)⟩⟩, by simp [intOf]; omega⟩
   ·have t1 : decide ((k : Int) < m) = false := by simp; omega
    obtain ⟨i1, i2, i3, i4, i5⟩ := IH.out
    gi_wp2_with fail
    have hkm2 : (c.args ++ c.outs).take k = c.args ++ c.outs := List.take_of_length_le (by rw [HML.out]; omega)
    rw [hkm2, ← HDD.out, ← HCC.out, ← begB_snoc] at i4
    exact ⟨i1.from _, i2, ⟨i3, by rw [List.map_append]; exact i4⟩, hB.trans i2.1⟩
 case done =>
  rintro Dd ys W hDd hys ⟨⟨kb, kg⟩, hB⟩ hK
  rw [hys] at kg
  obtain ⟨DE, hDE⟩ : ∃ DE, begB r (backL n n) (List.replicate P (n : Int)) = DE := ⟨_, rfl⟩
  have HDE := Lib.hid hDE
  have HEL : DE.length = P := by rw [← hDE, begB_len]; simp
  rw [hDE] at kg
  clear hDE hys
  have hsW := hB.size
  have KRw := KRa.out.below hB (by omega)
  have HBw := Lib.hid (HBa.out.trans (hB.mono (by omega)))
  have HPW := Lib.hid (HPI.out.below HBw.out (Nat.le_of_eq HS.out))
  have HPR := Lib.hid (show ∀ y ∈ r.params, 0 ≤ y ∧ y < (P : Int) from fun y hy => by
   rw [← HP.out]
   exact within_mem HC.out.pin hy)
  obtain ⟨r0, r1, r2, r3, r4⟩ := blk5 KRw
  have y1 := KRw.lt
  have HI0 := Lib.hid (show W.heap[Dd]? = some (.deferred (some [])) ∧ Blk W ba 23 #[.slice (some ⟨s0 + 2, 0, none⟩) P P] ∧ BegX (s0 + 2) (begP (r.params.take 0) DE) W ∧ Below s0 w W ∧ Dd < W.heap.size from ⟨hK, kb, kg, HBw.out, (Array.getElem?_eq_some_iff.1 hK).1⟩)
  clear hK kb kg hB KRw
  gi_wp2_with fail
  clear r0 r1 r2 r3 r4 y1
  gi_loopw [41] (fun i wr => ∃ k : Nat, k ≤ np ∧ i = .int .i64 k ∧ Hid (wr.heap[Dd]? = some (.deferred (some [])) ∧ Blk wr ba 23 #[.slice (some ⟨s0 + 2, 0, none⟩) P P] ∧ BegX (s0 + 2) (begP (r.params.take k) DE) wr ∧ Below s0 w wr ∧ Dd < wr.heap.size)) (fun i _ => np - (intOf i).toNat)
  case atStart => exact ⟨0, by omega, rfl, HI0⟩
  case round =>
   clear HI0
   obtain ⟨k, hk, rfl, IH⟩ := hrel
   obtain ⟨i1, i2, i3, i4, i5⟩ := IH.out
   have c0 := i2.cell 0
   simp at c0
   have y0 := i2.lt
   by_cases hkm : k < np
   ·have t1 : decide ((k : Int) < np) = true := by simp; omega
    have t2 : (k : Int) < np := by omega
    obtain ⟨y, hy⟩ : ∃ y, r.params[k]? = some y := ⟨_, List.getElem?_eq_getElem (by rw [HNP.out]; exact hkm)⟩
    have hyr := HPR.out y (List.mem_of_getElem? hy)
    obtain ⟨zy, rfl⟩ : ∃ z : Nat, y = z := ⟨y.toNat, by omega⟩
    have hzy : zy < P := by omega
    have hzi : (zy : Int) < P := by omega
    obtain ⟨vb, vo, rfl, hvb, hvc⟩ := (HPI.out.below i4 (Nat.le_of_eq HS.out)).cell hy
    obtain ⟨⟨u, c1⟩, c2, c3⟩ := i3.cell (by rw [begP_len]; exact HEL) hzy
    have HI4 := Lib.hid i4
    have HI3 := Lib.hid i3
    have HI2 := Lib.hid i2
    have HI1 := Lib.hid i1
    have HTK := Lib.hid (show begP (r.params.take (k + 1)) DE = (begP (r.params.take k) DE).set zy (-1) from by
     obtain ⟨h1, h2⟩ := List.getElem?_eq_some_iff.1 hy
     rw [List.take_succ_eq_append_getElem h1, h2, begP_snoc, Int.toNat_natCast])
    clear hy hyr i1 i2 i3 i4 IH
    gi_wp2_with fail
    refine ⟨⟨k + 1, by omega, by simp, Lib.hid ⟨(KeepsOthers.setCell _ _ _).same Dd _ HI1.out rfl, HI2.out.setCell _ (by simp; try omega), (by rw [HTK.out]; exact HI3.out.put _ _), HI4.out.setCell (p := ⟨s0 + 2, _, none⟩) (by simp; try omega) _, by simpa using i5⟩⟩, by simp [intOf]; omega⟩
   ·have t1 : decide ((k : Int) < np) = false := by simp; omega
    gi_wp2_with fail
    refine ⟨by simp, .inl ⟨_, _, rfl, run_takeDeferred i1, ?_⟩⟩
    have hkm2 : r.params.take k = r.params := List.take_of_length_le (by rw [HNP.out]; omega)
    have hbv : begP r.params DE = begV r := by
     unfold begV
     rw [← HDE.out, HP.out, HN.out, Int.toNat_natCast]
     rfl
    rw [hkm2, hbv] at i3
    refine ⟨_, results_tmp (t := 2) rfl _ _ _, s0 + 2, rfl, by rw [HS.out]; omega, (BegX.own (β := Unit) _ (fun _ => _)).putObj (s := ()) _ i3 i1 rfl, ?_⟩
    rw [HS.out]
    exact i4.trans (belowK_b (w := w) (Nat.le_of_eq HS.out.symm) wr Dd _ _ (by have := HS.out; omega) i1 rfl rfl)
 case stop =>
  rintro Dd c pre W _ _ h _
  exact h.elim
theorem beg_x (e : EnvD) (r : RowD) (vr : Value) (w : World) (P n : Nat) (hr : RowV w vr r) (hc : CheckP e r) (hP : r.places = P) (hn : r.code.length = n) :
  Calls Tryz.prog 30 #[vr] w fun en w' => ∃ gA, en = .returned (.slice (some ⟨gA, 0, none⟩) P P) ∧ w.heap.size ≤ gA ∧ BegX gA (begV r) w' ∧ Below w.heap.size w w' :=
 (callsIn_wide (n := 10)).1 (beg_inx e r vr w P n hr hc hP hn)
end Go.Proofs.YtgmapikcpnffhaaGreat

/-
  What leb's reader of groups answers, at each of its four uses, and what leb.U answers.
  Conditions: the slice is within the row's own reach.
-/
import Derived.Test.YtlfbmpbnmakacaaRead0
namespace Go.Proofs.Ytlfbmpbnmakacaa
open Go.RowKit Go.Bk Go.Bk.Leb

theorem rd_nil {may : Nat → Bool} {m i q : Nat} : rd may m [] i q = (4, 0, 0) := rfl
theorem rd_last_ok {may : Nat → Bool} {m q x : Nat} {r : List Nat} (h : x < 128) (hm : may x = true) : rd may m (x :: r) m q = (0, q + x * 128 ^ m, m + 1) := by simp [rd, h, hm]
theorem rd_last_no {may : Nat → Bool} {m q x : Nat} {r : List Nat} (h : ¬ (x < 128 ∧ may x = true)) : rd may m (x :: r) m q = (3, 0, m) := by simp only [rd, if_true, if_neg h]
theorem rd_end {may : Nat → Bool} {m i q x : Nat} {r : List Nat} (hi : i < m) (h : x < 128) : rd may m (x :: r) i q = (0, q + x * 128 ^ i, i + 1) := by
  simp [rd, h, show ¬ i = m from by omega]
theorem rd_more {may : Nat → Bool} {m i q x : Nat} {r : List Nat} (hi : i < m) (h : ¬ x < 128) : rd may m (x :: r) i q = rd may m r (i + 1) (q + (x % 128) * 128 ^ i) := by
  rw [rd]
  simp only [show ¬ i = m from by omega, h, if_false]
theorem drop_at {l : List Nat} {k : Nat} (h : k < l.length) : l.drop k = l[k] :: l.drop (k + 1) := List.drop_eq_getElem_cons h

def natV (n _ : Nat) : Int := ((n % 18446744073709551616 : Nat) : Int)

theorem natV_small {q x k j : Nat} (hx : x < 128) (hk : k ≤ 8) (hq : q < 128 ^ k) : natV (q + x * 128 ^ k) j = ((q + x * 128 ^ k : Nat) : Int) := by
  have h1 := pow_small hk
  have h2 : x * 128 ^ k ≤ 127 * 128 ^ k := Nat.mul_le_mul_right _ (by omega)
  unfold natV
  congr 1
  exact Nat.mod_eq_of_lt (by omega)

/-- the loop's relation: k bytes were read, their number is q -/
def ReadRel (may : Nat → Bool) (m : Nat) (l : List Nat) (at_ n : Nat) (nv i : Value) : Prop :=
  ∃ k q : Nat, k ≤ m ∧ at_ + k ≤ n ∧ q < 128 ^ k ∧ i = .int .i64 k ∧ nv = .int .u64 q ∧ Hid (rd may m (l.drop (at_ + k)) k q = rd may m (l.drop at_) 0 0)

set_option maxRecDepth 100000 in
set_option maxHeartbeats 1600000 in
theorem read32U (b o n c : Nat) (l : List Nat) (at_ : Nat) (w : World) (hs : Src w (some ⟨b, o, none⟩) n (bys l)) (hall : AllB l) (hnc : n ≤ c) (hn : n ≤ 140737488355328) (hat : at_ < n) :
    Calls Try.prog 23 #[.slice (some ⟨b, o, none⟩) n c, .int .i64 at_, .int .i64 32, .func (.func 24) #[] #[]] w fun e w' =>
      e = .returned (rdV .u64 natV at_ n (rd (mayU 32) 4 (l.drop at_) 0 0)) ∧ Below w.heap.size w w' := by
  have hl : l.length = n := by rw [← hs.1, bys_len]
  have HL := Lib.hid hl
  clear hl
  have hb : Below w.heap.size w (w.alloc (.cells #[.int .i64 0, .int .i64 0, .int .i64 0] 28)) := (Below.refl _ _).alloc (Nat.le_refl _) _
  have hs1 := hs.below hb (Nat.le_refl _)
  have hca : ¬ c = at_ := by omega
  have hat0 : decide ((at_ : Int) < 0) = false := by simp
  have hat1 : decide ((n : Int) < (at_ : Int)) = false := by simp; omega
  go_enter Try.func23, Try.ntmps23
  go_wp2_with fail
  go_loop [8, 9, 11, 12, 13, 14, 37] (fun _ _ nv _ _ _ i => ReadRel (mayU 32) 4 l at_ n nv i) (fun _ _ _ _ _ _ i => 4 + 1 - (intOf i).toNat)
  case atStart => exact ⟨0, 0, by omega, by omega, by simp, rfl, rfl, by simp [Hid]⟩
  case round =>
    obtain ⟨k, q, hk, hkn, hq, rfl, rfl, HR⟩ := hrel
    by_cases hlt : at_ + k < n
    · have hc := hs1.at_ hlt
      simp only [bys_get] at hc
      have hlt2 : at_ + k < l.length := by rw [HL.out]; exact hlt
      have HD := Lib.hid (drop_at hlt2)
      have hc256 := hall.get hlt2
      generalize l[at_ + k] = x at hc hc256 HD
      have hlt' : k < n - at_ := by omega
      rw [← Nat.add_assoc] at hc
      clear hs1 hlt2
      by_cases hkm : k = 4
      · subst hkm
        by_cases hx : x < 128
        · cases hm : mayU 32 x
          · have HM := Lib.hid hm
            clear hm
            go_wp2_with (go_at_call 24; refine (mayU_32 x _ hx).mono ?_; rintro e w' ⟨rfl, rfl⟩; rw [HM.out])
            refine bodyPost_ret (v := .tuple #[.int .u64 0, .int .i64 0, faultV 3 ((at_ + 4 : Nat) : Int)]) (by simp [results, Try.results23, go_sem, faultV]) rfl ⟨?_, (Below.refl _ _).alloc (Nat.le_refl _) _⟩
            rw [← HR.out, HD.out, rd_last_no (by simp [HM.out])]
            rfl
          · have HM := Lib.hid hm
            clear hm
            go_wp2_with (go_at_call 24; refine (mayU_32 x _ hx).mono ?_; rintro e w' ⟨rfl, rfl⟩; rw [HM.out])
            refine bodyPost_ret (v := .tuple #[.int .u64 (natV (q + x * 128 ^ 4) 0), .int .i64 ((at_ + (4 + 1) : Nat) : Int), faultV 0 0]) ?_ rfl ⟨?_, (Below.refl _ _).alloc (Nat.le_refl _) _⟩
            · have ha := acc_four (q := q) (x := x) hc256 hq
              rw [show x % 128 = x from by omega] at ha
              simp [results, Try.results23, go_sem, faultV]
              exact ⟨ha, by omega⟩
            · rw [← HR.out, HD.out, rd_last_ok hx HM.out]
              rfl
        · go_wp2_with fail
          refine bodyPost_ret (v := .tuple #[.int .u64 0, .int .i64 0, faultV 3 ((at_ + 4 : Nat) : Int)]) (by simp [results, Try.results23, go_sem, faultV]) rfl ⟨?_, (Below.refl _ _).alloc (Nat.le_refl _) _⟩
          rw [← HR.out, HD.out, rd_last_no (by omega)]
          rfl
      · have hkm' : k < 4 := by omega
        clear hkm
        have HA := Lib.hid (acc_small hc256 (show k ≤ 8 from by omega) hq)
        by_cases hx : x < 128
        · go_wp2_with fail
          refine bodyPost_ret (v := .tuple #[.int .u64 ((q + x * 128 ^ k : Nat) : Int), .int .i64 ((at_ + (k + 1) : Nat) : Int), faultV 0 0]) ?_ rfl ⟨?_, hb⟩
          · have ha := HA.out
            rw [show x % 128 = x from by omega] at ha
            simp [results, Try.results23, go_sem, faultV, ha]
            omega
          · rw [← HR.out, HD.out, rd_end hkm' hx, ← natV_small (j := 0) hx (by omega) hq]
            rfl
        · go_wp2_with fail
          go_round
          case rel =>
            have h2 := HR.out
            rw [HD.out, rd_more hkm' hx] at h2
            exact ⟨_, _, _, _, _, _, _, ⟨k + 1, q + (x % 128) * 128 ^ k, by omega, by omega, acc_next hq, by go_num, by rw [HA.out], h2⟩, rfl, rfl, rfl, rfl, rfl, rfl, rfl⟩
          case measure => simp [intOf]; omega
    · go_wp2_with fail
      refine bodyPost_ret (v := .tuple #[.int .u64 0, .int .i64 0, faultV 4 n]) (by simp [results, Try.results23, go_sem, faultV]) rfl ⟨?_, (Below.refl _ _).alloc (Nat.le_refl _) _⟩
      rw [← HR.out, List.drop_of_length_le (by rw [HL.out]; omega), rd_nil]
      rfl

set_option maxRecDepth 100000 in
set_option maxHeartbeats 1600000 in
theorem read64U (b o n c : Nat) (l : List Nat) (at_ : Nat) (w : World) (hs : Src w (some ⟨b, o, none⟩) n (bys l)) (hall : AllB l) (hnc : n ≤ c) (hn : n ≤ 140737488355328) (hat : at_ < n) :
    Calls Try.prog 23 #[.slice (some ⟨b, o, none⟩) n c, .int .i64 at_, .int .i64 64, .func (.func 24) #[] #[]] w fun e w' =>
      e = .returned (rdV .u64 natV at_ n (rd (mayU 64) 9 (l.drop at_) 0 0)) ∧ Below w.heap.size w w' := by
  have hl : l.length = n := by rw [← hs.1, bys_len]
  have HL := Lib.hid hl
  clear hl
  have hb : Below w.heap.size w (w.alloc (.cells #[.int .i64 0, .int .i64 0, .int .i64 0] 28)) := (Below.refl _ _).alloc (Nat.le_refl _) _
  have hs1 := hs.below hb (Nat.le_refl _)
  have hca : ¬ c = at_ := by omega
  have hat0 : decide ((at_ : Int) < 0) = false := by simp
  have hat1 : decide ((n : Int) < (at_ : Int)) = false := by simp; omega
  go_enter Try.func23, Try.ntmps23
  go_wp2_with fail
  go_loop [8, 9, 11, 12, 13, 14, 37] (fun _ _ nv _ _ _ i => ReadRel (mayU 64) 9 l at_ n nv i) (fun _ _ _ _ _ _ i => 9 + 1 - (intOf i).toNat)
  case atStart => exact ⟨0, 0, by omega, by omega, by simp, rfl, rfl, by simp [Hid]⟩
  case round =>
    obtain ⟨k, q, hk, hkn, hq, rfl, rfl, HR⟩ := hrel
    by_cases hlt : at_ + k < n
    · have hc := hs1.at_ hlt
      simp only [bys_get] at hc
      have hlt2 : at_ + k < l.length := by rw [HL.out]; exact hlt
      have HD := Lib.hid (drop_at hlt2)
      have hc256 := hall.get hlt2
      generalize l[at_ + k] = x at hc hc256 HD
      have hlt' : k < n - at_ := by omega
      rw [← Nat.add_assoc] at hc
      clear hs1 hlt2
      by_cases hkm : k = 9
      · subst hkm
        by_cases hx : x < 128
        · cases hm : mayU 64 x
          · have HM := Lib.hid hm
            clear hm
            go_wp2_with (go_at_call 24; refine (mayU_64 x _ hx).mono ?_; rintro e w' ⟨rfl, rfl⟩; rw [HM.out])
            refine bodyPost_ret (v := .tuple #[.int .u64 0, .int .i64 0, faultV 3 ((at_ + 9 : Nat) : Int)]) (by simp [results, Try.results23, go_sem, faultV]) rfl ⟨?_, (Below.refl _ _).alloc (Nat.le_refl _) _⟩
            rw [← HR.out, HD.out, rd_last_no (by simp [HM.out])]
            rfl
          · have HM := Lib.hid hm
            clear hm
            go_wp2_with (go_at_call 24; refine (mayU_64 x _ hx).mono ?_; rintro e w' ⟨rfl, rfl⟩; rw [HM.out])
            refine bodyPost_ret (v := .tuple #[.int .u64 (natV (q + x * 128 ^ 9) 0), .int .i64 ((at_ + (9 + 1) : Nat) : Int), faultV 0 0]) ?_ rfl ⟨?_, (Below.refl _ _).alloc (Nat.le_refl _) _⟩
            · have ha := acc_ten (q := q) (x := x) hc256 hq
              rw [show x % 128 = x from by omega] at ha
              simp [results, Try.results23, go_sem, faultV]
              exact ⟨ha, by omega⟩
            · rw [← HR.out, HD.out, rd_last_ok hx HM.out]
              rfl
        · go_wp2_with fail
          refine bodyPost_ret (v := .tuple #[.int .u64 0, .int .i64 0, faultV 3 ((at_ + 9 : Nat) : Int)]) (by simp [results, Try.results23, go_sem, faultV]) rfl ⟨?_, (Below.refl _ _).alloc (Nat.le_refl _) _⟩
          rw [← HR.out, HD.out, rd_last_no (by omega)]
          rfl
      · have hkm' : k < 9 := by omega
        clear hkm
        have HA := Lib.hid (acc_small hc256 (show k ≤ 8 from by omega) hq)
        by_cases hx : x < 128
        · go_wp2_with fail
          refine bodyPost_ret (v := .tuple #[.int .u64 ((q + x * 128 ^ k : Nat) : Int), .int .i64 ((at_ + (k + 1) : Nat) : Int), faultV 0 0]) ?_ rfl ⟨?_, hb⟩
          · have ha := HA.out
            rw [show x % 128 = x from by omega] at ha
            simp [results, Try.results23, go_sem, faultV, ha]
            omega
          · rw [← HR.out, HD.out, rd_end hkm' hx, ← natV_small (j := 0) hx (by omega) hq]
            rfl
        · go_wp2_with fail
          go_round
          case rel =>
            have h2 := HR.out
            rw [HD.out, rd_more hkm' hx] at h2
            exact ⟨_, _, _, _, _, _, _, ⟨k + 1, q + (x % 128) * 128 ^ k, by omega, by omega, acc_next hq, by go_num, by rw [HA.out], h2⟩, rfl, rfl, rfl, rfl, rfl, rfl, rfl⟩
          case measure => simp [intOf]; omega
    · go_wp2_with fail
      refine bodyPost_ret (v := .tuple #[.int .u64 0, .int .i64 0, faultV 4 n]) (by simp [results, Try.results23, go_sem, faultV]) rfl ⟨?_, (Below.refl _ _).alloc (Nat.le_refl _) _⟩
      rw [← HR.out, List.drop_of_length_le (by rw [HL.out]; omega), rd_nil]
      rfl

set_option maxRecDepth 100000 in
set_option maxHeartbeats 1600000 in
theorem read32S (b o n c : Nat) (l : List Nat) (at_ : Nat) (w : World) (hs : Src w (some ⟨b, o, none⟩) n (bys l)) (hall : AllB l) (hnc : n ≤ c) (hn : n ≤ 140737488355328) (hat : at_ < n) :
    Calls Try.prog 23 #[.slice (some ⟨b, o, none⟩) n c, .int .i64 at_, .int .i64 32, .func (.func 27) #[] #[]] w fun e w' =>
      e = .returned (rdV .u64 natV at_ n (rd (mayS 32) 4 (l.drop at_) 0 0)) ∧ Below w.heap.size w w' := by
  have hl : l.length = n := by rw [← hs.1, bys_len]
  have HL := Lib.hid hl
  clear hl
  have hb : Below w.heap.size w (w.alloc (.cells #[.int .i64 0, .int .i64 0, .int .i64 0] 28)) := (Below.refl _ _).alloc (Nat.le_refl _) _
  have hs1 := hs.below hb (Nat.le_refl _)
  have hca : ¬ c = at_ := by omega
  have hat0 : decide ((at_ : Int) < 0) = false := by simp
  have hat1 : decide ((n : Int) < (at_ : Int)) = false := by simp; omega
  go_enter Try.func23, Try.ntmps23
  go_wp2_with fail
  go_loop [8, 9, 11, 12, 13, 14, 37] (fun _ _ nv _ _ _ i => ReadRel (mayS 32) 4 l at_ n nv i) (fun _ _ _ _ _ _ i => 4 + 1 - (intOf i).toNat)
  case atStart => exact ⟨0, 0, by omega, by omega, by simp, rfl, rfl, by simp [Hid]⟩
  case round =>
    obtain ⟨k, q, hk, hkn, hq, rfl, rfl, HR⟩ := hrel
    by_cases hlt : at_ + k < n
    · have hc := hs1.at_ hlt
      simp only [bys_get] at hc
      have hlt2 : at_ + k < l.length := by rw [HL.out]; exact hlt
      have HD := Lib.hid (drop_at hlt2)
      have hc256 := hall.get hlt2
      generalize l[at_ + k] = x at hc hc256 HD
      have hlt' : k < n - at_ := by omega
      rw [← Nat.add_assoc] at hc
      clear hs1 hlt2
      by_cases hkm : k = 4
      · subst hkm
        by_cases hx : x < 128
        · cases hm : mayS 32 x
          · have HM := Lib.hid hm
            clear hm
            go_wp2_with (go_at_call 27; refine (mayS_32 x _ hx).mono ?_; rintro e w' ⟨rfl, rfl⟩; rw [HM.out])
            refine bodyPost_ret (v := .tuple #[.int .u64 0, .int .i64 0, faultV 3 ((at_ + 4 : Nat) : Int)]) (by simp [results, Try.results23, go_sem, faultV]) rfl ⟨?_, (Below.refl _ _).alloc (Nat.le_refl _) _⟩
            rw [← HR.out, HD.out, rd_last_no (by simp [HM.out])]
            rfl
          · have HM := Lib.hid hm
            clear hm
            go_wp2_with (go_at_call 27; refine (mayS_32 x _ hx).mono ?_; rintro e w' ⟨rfl, rfl⟩; rw [HM.out])
            refine bodyPost_ret (v := .tuple #[.int .u64 (natV (q + x * 128 ^ 4) 0), .int .i64 ((at_ + (4 + 1) : Nat) : Int), faultV 0 0]) ?_ rfl ⟨?_, (Below.refl _ _).alloc (Nat.le_refl _) _⟩
            · have ha := acc_four (q := q) (x := x) hc256 hq
              rw [show x % 128 = x from by omega] at ha
              simp [results, Try.results23, go_sem, faultV]
              exact ⟨ha, by omega⟩
            · rw [← HR.out, HD.out, rd_last_ok hx HM.out]
              rfl
        · go_wp2_with fail
          refine bodyPost_ret (v := .tuple #[.int .u64 0, .int .i64 0, faultV 3 ((at_ + 4 : Nat) : Int)]) (by simp [results, Try.results23, go_sem, faultV]) rfl ⟨?_, (Below.refl _ _).alloc (Nat.le_refl _) _⟩
          rw [← HR.out, HD.out, rd_last_no (by omega)]
          rfl
      · have hkm' : k < 4 := by omega
        clear hkm
        have HA := Lib.hid (acc_small hc256 (show k ≤ 8 from by omega) hq)
        by_cases hx : x < 128
        · go_wp2_with fail
          refine bodyPost_ret (v := .tuple #[.int .u64 ((q + x * 128 ^ k : Nat) : Int), .int .i64 ((at_ + (k + 1) : Nat) : Int), faultV 0 0]) ?_ rfl ⟨?_, hb⟩
          · have ha := HA.out
            rw [show x % 128 = x from by omega] at ha
            simp [results, Try.results23, go_sem, faultV, ha]
            omega
          · rw [← HR.out, HD.out, rd_end hkm' hx, ← natV_small (j := 0) hx (by omega) hq]
            rfl
        · go_wp2_with fail
          go_round
          case rel =>
            have h2 := HR.out
            rw [HD.out, rd_more hkm' hx] at h2
            exact ⟨_, _, _, _, _, _, _, ⟨k + 1, q + (x % 128) * 128 ^ k, by omega, by omega, acc_next hq, by go_num, by rw [HA.out], h2⟩, rfl, rfl, rfl, rfl, rfl, rfl, rfl⟩
          case measure => simp [intOf]; omega
    · go_wp2_with fail
      refine bodyPost_ret (v := .tuple #[.int .u64 0, .int .i64 0, faultV 4 n]) (by simp [results, Try.results23, go_sem, faultV]) rfl ⟨?_, (Below.refl _ _).alloc (Nat.le_refl _) _⟩
      rw [← HR.out, List.drop_of_length_le (by rw [HL.out]; omega), rd_nil]
      rfl

set_option maxRecDepth 100000 in
set_option maxHeartbeats 1600000 in
theorem read64S (b o n c : Nat) (l : List Nat) (at_ : Nat) (w : World) (hs : Src w (some ⟨b, o, none⟩) n (bys l)) (hall : AllB l) (hnc : n ≤ c) (hn : n ≤ 140737488355328) (hat : at_ < n) :
    Calls Try.prog 23 #[.slice (some ⟨b, o, none⟩) n c, .int .i64 at_, .int .i64 64, .func (.func 27) #[] #[]] w fun e w' =>
      e = .returned (rdV .u64 natV at_ n (rd (mayS 64) 9 (l.drop at_) 0 0)) ∧ Below w.heap.size w w' := by
  have hl : l.length = n := by rw [← hs.1, bys_len]
  have HL := Lib.hid hl
  clear hl
  have hb : Below w.heap.size w (w.alloc (.cells #[.int .i64 0, .int .i64 0, .int .i64 0] 28)) := (Below.refl _ _).alloc (Nat.le_refl _) _
  have hs1 := hs.below hb (Nat.le_refl _)
  have hca : ¬ c = at_ := by omega
  have hat0 : decide ((at_ : Int) < 0) = false := by simp
  have hat1 : decide ((n : Int) < (at_ : Int)) = false := by simp; omega
  go_enter Try.func23, Try.ntmps23
  go_wp2_with fail
  go_loop [8, 9, 11, 12, 13, 14, 37] (fun _ _ nv _ _ _ i => ReadRel (mayS 64) 9 l at_ n nv i) (fun _ _ _ _ _ _ i => 9 + 1 - (intOf i).toNat)
  case atStart => exact ⟨0, 0, by omega, by omega, by simp, rfl, rfl, by simp [Hid]⟩
  case round =>
    obtain ⟨k, q, hk, hkn, hq, rfl, rfl, HR⟩ := hrel
    by_cases hlt : at_ + k < n
    · have hc := hs1.at_ hlt
      simp only [bys_get] at hc
      have hlt2 : at_ + k < l.length := by rw [HL.out]; exact hlt
      have HD := Lib.hid (drop_at hlt2)
      have hc256 := hall.get hlt2
      generalize l[at_ + k] = x at hc hc256 HD
      have hlt' : k < n - at_ := by omega
      rw [← Nat.add_assoc] at hc
      clear hs1 hlt2
      by_cases hkm : k = 9
      · subst hkm
        by_cases hx : x < 128
        · cases hm : mayS 64 x
          · have HM := Lib.hid hm
            clear hm
            go_wp2_with (go_at_call 27; refine (mayS_64 x _ hx).mono ?_; rintro e w' ⟨rfl, rfl⟩; rw [HM.out])
            refine bodyPost_ret (v := .tuple #[.int .u64 0, .int .i64 0, faultV 3 ((at_ + 9 : Nat) : Int)]) (by simp [results, Try.results23, go_sem, faultV]) rfl ⟨?_, (Below.refl _ _).alloc (Nat.le_refl _) _⟩
            rw [← HR.out, HD.out, rd_last_no (by simp [HM.out])]
            rfl
          · have HM := Lib.hid hm
            clear hm
            go_wp2_with (go_at_call 27; refine (mayS_64 x _ hx).mono ?_; rintro e w' ⟨rfl, rfl⟩; rw [HM.out])
            refine bodyPost_ret (v := .tuple #[.int .u64 (natV (q + x * 128 ^ 9) 0), .int .i64 ((at_ + (9 + 1) : Nat) : Int), faultV 0 0]) ?_ rfl ⟨?_, (Below.refl _ _).alloc (Nat.le_refl _) _⟩
            · have ha := acc_ten (q := q) (x := x) hc256 hq
              rw [show x % 128 = x from by omega] at ha
              simp [results, Try.results23, go_sem, faultV]
              exact ⟨ha, by omega⟩
            · rw [← HR.out, HD.out, rd_last_ok hx HM.out]
              rfl
        · go_wp2_with fail
          refine bodyPost_ret (v := .tuple #[.int .u64 0, .int .i64 0, faultV 3 ((at_ + 9 : Nat) : Int)]) (by simp [results, Try.results23, go_sem, faultV]) rfl ⟨?_, (Below.refl _ _).alloc (Nat.le_refl _) _⟩
          rw [← HR.out, HD.out, rd_last_no (by omega)]
          rfl
      · have hkm' : k < 9 := by omega
        clear hkm
        have HA := Lib.hid (acc_small hc256 (show k ≤ 8 from by omega) hq)
        by_cases hx : x < 128
        · go_wp2_with fail
          refine bodyPost_ret (v := .tuple #[.int .u64 ((q + x * 128 ^ k : Nat) : Int), .int .i64 ((at_ + (k + 1) : Nat) : Int), faultV 0 0]) ?_ rfl ⟨?_, hb⟩
          · have ha := HA.out
            rw [show x % 128 = x from by omega] at ha
            simp [results, Try.results23, go_sem, faultV, ha]
            omega
          · rw [← HR.out, HD.out, rd_end hkm' hx, ← natV_small (j := 0) hx (by omega) hq]
            rfl
        · go_wp2_with fail
          go_round
          case rel =>
            have h2 := HR.out
            rw [HD.out, rd_more hkm' hx] at h2
            exact ⟨_, _, _, _, _, _, _, ⟨k + 1, q + (x % 128) * 128 ^ k, by omega, by omega, acc_next hq, by go_num, by rw [HA.out], h2⟩, rfl, rfl, rfl, rfl, rfl, rfl, rfl⟩
          case measure => simp [intOf]; omega
    · go_wp2_with fail
      refine bodyPost_ret (v := .tuple #[.int .u64 0, .int .i64 0, faultV 4 n]) (by simp [results, Try.results23, go_sem, faultV]) rfl ⟨?_, (Below.refl _ _).alloc (Nat.le_refl _) _⟩
      rw [← HR.out, List.drop_of_length_le (by rw [HL.out]; omega), rd_nil]
      rfl

end Go.Proofs.Ytlfbmpbnmakacaa

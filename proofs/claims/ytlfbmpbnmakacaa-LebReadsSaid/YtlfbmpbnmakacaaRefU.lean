/-
  What the reference's U answers: what leb.U answers.
  Conditions: the slice is within the row's own reach.
-/
import Derived.Test.YtlfbmpbnmakacaaRefPlain
import Derived.RegionTactic
namespace Go.Proofs.Ytlfbmpbnmakacaa
open Go.RowKit Go.Bk Go.Bk.Leb

theorem or_shift {q y k : Nat} (hq : q < 128 ^ k) (hs : q + y * 128 ^ k < 18446744073709551616) : bits .or .u64 (q : Int) ((y * 128 ^ k : Nat) : Int) = ((q + y * 128 ^ k : Nat) : Int) := by
  have e128 : (128 : Nat) ^ k = 2 ^ (7 * k) := by rw [Nat.pow_mul]
  rw [bits_or_u64 (by omega) (by omega)]
  refine congrArg Int.ofNat ?_
  rw [e128] at hq ⊢
  rw [← Nat.shiftLeft_eq, Nat.or_comm, ← Nat.shiftLeft_add_eq_or_of_lt hq]
  omega

/-- k groups are gathered; the last one that may be was looked at -/
def RefRelU (size m J x : Nat) (L : List Nat) (nv i : Value) : Prop :=
  ∃ k : Nat, k ≤ J + 1 ∧ i = .int .i64 k ∧ nv = .int .u64 (gath L k) ∧ Hid (m < k → mayU size x = true)

theorem ref_acc {q y k : Nat} {P : Int} (hP : P = ((128 ^ k : Nat) : Int)) (hq : q < 128 ^ k) (hs : q + y * 128 ^ k < 18446744073709551616) : bits .or .u64 (q : Int) ((y : Int) * P) = ((q + y * 128 ^ k : Nat) : Int) := by
  rw [hP, ← Int.natCast_mul]
  exact or_shift hq hs

theorem ref_acc_small {q y k : Nat} (hy : y < 128) (hk : k ≤ 8) (hq : q < 128 ^ k) : bits .or .u64 (q : Int) (IntKind.u64.wrap ((y : Int) * 2 ^ (7 * k))) = ((q + y * 128 ^ k : Nat) : Int) := by
  have h1 := pow_small hk
  have h2 : y * 128 ^ k ≤ 127 * 128 ^ k := Nat.mul_le_mul_right _ (by omega)
  have e : (y : Int) * 2 ^ (7 * k) = ((y * 128 ^ k : Nat) : Int) := by
    rw [Int.natCast_mul, Int.natCast_pow, show ((128 : Nat) : Int) = 2 ^ 7 from rfl, ← Int.pow_mul]
  rw [e, wrap_u64_nat (by omega)]
  exact or_shift hq (by omega)

set_option maxRecDepth 100000 in
set_option maxHeartbeats 4000000 in
theorem refU_32 (A : Option Addr) (n c at_ : Nat) (l init tail : List Nat) (J : Nat) (w : World) (hs : Src w A n (bys l)) (hall : AllB l) (hn : n ≤ 140737488355328) (hat : at_ ≤ n)
    (hd : l.drop at_ = init ++ tail) (hg : Goes init) (hJ : init.length = J) (hJM : J ≤ 5) (ht : J = 5 ∨ tail = [] ∨ ∃ c r, tail = c :: r ∧ c < 128) :
    Calls Try.prog 13 #[.slice A n c, .int .i64 at_, .int .i64 32] w fun e w' => e = .returned (readV .u64 mayU natV l at_ 32) ∧ Below w.heap.size w w' := by
  have hb0 : Below w.heap.size w (w.alloc (.cells #[.int .i64 0, .int .i64 0, .int .i64 0] 28)) := (Below.refl _ _).alloc (Nat.le_refl _) _
  have hs1 := hs.below hb0 (Nat.le_refl _)
  have hl : l.length = n := by rw [← hs.1, bys_len]
  have HC := Lib.hid (groups_any A n c at_ 5 J l init tail _ hs1 hall hn hat (by omega) (by omega) hd hg hJ hJM ht)
  have hat0 : decide ((at_ : Int) < 0) = false := by simp
  have hat1 : decide ((n : Int) < (at_ : Int)) = false := by simp; omega
  have HD := Lib.hid hd
  have HJ := Lib.hid hJ
  have HT := Lib.hid ht
  have HL := Lib.hid hl
  clear hd ht hs1 hs hJ hl
  go_enter Try.func13, Try.ntmps13
  go_wp2_with fail
  refine (most_any 32 _).mono ?_
  rintro e w1 ⟨rfl, rfl⟩
  simp only [if_true, Int.reduceEq, if_false]
  go_wp2_with fail
  refine HC.out.mono ?_
  rintro e w1 (⟨hj, rfl, hb⟩ | ⟨hj, htl, rfl, hb⟩ | ⟨x, r, v, hj, htl, rfl, hown, hb⟩)
  · have HV := Lib.hid (readV_bad .u64 mayU natV l init tail at_ n 32 (by omega) HL.out hat HD.out hg (by rw [HJ.out, hj]; rfl))
    obtain ⟨hc, hf⟩ := bcell hb
    have hz : w.heap.size < w1.heap.size := by have := hb.size; simp at this; omega
    have hb1 := Lib.hid (hb0.trans (hb.mono (by simp)))
    clear hb hj
    unfold faultV
    go_wp2
    go_region
    go_wp2
    refine bodyPost_ret (v := .tuple #[.int .u64 0, .int .i64 0, faultV 3 ((at_ + 4 : Nat) : Int)]) ?_ rfl ⟨by rw [show readV .u64 mayU natV l at_ 32 = _ from HV.out]; rfl, ?_⟩
    · simp [results, Try.results13, go_sem, hc, faultV, hz]
    · exact ((((hb1.out.setCell (by simp) _).setCell (by simp) _).setCell (by simp) _).alloc (by simp; omega) _).drew
  · have HV := Lib.hid (readV_end .u64 mayU natV l init at_ n 32 (by omega) HL.out hat (by rw [HD.out, htl, List.append_nil]) hg (by rw [HJ.out]; show J ≤ 4; omega))
    obtain ⟨hc, hf⟩ := bcell hb
    have hz : w.heap.size < w1.heap.size := by have := hb.size; simp at this; omega
    have hb1 := Lib.hid (hb0.trans (hb.mono (by simp)))
    clear hb htl
    unfold faultV
    go_wp2
    go_region
    go_wp2
    refine bodyPost_ret (v := .tuple #[.int .u64 0, .int .i64 0, faultV 4 n]) ?_ rfl ⟨by rw [show readV .u64 mayU natV l at_ 32 = _ from HV.out], ?_⟩
    · simp [results, Try.results13, go_sem, hc, faultV, hz]
    · exact ((((hb1.out.setCell (by simp) _).setCell (by simp) _).setCell (by simp) _).alloc (by simp; omega) _).drew
  · have hx : x < 128 := by
      rcases HT.out with h | h | ⟨c', r', h1, h2⟩
      · omega
      · rw [h] at htl; cases htl
      · rw [h1] at htl; injection htl with h3 h4; omega
    have HX := Lib.hid (show l.drop at_ = init ++ x :: r by rw [HD.out, htl])
    clear htl
    obtain ⟨hc, hf⟩ := bcell hb
    have hz : w.heap.size < w1.heap.size := by have := hb.size; simp at this; omega
    have hb1 := Lib.hid (hb0.trans (hb.mono (by simp)))
    clear hb
    obtain ⟨gb, cg, rfl, hgb, hgb0⟩ := own_at hown (by omega)
    have HL7 := Lib.hid (show (init ++ [x]).length = J + 1 by simp [HJ.out])
    have hcell : ∀ k (hk : k < J + 1), w1.cell? ⟨gb, k, none⟩ = some (.int .u8 (((init ++ [x])[k]'(by rw [HL7.out]; exact hk) % 128 : Nat) : Int)) := fun k hk => by
      rw [hown.cellAt k (by omega)]
      unfold bys low7
      rw [List.getElem?_map, List.getElem?_map, List.getElem?_eq_getElem (by rw [HL7.out]; exact hk)]
      rfl
    have HCE := Lib.hid hcell
    clear hcell hown
    unfold faultV
    go_wp2_with fail
    go_loop [6, 7, 13, 14] (fun _ _ nv i => RefRelU 32 4 J x (init ++ [x]) nv i) (fun _ _ _ i => J + 2 - (intOf i).toNat)
    case atStart => exact ⟨0, by omega, rfl, rfl, fun h => by omega⟩
    case round =>
      obtain ⟨k, hk, rfl, rfl, HMA⟩ := hrel
      by_cases hkJ : k < J + 1
      · have hce := HCE.out k hkJ
        have hkl : k < (init ++ [x]).length := by rw [HL7.out]; exact hkJ
        have hgl := gath_lt (init ++ [x]) (Nat.le_of_lt hkl)
        have HGN := Lib.hid (gath_next (init ++ [x]) hkl)
        have hy : (init ++ [x])[k] % 128 < 128 := by omega
        have HYX := Lib.hid (show k = J → (init ++ [x])[k] % 128 = x by
          intro h
          subst h
          simp [HJ.out.symm]
          omega)
        generalize (init ++ [x])[k] % 128 = y at *
        generalize hq : gath (init ++ [x]) k = q at *
        have HQ := Lib.hid hq
        clear hq
        by_cases hkm : k = 4
        · obtain rfl : k = 4 := hkm
          have hyx := HYX.out (by omega)
          subst hyx
          have hJm : J = 4 := by omega
          cases hmy : mayU 32 y
          · have g : (((y : Int) / 16) != 0) = true := by simp [mayU] at hmy; simp; omega
            have HV := Lib.hid (readV_no .u64 mayU natV l init at_ n 32 J y r (by omega) HL.out hat HX.out hg hx HJ.out hJm hmy)
            clear hmy hJm
            go_wp2_with fail
            refine bodyPost_ret (v := .tuple #[.int .u64 0, .int .i64 0, faultV 3 ((at_ + J : Nat) : Int)]) ?_ rfl ⟨by rw [show readV .u64 mayU natV l at_ 32 = _ from HV.out], ?_⟩
            · simp [results, Try.results13, go_sem, hc, faultV, hz]
            · exact ((((hb1.out.setCell (by simp) _).setCell (by simp) _).setCell (by simp) _).alloc (by simp; omega) _)
          · have g : (((y : Int) / 16) != 0) = false := by simp [mayU] at hmy; simp; omega
            have hy2 : y < 16 := by simp [mayU] at hmy; exact hmy
            have HAcc := Lib.hid (ref_acc (q := q) (y := y) (k := 4) (P := 268435456) rfl hgl (by omega))
            have HMY := Lib.hid hmy
            clear hmy hJm
            go_wp2_with fail
            go_round
            case rel => exact ⟨4 + 1, by omega, rfl, by rw [HAcc.out, ← HGN.out], fun _ => HMY.out⟩
            case measure => simp [intOf]; omega
        · have gk : ((k : Int) == 4) = false := by simp; omega
          have HAcc := Lib.hid (ref_acc_small hy (show k ≤ 8 by omega) hgl)
          go_wp2_with fail
          go_round
          case rel => exact ⟨k + 1, by omega, by go_num, by rw [HAcc.out, ← HGN.out], fun h => HMA.out (by omega)⟩
          case measure => simp [intOf]; omega
      · have hkk : k = J + 1 := by omega
        have HG := Lib.hid (show gath (init ++ [x]) k = uval (init ++ [x]) by rw [hkk, ← HL7.out, gath_all])
        have htop := top_le init x hx
        have hlow := low_lt init x hx
        have hm : J < 4 ∨ J = 4 ∧ mayU 32 x = true := by
          rcases Nat.lt_or_ge J 4 with h | h
          · exact .inl h
          · exact .inr ⟨by omega, HMA.out (by omega)⟩
        have hsm : uval (init ++ [x]) < 18446744073709551616 := by
          rw [HJ.out] at hlow
          rcases hm with h | ⟨h, h2⟩
          · have h3 := pow_small (show J ≤ 8 by omega)
            have h4 : (x + 1) * 128 ^ J ≤ 128 * 128 ^ J := Nat.mul_le_mul_right _ (by omega)
            omega
          · simp [mayU] at h2
            rw [h] at hlow
            omega
        have HV := Lib.hid (readV_ok .u64 mayU natV l init at_ n 32 J x r (by omega) HL.out hat HX.out hg hx HJ.out hm)
        have HN := Lib.hid (natV_of (j := J + 1) hsm)
        clear hkk htop hlow hm hsm
        go_wp2_with fail
        refine bodyPost_ret (v := .tuple #[.int .u64 (uval (init ++ [x]) : Int), .int .i64 ((at_ + J + 1 : Nat) : Int), faultV 0 0]) ?_ rfl ⟨by rw [show readV .u64 mayU natV l at_ 32 = _ from HV.out, HN.out], ?_⟩
        · rw [← HG.out]
          simp [results, Try.results13, go_sem, hc, faultV, hz]
        · exact ((((hb1.out.setCell (by simp) _).setCell (by simp) _).setCell (by simp) _).alloc (by simp; omega) _)

set_option maxRecDepth 100000 in
set_option maxHeartbeats 4000000 in
theorem refU_64 (A : Option Addr) (n c at_ : Nat) (l init tail : List Nat) (J : Nat) (w : World) (hs : Src w A n (bys l)) (hall : AllB l) (hn : n ≤ 140737488355328) (hat : at_ ≤ n)
    (hd : l.drop at_ = init ++ tail) (hg : Goes init) (hJ : init.length = J) (hJM : J ≤ 10) (ht : J = 10 ∨ tail = [] ∨ ∃ c r, tail = c :: r ∧ c < 128) :
    Calls Try.prog 13 #[.slice A n c, .int .i64 at_, .int .i64 64] w fun e w' => e = .returned (readV .u64 mayU natV l at_ 64) ∧ Below w.heap.size w w' := by
  have hb0 : Below w.heap.size w (w.alloc (.cells #[.int .i64 0, .int .i64 0, .int .i64 0] 28)) := (Below.refl _ _).alloc (Nat.le_refl _) _
  have hs1 := hs.below hb0 (Nat.le_refl _)
  have hl : l.length = n := by rw [← hs.1, bys_len]
  have HC := Lib.hid (groups_any A n c at_ 10 J l init tail _ hs1 hall hn hat (by omega) (by omega) hd hg hJ hJM ht)
  have hat0 : decide ((at_ : Int) < 0) = false := by simp
  have hat1 : decide ((n : Int) < (at_ : Int)) = false := by simp; omega
  have HD := Lib.hid hd
  have HJ := Lib.hid hJ
  have HT := Lib.hid ht
  have HL := Lib.hid hl
  clear hd ht hs1 hs hJ hl
  go_enter Try.func13, Try.ntmps13
  go_wp2_with fail
  refine (most_any 64 _).mono ?_
  rintro e w1 ⟨rfl, rfl⟩
  simp only [if_true, Int.reduceEq, if_false]
  go_wp2_with fail
  refine HC.out.mono ?_
  rintro e w1 (⟨hj, rfl, hb⟩ | ⟨hj, htl, rfl, hb⟩ | ⟨x, r, v, hj, htl, rfl, hown, hb⟩)
  · have HV := Lib.hid (readV_bad .u64 mayU natV l init tail at_ n 64 (by omega) HL.out hat HD.out hg (by rw [HJ.out, hj]; rfl))
    obtain ⟨hc, hf⟩ := bcell hb
    have hz : w.heap.size < w1.heap.size := by have := hb.size; simp at this; omega
    have hb1 := Lib.hid (hb0.trans (hb.mono (by simp)))
    clear hb hj
    unfold faultV
    go_wp2
    go_region
    go_wp2
    refine bodyPost_ret (v := .tuple #[.int .u64 0, .int .i64 0, faultV 3 ((at_ + 9 : Nat) : Int)]) ?_ rfl ⟨by rw [show readV .u64 mayU natV l at_ 64 = _ from HV.out]; rfl, ?_⟩
    · simp [results, Try.results13, go_sem, hc, faultV, hz]
    · exact ((((hb1.out.setCell (by simp) _).setCell (by simp) _).setCell (by simp) _).alloc (by simp; omega) _).drew
  · have HV := Lib.hid (readV_end .u64 mayU natV l init at_ n 64 (by omega) HL.out hat (by rw [HD.out, htl, List.append_nil]) hg (by rw [HJ.out]; show J ≤ 9; omega))
    obtain ⟨hc, hf⟩ := bcell hb
    have hz : w.heap.size < w1.heap.size := by have := hb.size; simp at this; omega
    have hb1 := Lib.hid (hb0.trans (hb.mono (by simp)))
    clear hb htl
    unfold faultV
    go_wp2
    go_region
    go_wp2
    refine bodyPost_ret (v := .tuple #[.int .u64 0, .int .i64 0, faultV 4 n]) ?_ rfl ⟨by rw [show readV .u64 mayU natV l at_ 64 = _ from HV.out], ?_⟩
    · simp [results, Try.results13, go_sem, hc, faultV, hz]
    · exact ((((hb1.out.setCell (by simp) _).setCell (by simp) _).setCell (by simp) _).alloc (by simp; omega) _).drew
  · have hx : x < 128 := by
      rcases HT.out with h | h | ⟨c', r', h1, h2⟩
      · omega
      · rw [h] at htl; cases htl
      · rw [h1] at htl; injection htl with h3 h4; omega
    have HX := Lib.hid (show l.drop at_ = init ++ x :: r by rw [HD.out, htl])
    clear htl
    obtain ⟨hc, hf⟩ := bcell hb
    have hz : w.heap.size < w1.heap.size := by have := hb.size; simp at this; omega
    have hb1 := Lib.hid (hb0.trans (hb.mono (by simp)))
    clear hb
    obtain ⟨gb, cg, rfl, hgb, hgb0⟩ := own_at hown (by omega)
    have HL7 := Lib.hid (show (init ++ [x]).length = J + 1 by simp [HJ.out])
    have hcell : ∀ k (hk : k < J + 1), w1.cell? ⟨gb, k, none⟩ = some (.int .u8 (((init ++ [x])[k]'(by rw [HL7.out]; exact hk) % 128 : Nat) : Int)) := fun k hk => by
      rw [hown.cellAt k (by omega)]
      unfold bys low7
      rw [List.getElem?_map, List.getElem?_map, List.getElem?_eq_getElem (by rw [HL7.out]; exact hk)]
      rfl
    have HCE := Lib.hid hcell
    clear hcell hown
    unfold faultV
    go_wp2_with fail
    go_loop [6, 7, 13, 14] (fun _ _ nv i => RefRelU 64 9 J x (init ++ [x]) nv i) (fun _ _ _ i => J + 2 - (intOf i).toNat)
    case atStart => exact ⟨0, by omega, rfl, rfl, fun h => by omega⟩
    case round =>
      obtain ⟨k, hk, rfl, rfl, HMA⟩ := hrel
      by_cases hkJ : k < J + 1
      · have hce := HCE.out k hkJ
        have hkl : k < (init ++ [x]).length := by rw [HL7.out]; exact hkJ
        have hgl := gath_lt (init ++ [x]) (Nat.le_of_lt hkl)
        have HGN := Lib.hid (gath_next (init ++ [x]) hkl)
        have hy : (init ++ [x])[k] % 128 < 128 := by omega
        have HYX := Lib.hid (show k = J → (init ++ [x])[k] % 128 = x by
          intro h
          subst h
          simp [HJ.out.symm]
          omega)
        generalize (init ++ [x])[k] % 128 = y at *
        generalize hq : gath (init ++ [x]) k = q at *
        have HQ := Lib.hid hq
        clear hq
        by_cases hkm : k = 9
        · obtain rfl : k = 9 := hkm
          have hyx := HYX.out (by omega)
          subst hyx
          have hJm : J = 9 := by omega
          cases hmy : mayU 64 y
          · have g : (((y : Int) / 2) != 0) = true := by simp [mayU] at hmy; simp; omega
            have HV := Lib.hid (readV_no .u64 mayU natV l init at_ n 64 J y r (by omega) HL.out hat HX.out hg hx HJ.out hJm hmy)
            clear hmy hJm
            go_wp2_with fail
            refine bodyPost_ret (v := .tuple #[.int .u64 0, .int .i64 0, faultV 3 ((at_ + J : Nat) : Int)]) ?_ rfl ⟨by rw [show readV .u64 mayU natV l at_ 64 = _ from HV.out], ?_⟩
            · simp [results, Try.results13, go_sem, hc, faultV, hz]
            · exact ((((hb1.out.setCell (by simp) _).setCell (by simp) _).setCell (by simp) _).alloc (by simp; omega) _)
          · have g : (((y : Int) / 2) != 0) = false := by simp [mayU] at hmy; simp; omega
            have hy2 : y < 2 := by simp [mayU] at hmy; exact hmy
            have HAcc := Lib.hid (ref_acc (q := q) (y := y) (k := 9) (P := 9223372036854775808) rfl hgl (by omega))
            have HMY := Lib.hid hmy
            clear hmy hJm
            go_wp2_with fail
            go_round
            case rel => exact ⟨9 + 1, by omega, rfl, by rw [HAcc.out, ← HGN.out], fun _ => HMY.out⟩
            case measure => simp [intOf]; omega
        · have gk : ((k : Int) == 9) = false := by simp; omega
          have HAcc := Lib.hid (ref_acc_small hy (show k ≤ 8 by omega) hgl)
          go_wp2_with fail
          go_round
          case rel => exact ⟨k + 1, by omega, by go_num, by rw [HAcc.out, ← HGN.out], fun h => HMA.out (by omega)⟩
          case measure => simp [intOf]; omega
      · have hkk : k = J + 1 := by omega
        have HG := Lib.hid (show gath (init ++ [x]) k = uval (init ++ [x]) by rw [hkk, ← HL7.out, gath_all])
        have htop := top_le init x hx
        have hlow := low_lt init x hx
        have hm : J < 9 ∨ J = 9 ∧ mayU 64 x = true := by
          rcases Nat.lt_or_ge J 9 with h | h
          · exact .inl h
          · exact .inr ⟨by omega, HMA.out (by omega)⟩
        have hsm : uval (init ++ [x]) < 18446744073709551616 := by
          rw [HJ.out] at hlow
          rcases hm with h | ⟨h, h2⟩
          · have h3 := pow_small (show J ≤ 8 by omega)
            have h4 : (x + 1) * 128 ^ J ≤ 128 * 128 ^ J := Nat.mul_le_mul_right _ (by omega)
            omega
          · simp [mayU] at h2
            rw [h] at hlow
            omega
        have HV := Lib.hid (readV_ok .u64 mayU natV l init at_ n 64 J x r (by omega) HL.out hat HX.out hg hx HJ.out hm)
        have HN := Lib.hid (natV_of (j := J + 1) hsm)
        clear hkk htop hlow hm hsm
        go_wp2_with fail
        refine bodyPost_ret (v := .tuple #[.int .u64 (uval (init ++ [x]) : Int), .int .i64 ((at_ + J + 1 : Nat) : Int), faultV 0 0]) ?_ rfl ⟨by rw [show readV .u64 mayU natV l at_ 64 = _ from HV.out, HN.out], ?_⟩
        · rw [← HG.out]
          simp [results, Try.results13, go_sem, hc, faultV, hz]
        · exact ((((hb1.out.setCell (by simp) _).setCell (by simp) _).setCell (by simp) _).alloc (by simp; omega) _)

end Go.Proofs.Ytlfbmpbnmakacaa

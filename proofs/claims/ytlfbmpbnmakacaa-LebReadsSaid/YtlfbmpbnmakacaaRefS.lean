/-
  What the reference's S answers: what leb.S answers.
  Conditions: the slice is within the row's own reach.
-/
import Derived.Test.YtlfbmpbnmakacaaRefU
namespace Go.Proofs.Ytlfbmpbnmakacaa
open Go.RowKit Go.Bk Go.Bk.Leb

/-- k groups are gathered; the last one that may be was looked at -/
def RefRelS (size m J x : Nat) (L : List Nat) (nv i : Value) : Prop :=
  ∃ k : Nat, k ≤ J + 1 ∧ i = .int .i64 k ∧ nv = .int .i64 (wrap64 (gath L k)) ∧ Hid (m < k → mayS size x = true)

theorem accS {q y k : Nat} {Z : Int} (hk : k ≤ 9) (hq : q < 128 ^ k) (hZ : Z % 18446744073709551616 = (((y * 128 ^ k) % 18446744073709551616 : Nat) : Int)) :
    bits .or .i64 (q : Int) Z = wrap64 ((q + y * 128 ^ k : Nat) : Int) := by
  have e128 : (128 : Nat) ^ k = 2 ^ (7 * k) := by rw [Nat.pow_mul]
  have h9 : (128 : Nat) ^ k ≤ 128 ^ 9 := Nat.pow_le_pow_right (by omega) hk
  show IntKind.i64.wrap ((BitVec.ofInt 64 (q : Int) ||| BitVec.ofInt 64 Z).toNat : Int) = _
  have e1 : (BitVec.ofInt 64 Z).toNat = (y % 2 ^ (64 - 7 * k)) <<< (7 * k) := by
    rw [BitVec.toNat_ofInt, show ((2 ^ 64 : Nat) : Int) = 18446744073709551616 from rfl, hZ, Int.toNat_natCast, e128, Nat.shiftLeft_eq, ← Nat.mul_mod_mul_right, ← Nat.pow_add, show 64 - 7 * k + 7 * k = 64 from by omega]
  have e2 : (BitVec.ofInt 64 (q : Int)).toNat = q := by
    rw [BitVec.ofInt_natCast, BitVec.toNat_ofNat]
    exact Nat.mod_eq_of_lt (by omega)
  rw [BitVec.toNat_or, e1, e2, Nat.or_comm, ← Nat.shiftLeft_add_eq_or_of_lt (by rw [← e128]; exact hq), ← e1, BitVec.toNat_ofInt, show ((2 ^ 64 : Nat) : Int) = 18446744073709551616 from rfl, hZ, Int.toNat_natCast, IntKind.wrap_i64]
  unfold wrap64
  omega
theorem pow_int (y k : Nat) : (y : Int) * 2 ^ (7 * k) = ((y * 128 ^ k : Nat) : Int) := by
  rw [Int.natCast_mul, Int.natCast_pow, show ((128 : Nat) : Int) = 2 ^ 7 from rfl, ← Int.pow_mul]
theorem accS_var {q y k : Nat} (hk : k ≤ 9) (hq : q < 128 ^ k) : bits .or .i64 (q : Int) (wrap64 ((y : Int) * 2 ^ (7 * k))) = wrap64 ((q + y * 128 ^ k : Nat) : Int) := by
  refine accS hk hq ?_
  rw [pow_int]
  unfold wrap64
  omega
theorem accS_var' {q y k : Nat} (hk : k ≤ 9) (hq : q < 128 ^ k) : bits .or .i64 (q : Int) ((y : Int) * 2 ^ (7 * k)) = wrap64 ((q + y * 128 ^ k : Nat) : Int) := by
  refine accS hk hq ?_
  rw [pow_int]
  omega
theorem accS_lit {q y k : Nat} {P : Int} (hP : P = 2 ^ (7 * k)) (hk : k ≤ 9) (hq : q < 128 ^ k) : bits .or .i64 (q : Int) (wrap64 ((y : Int) * P)) = wrap64 ((q + y * 128 ^ k : Nat) : Int) := by
  rw [hP]
  exact accS_var hk hq
theorem accS_lit' {q y k : Nat} {P : Int} (hP : P = 2 ^ (7 * k)) (hk : k ≤ 9) (hq : q < 128 ^ k) : bits .or .i64 (q : Int) ((y : Int) * P) = wrap64 ((q + y * 128 ^ k : Nat) : Int) := by
  rw [hP]
  exact accS_var' hk hq

/-- the number with its sign, behind the last group -/
theorem pow_split (a : Nat) : (128 : Nat) ^ (a + 1) = 128 ^ a * 128 := Nat.pow_succ ..
theorem sval_low {init : List Nat} {x J : Nat} (hJ : init.length = J) (hx : x < 64) (hJ8 : J ≤ 8) : wrap64 (uval (init ++ [x]) : Int) = sval (uval (init ++ [x])) (J + 1) := by
  have hlow := low_lt init x (by omega)
  have h1 : (x + 1) * 128 ^ init.length ≤ 64 * 128 ^ init.length := Nat.mul_le_mul_right _ (by omega)
  have h2 := pow_small (show init.length ≤ 8 by omega)
  rw [hJ] at hlow h1 h2
  have h3 := pow_split J
  generalize uval (init ++ [x]) = N at *
  have h4 : N < 64 * 128 ^ J := by omega
  have hs : sval N (J + 1) = N := by
    unfold sval
    rw [if_pos (by omega), h3, if_pos (by omega)]
  rw [hs]
  unfold wrap64
  omega
theorem wrap_high {N p : Int} (h1 : 64 * p ≤ N) (h2 : N < 128 * p) (h3 : p ≤ 72057594037927936) (h0 : 1 ≤ p) : wrap64 (wrap64 N - wrap64 (p * 128)) = N - p * 128 := by
  unfold wrap64
  omega
theorem two_pow (J : Nat) : (2 : Int) ^ (7 * (J + 1)) = ((128 ^ J : Nat) : Int) * 128 := by
  rw [Int.pow_mul, Int.pow_succ]
  simp
theorem sval_hi {N J : Nat} (hJ8 : J ≤ 8) (h : 64 * 128 ^ J ≤ N) : sval N (J + 1) = (N : Int) - ((128 ^ J : Nat) : Int) * 128 := by
  have h3 := pow_split J
  have e3 : (128 : Int) ^ (J + 1) = ((128 ^ J : Nat) : Int) * 128 := by
    rw [Int.pow_succ]
    simp
  unfold sval
  rw [if_pos (by omega), h3, if_neg (by omega), e3]
theorem sval_high {init : List Nat} {x J : Nat} (hJ : init.length = J) (hx : 64 ≤ x) (hx2 : x < 128) (hJ8 : J ≤ 8) :
    wrap64 (wrap64 (uval (init ++ [x]) : Int) - wrap64 (2 ^ (7 * (J + 1)))) = sval (uval (init ++ [x])) (J + 1) := by
  have htop := top_le init x hx2
  have hlow := low_lt init x hx2
  have h1 : 64 * 128 ^ init.length ≤ x * 128 ^ init.length := Nat.mul_le_mul_right _ hx
  have h1' : (x + 1) * 128 ^ init.length ≤ 128 * 128 ^ init.length := Nat.mul_le_mul_right _ (by omega)
  have h2 := pow_small (show init.length ≤ 8 by omega)
  have h0 : 1 ≤ 128 ^ init.length := Nat.one_le_pow _ _ (by omega)
  rw [hJ] at htop hlow h1 h1' h2 h0
  rw [sval_hi hJ8 (by omega), two_pow]
  exact wrap_high (by omega) (by omega) (by omega) (by omega)
theorem sval_ten' (N : Nat) : wrap64 (N : Int) = sval N 10 := by
  unfold sval
  rw [if_neg (by omega)]
  unfold wrap64
  omega
theorem low_case {init : List Nat} {x J : Nat} (hJ : init.length = J) (hx : x < 64) (hJ9 : J ≤ 9) : wrap64 (uval (init ++ [x]) : Int) = sval (uval (init ++ [x])) (J + 1) := by
  rcases Nat.lt_or_ge J 9 with h | h
  · exact sval_low hJ hx (by omega)
  · obtain rfl : J = 9 := by omega
    exact sval_ten' _

set_option maxRecDepth 100000 in
set_option maxHeartbeats 4000000 in
theorem refS_32 (A : Option Addr) (n c at_ : Nat) (l init tail : List Nat) (J : Nat) (w : World) (hs : Src w A n (bys l)) (hall : AllB l) (hn : n ≤ 140737488355328) (hat : at_ ≤ n)
    (hd : l.drop at_ = init ++ tail) (hg : Goes init) (hJ : init.length = J) (hJM : J ≤ 5) (ht : J = 5 ∨ tail = [] ∨ ∃ c r, tail = c :: r ∧ c < 128) :
    Calls Try.prog 15 #[.slice A n c, .int .i64 at_, .int .i64 32] w fun e w' => e = .returned (readV .i64 mayS sval l at_ 32) ∧ Below w.heap.size w w' := by
  have hb0 : Below w.heap.size w (w.alloc (.cells #[.int .i64 0, .int .i64 0, .int .i64 0] 28)) := (Below.refl _ _).alloc (Nat.le_refl _) _
  have hs1 := hs.below hb0 (Nat.le_refl _)
  have hl : l.length = n := by rw [← hs.1, bys_len]
  have HC := Lib.hid (groups_any A n c at_ 5 J l init tail _ hs1 hall hn hat (by omega) (by omega) hd hg hJ hJM ht)
  have hat0 : decide ((at_ : Int) < 0) = false := by simp
  have hat1 : decide ((n : Int) < (at_ : Int)) = false := by simp; omega
  have HD := Lib.hid hd
  have HJ := Lib.hid hJ
  have HT := Lib.hid ht
  have HL := Lib.hid hl
  clear hd ht hs1 hs hJ hl
  go_enter Try.func15, Try.ntmps15
  go_wp2_with fail
  refine (most_any 32 _).mono ?_
  rintro e w1 ⟨rfl, rfl⟩
  simp only [if_true, Int.reduceEq, if_false]
  go_wp2_with fail
  refine HC.out.mono ?_
  rintro e w1 (⟨hj, rfl, hb⟩ | ⟨hj, htl, rfl, hb⟩ | ⟨x, r, v, hj, htl, rfl, hown, hb⟩)
  · have HV := Lib.hid (readV_bad .i64 mayS sval l init tail at_ n 32 (by omega) HL.out hat HD.out hg (by rw [HJ.out, hj]; rfl))
    obtain ⟨hc, hf⟩ := bcell hb
    have hz : w.heap.size < w1.heap.size := by have := hb.size; simp at this; omega
    have hb1 := Lib.hid (hb0.trans (hb.mono (by simp)))
    clear hb hj
    unfold faultV
    go_wp2
    go_region
    go_wp2
    refine bodyPost_ret (v := .tuple #[.int .i64 0, .int .i64 0, faultV 3 ((at_ + 4 : Nat) : Int)]) ?_ rfl ⟨by rw [show readV .i64 mayS sval l at_ 32 = _ from HV.out]; rfl, ?_⟩
    · simp [results, Try.results15, go_sem, hc, faultV, hz]
    · exact ((((hb1.out.setCell (by simp) _).setCell (by simp) _).setCell (by simp) _).alloc (by simp; omega) _).drew
  · have HV := Lib.hid (readV_end .i64 mayS sval l init at_ n 32 (by omega) HL.out hat (by rw [HD.out, htl, List.append_nil]) hg (by rw [HJ.out]; show J ≤ 4; omega))
    obtain ⟨hc, hf⟩ := bcell hb
    have hz : w.heap.size < w1.heap.size := by have := hb.size; simp at this; omega
    have hb1 := Lib.hid (hb0.trans (hb.mono (by simp)))
    clear hb htl
    unfold faultV
    go_wp2
    go_region
    go_wp2
    refine bodyPost_ret (v := .tuple #[.int .i64 0, .int .i64 0, faultV 4 n]) ?_ rfl ⟨by rw [show readV .i64 mayS sval l at_ 32 = _ from HV.out], ?_⟩
    · simp [results, Try.results15, go_sem, hc, faultV, hz]
    · exact ((((hb1.out.setCell (by simp) _).setCell (by simp) _).setCell (by simp) _).alloc (by simp; omega) _).drew
  · have hx : x < 128 := by
      rcases HT.out with h | h | ⟨c', r', h1, h2⟩
      · omega
      · rw [h] at htl; cases htl
      · rw [h1] at htl; injection htl with h3 h4; omega
    have HX := Lib.hid (show l.drop at_ = init ++ x :: r by rw [HD.out, htl])
    clear htl
    obtain ⟨hc, hf⟩ := bcell hb
    have hz : w.heap.size < w1.heap.size := by have := hb.size; simp at this; omega
    have hb1 := Lib.hid (hb0.trans (hb.mono (by simp)))
    clear hb
    obtain ⟨gb, cg, rfl, hgb, hgb0⟩ := own_at hown (by omega)
    have HL7 := Lib.hid (show (init ++ [x]).length = J + 1 by simp [HJ.out])
    have hcell : ∀ k (hk : k < J + 1), w1.cell? ⟨gb, k, none⟩ = some (.int .u8 (((init ++ [x])[k]'(by rw [HL7.out]; exact hk) % 128 : Nat) : Int)) := fun k hk => by
      rw [hown.cellAt k (by omega)]
      unfold bys low7
      rw [List.getElem?_map, List.getElem?_map, List.getElem?_eq_getElem (by rw [HL7.out]; exact hk)]
      rfl
    have HCE := Lib.hid hcell
    clear hcell hown
    unfold faultV
    go_wp2_with fail
    go_loop [6, 7, 13, 14, 15, 16] (fun _ _ nv i _ _ => RefRelS 32 4 J x (init ++ [x]) nv i) (fun _ _ _ i _ _ => J + 2 - (intOf i).toNat)
    case atStart => exact ⟨0, by omega, rfl, by simp [gath, uval, wrap64], fun h => by omega⟩
    case round =>
      obtain ⟨k, hk, rfl, rfl, HMA⟩ := hrel
      by_cases hkJ : k < J + 1
      · have hce := HCE.out k hkJ
        have hkl : k < (init ++ [x]).length := by rw [HL7.out]; exact hkJ
        have hgl := gath_lt (init ++ [x]) (Nat.le_of_lt hkl)
        have HGN := Lib.hid (gath_next (init ++ [x]) hkl)
        have hy : (init ++ [x])[k] % 128 < 128 := by omega
        have HYX := Lib.hid (show k = J → (init ++ [x])[k] % 128 = x by
          intro h
          subst h
          simp [HJ.out.symm]
          omega)
        generalize (init ++ [x])[k] % 128 = y at *
        generalize hq : gath (init ++ [x]) k = q at *
        have HQ := Lib.hid hq
        clear hq
        have hq63 : q < 9223372036854775808 := by
          have h9 : (128 : Nat) ^ k ≤ 128 ^ 9 := Nat.pow_le_pow_right (by omega) (by omega)
          omega
        have HW := Lib.hid (show wrap64 (q : Int) = q by unfold wrap64; omega)
        rw [HW.out]
        by_cases hkm : k = 4
        · obtain rfl : k = 4 := hkm
          have hyx := HYX.out (by omega)
          subst hyx
          have HJm := Lib.hid (show J = 4 by omega)
          have HAcc := Lib.hid (accS_lit (q := q) (y := y) (k := 4) (P := 268435456) rfl (by omega) hgl)
          have HAcc' := Lib.hid (accS_lit' (q := q) (y := y) (k := 4) (P := 268435456) rfl (by omega) hgl)
          by_cases h1 : y < 8
          · have g1 : (((y : Int) / 8) != 0) = false := by simp; omega
            have HMY := Lib.hid (show mayS 32 y = true by simp [mayS]; omega)
            go_wp2_with fail
            go_round
            case rel =>
              have hr : RefRelS 32 4 J y (init ++ [y]) (.int .i64 (wrap64 (gath (init ++ [y]) (4 + 1)))) (.int .i64 5) := ⟨4 + 1, by omega, rfl, rfl, fun _ => HMY.out⟩
              rw [HGN.out] at hr
              first | (rw [HAcc.out]; exact hr) | (rw [HAcc'.out]; exact hr) | (rw [← HAcc.out] at hr; (repeat apply Exists.intro); exact ⟨hr, rfl, rfl, rfl, rfl⟩) | (rw [← HAcc'.out] at hr; (repeat apply Exists.intro); exact ⟨hr, rfl, rfl, rfl, rfl⟩)
            case measure => simp [intOf]; omega
          · by_cases h2 : 120 ≤ y
            · have g1 : (((y : Int) / 8) != 0) = true := by simp; omega
              have g2 : (((y : Int) / 8) != 15) = false := by simp; omega
              have HMY := Lib.hid (show mayS 32 y = true by simp [mayS]; omega)
              go_wp2_with fail
              go_round
              case rel =>
                have hr : RefRelS 32 4 J y (init ++ [y]) (.int .i64 (wrap64 (gath (init ++ [y]) (4 + 1)))) (.int .i64 5) := ⟨4 + 1, by omega, rfl, rfl, fun _ => HMY.out⟩
                rw [HGN.out] at hr
                first | (rw [HAcc.out]; exact hr) | (rw [HAcc'.out]; exact hr) | (rw [← HAcc.out] at hr; (repeat apply Exists.intro); exact ⟨hr, rfl, rfl, rfl, rfl⟩) | (rw [← HAcc'.out] at hr; (repeat apply Exists.intro); exact ⟨hr, rfl, rfl, rfl, rfl⟩)
              case measure => simp [intOf]; omega
            · have g1 : (((y : Int) / 8) != 0) = true := by simp; omega
              have g2 : (((y : Int) / 8) != 15) = true := by simp; omega
              have HV := Lib.hid (readV_no .i64 mayS sval l init at_ n 32 J y r (by omega) HL.out hat HX.out hg hx HJ.out HJm.out (by simp [mayS]; omega))
              go_wp2_with fail
              refine bodyPost_ret (v := .tuple #[.int .i64 0, .int .i64 0, faultV 3 ((at_ + J : Nat) : Int)]) ?_ rfl ⟨by rw [show readV .i64 mayS sval l at_ 32 = _ from HV.out], ?_⟩
              · simp [results, Try.results15, go_sem, hc, faultV, hz]
              · exact ((((hb1.out.setCell (by simp) _).setCell (by simp) _).setCell (by simp) _).alloc (by simp; omega) _)
        · have gk : ((k : Int) == 4) = false := by simp; omega
          have HAcc := Lib.hid (accS_var (q := q) (y := y) (k := k) (by omega) hgl)
          have HAcc' := Lib.hid (accS_var' (q := q) (y := y) (k := k) (by omega) hgl)
          go_wp2_with fail
          go_round
          case rel =>
            have hr : RefRelS 32 4 J x (init ++ [x]) (.int .i64 (wrap64 (gath (init ++ [x]) (k + 1)))) (.int .i64 ((k : Int) + 1)) := ⟨k + 1, by omega, by go_num, rfl, fun h => HMA.out (by omega)⟩
            rw [HGN.out] at hr
            first | (rw [HAcc.out]; exact hr) | (rw [HAcc'.out]; exact hr) | (rw [← HAcc.out] at hr; (repeat apply Exists.intro); exact ⟨hr, rfl, rfl, rfl, rfl⟩) | (rw [← HAcc'.out] at hr; (repeat apply Exists.intro); exact ⟨hr, rfl, rfl, rfl, rfl⟩)
          case measure => simp [intOf]; omega
      · have hkk : k = J + 1 := by omega
        have HG := Lib.hid (show gath (init ++ [x]) k = uval (init ++ [x]) by rw [hkk, ← HL7.out, gath_all])
        have hm : J < 4 ∨ J = 4 ∧ mayS 32 x = true := by
          rcases Nat.lt_or_ge J 4 with h | h
          · exact .inl h
          · exact .inr ⟨by omega, HMA.out (by omega)⟩
        have HV := Lib.hid (readV_ok .i64 mayS sval l init at_ n 32 J x r (by omega) HL.out hat HX.out hg hx HJ.out hm)
        have hce := HCE.out J (by omega)
        rw [show (init ++ [x])[J]'(by rw [HL7.out]; omega) % 128 = x by simp [HJ.out.symm]; omega] at hce
        rw [HG.out]
        have hkJ' : J + 1 ≤ k := by omega
        clear hkk hm
        by_cases h64 : x < 64
        · have g1 : decide ((64 : Int) ≤ (x : Int)) = false := by simp; omega
          have HSV := Lib.hid (show wrap64 (uval (init ++ [x]) : Int) = sval (uval (init ++ [x])) (J + 1) from sval_low HJ.out h64 (by omega))
          go_wp2_with fail
          refine bodyPost_ret (v := .tuple #[.int .i64 (sval (uval (init ++ [x])) (J + 1)), .int .i64 ((at_ + J + 1 : Nat) : Int), faultV 0 0]) ?_ rfl ⟨by rw [show readV .i64 mayS sval l at_ 32 = _ from HV.out], ?_⟩
          · rw [← HSV.out]
            simp [results, Try.results15, go_sem, hc, faultV, hz]
          · exact ((((hb1.out.setCell (by simp) _).setCell (by simp) _).setCell (by simp) _).alloc (by simp; omega) _)
        · have g1 : decide ((64 : Int) ≤ (x : Int)) = true := by simp; omega
          by_cases h8 : J ≤ 8
          · have g2 : decide (7 * ((J : Int) + 1) < 64) = true := by simp; omega
            have HSV := Lib.hid (sval_high HJ.out (show 64 ≤ x by omega) hx h8)
            go_wp2_with fail
            refine bodyPost_ret (v := .tuple #[.int .i64 (sval (uval (init ++ [x])) (J + 1)), .int .i64 ((at_ + J + 1 : Nat) : Int), faultV 0 0]) ?_ rfl ⟨by rw [show readV .i64 mayS sval l at_ 32 = _ from HV.out], ?_⟩
            · rw [← HSV.out]
              simp [results, Try.results15, go_sem, hc, faultV, hz]
            · exact ((((hb1.out.setCell (by simp) _).setCell (by simp) _).setCell (by simp) _).alloc (by simp; omega) _)
          · omega

set_option maxRecDepth 100000 in
set_option maxHeartbeats 4000000 in
theorem refS_64 (A : Option Addr) (n c at_ : Nat) (l init tail : List Nat) (J : Nat) (w : World) (hs : Src w A n (bys l)) (hall : AllB l) (hn : n ≤ 140737488355328) (hat : at_ ≤ n)
    (hd : l.drop at_ = init ++ tail) (hg : Goes init) (hJ : init.length = J) (hJM : J ≤ 10) (ht : J = 10 ∨ tail = [] ∨ ∃ c r, tail = c :: r ∧ c < 128) :
    Calls Try.prog 15 #[.slice A n c, .int .i64 at_, .int .i64 64] w fun e w' => e = .returned (readV .i64 mayS sval l at_ 64) ∧ Below w.heap.size w w' := by
  have hb0 : Below w.heap.size w (w.alloc (.cells #[.int .i64 0, .int .i64 0, .int .i64 0] 28)) := (Below.refl _ _).alloc (Nat.le_refl _) _
  have hs1 := hs.below hb0 (Nat.le_refl _)
  have hl : l.length = n := by rw [← hs.1, bys_len]
  have HC := Lib.hid (groups_any A n c at_ 10 J l init tail _ hs1 hall hn hat (by omega) (by omega) hd hg hJ hJM ht)
  have hat0 : decide ((at_ : Int) < 0) = false := by simp
  have hat1 : decide ((n : Int) < (at_ : Int)) = false := by simp; omega
  have HD := Lib.hid hd
  have HJ := Lib.hid hJ
  have HT := Lib.hid ht
  have HL := Lib.hid hl
  clear hd ht hs1 hs hJ hl
  go_enter Try.func15, Try.ntmps15
  go_wp2_with fail
  refine (most_any 64 _).mono ?_
  rintro e w1 ⟨rfl, rfl⟩
  simp only [if_true, Int.reduceEq, if_false]
  go_wp2_with fail
  refine HC.out.mono ?_
  rintro e w1 (⟨hj, rfl, hb⟩ | ⟨hj, htl, rfl, hb⟩ | ⟨x, r, v, hj, htl, rfl, hown, hb⟩)
  · have HV := Lib.hid (readV_bad .i64 mayS sval l init tail at_ n 64 (by omega) HL.out hat HD.out hg (by rw [HJ.out, hj]; rfl))
    obtain ⟨hc, hf⟩ := bcell hb
    have hz : w.heap.size < w1.heap.size := by have := hb.size; simp at this; omega
    have hb1 := Lib.hid (hb0.trans (hb.mono (by simp)))
    clear hb hj
    unfold faultV
    go_wp2
    go_region
    go_wp2
    refine bodyPost_ret (v := .tuple #[.int .i64 0, .int .i64 0, faultV 3 ((at_ + 9 : Nat) : Int)]) ?_ rfl ⟨by rw [show readV .i64 mayS sval l at_ 64 = _ from HV.out]; rfl, ?_⟩
    · simp [results, Try.results15, go_sem, hc, faultV, hz]
    · exact ((((hb1.out.setCell (by simp) _).setCell (by simp) _).setCell (by simp) _).alloc (by simp; omega) _).drew
  · have HV := Lib.hid (readV_end .i64 mayS sval l init at_ n 64 (by omega) HL.out hat (by rw [HD.out, htl, List.append_nil]) hg (by rw [HJ.out]; show J ≤ 9; omega))
    obtain ⟨hc, hf⟩ := bcell hb
    have hz : w.heap.size < w1.heap.size := by have := hb.size; simp at this; omega
    have hb1 := Lib.hid (hb0.trans (hb.mono (by simp)))
    clear hb htl
    unfold faultV
    go_wp2
    go_region
    go_wp2
    refine bodyPost_ret (v := .tuple #[.int .i64 0, .int .i64 0, faultV 4 n]) ?_ rfl ⟨by rw [show readV .i64 mayS sval l at_ 64 = _ from HV.out], ?_⟩
    · simp [results, Try.results15, go_sem, hc, faultV, hz]
    · exact ((((hb1.out.setCell (by simp) _).setCell (by simp) _).setCell (by simp) _).alloc (by simp; omega) _).drew
  · have hx : x < 128 := by
      rcases HT.out with h | h | ⟨c', r', h1, h2⟩
      · omega
      · rw [h] at htl; cases htl
      · rw [h1] at htl; injection htl with h3 h4; omega
    have HX := Lib.hid (show l.drop at_ = init ++ x :: r by rw [HD.out, htl])
    clear htl
    obtain ⟨hc, hf⟩ := bcell hb
    have hz : w.heap.size < w1.heap.size := by have := hb.size; simp at this; omega
    have hb1 := Lib.hid (hb0.trans (hb.mono (by simp)))
    clear hb
    obtain ⟨gb, cg, rfl, hgb, hgb0⟩ := own_at hown (by omega)
    have HL7 := Lib.hid (show (init ++ [x]).length = J + 1 by simp [HJ.out])
    have hcell : ∀ k (hk : k < J + 1), w1.cell? ⟨gb, k, none⟩ = some (.int .u8 (((init ++ [x])[k]'(by rw [HL7.out]; exact hk) % 128 : Nat) : Int)) := fun k hk => by
      rw [hown.cellAt k (by omega)]
      unfold bys low7
      rw [List.getElem?_map, List.getElem?_map, List.getElem?_eq_getElem (by rw [HL7.out]; exact hk)]
      rfl
    have HCE := Lib.hid hcell
    clear hcell hown
    unfold faultV
    go_wp2_with fail
    go_loop [6, 7, 13, 14, 15, 16] (fun _ _ nv i _ _ => RefRelS 64 9 J x (init ++ [x]) nv i) (fun _ _ _ i _ _ => J + 2 - (intOf i).toNat)
    case atStart => exact ⟨0, by omega, rfl, by simp [gath, uval, wrap64], fun h => by omega⟩
    case round =>
      obtain ⟨k, hk, rfl, rfl, HMA⟩ := hrel
      by_cases hkJ : k < J + 1
      · have hce := HCE.out k hkJ
        have hkl : k < (init ++ [x]).length := by rw [HL7.out]; exact hkJ
        have hgl := gath_lt (init ++ [x]) (Nat.le_of_lt hkl)
        have HGN := Lib.hid (gath_next (init ++ [x]) hkl)
        have hy : (init ++ [x])[k] % 128 < 128 := by omega
        have HYX := Lib.hid (show k = J → (init ++ [x])[k] % 128 = x by
          intro h
          subst h
          simp [HJ.out.symm]
          omega)
        generalize (init ++ [x])[k] % 128 = y at *
        generalize hq : gath (init ++ [x]) k = q at *
        have HQ := Lib.hid hq
        clear hq
        have hq63 : q < 9223372036854775808 := by
          have h9 : (128 : Nat) ^ k ≤ 128 ^ 9 := Nat.pow_le_pow_right (by omega) (by omega)
          omega
        have HW := Lib.hid (show wrap64 (q : Int) = q by unfold wrap64; omega)
        rw [HW.out]
        by_cases hkm : k = 9
        · obtain rfl : k = 9 := hkm
          have hyx := HYX.out (by omega)
          subst hyx
          have HJm := Lib.hid (show J = 9 by omega)
          have HAcc := Lib.hid (accS_lit (q := q) (y := y) (k := 9) (P := 9223372036854775808) rfl (by omega) hgl)
          have HAcc' := Lib.hid (accS_lit' (q := q) (y := y) (k := 9) (P := 9223372036854775808) rfl (by omega) hgl)
          by_cases h1 : y < 1
          · have g1 : ((y : Int) != 0) = false := by simp; omega
            have HMY := Lib.hid (show mayS 64 y = true by simp [mayS]; omega)
            go_wp2_with fail
            go_round
            case rel =>
              have hr : RefRelS 64 9 J y (init ++ [y]) (.int .i64 (wrap64 (gath (init ++ [y]) (9 + 1)))) (.int .i64 10) := ⟨9 + 1, by omega, rfl, rfl, fun _ => HMY.out⟩
              rw [HGN.out] at hr
              first | (rw [HAcc.out]; exact hr) | (rw [HAcc'.out]; exact hr) | (rw [← HAcc.out] at hr; (repeat apply Exists.intro); exact ⟨hr, rfl, rfl, rfl, rfl⟩) | (rw [← HAcc'.out] at hr; (repeat apply Exists.intro); exact ⟨hr, rfl, rfl, rfl, rfl⟩)
            case measure => simp [intOf]; omega
          · by_cases h2 : 127 ≤ y
            · have g1 : ((y : Int) != 0) = true := by simp; omega
              have g2 : ((y : Int) != 127) = false := by simp; omega
              have HMY := Lib.hid (show mayS 64 y = true by simp [mayS]; omega)
              go_wp2_with fail
              go_round
              case rel =>
                have hr : RefRelS 64 9 J y (init ++ [y]) (.int .i64 (wrap64 (gath (init ++ [y]) (9 + 1)))) (.int .i64 10) := ⟨9 + 1, by omega, rfl, rfl, fun _ => HMY.out⟩
                rw [HGN.out] at hr
                first | (rw [HAcc.out]; exact hr) | (rw [HAcc'.out]; exact hr) | (rw [← HAcc.out] at hr; (repeat apply Exists.intro); exact ⟨hr, rfl, rfl, rfl, rfl⟩) | (rw [← HAcc'.out] at hr; (repeat apply Exists.intro); exact ⟨hr, rfl, rfl, rfl, rfl⟩)
              case measure => simp [intOf]; omega
            · have g1 : ((y : Int) != 0) = true := by simp; omega
              have g2 : ((y : Int) != 127) = true := by simp; omega
              have HV := Lib.hid (readV_no .i64 mayS sval l init at_ n 64 J y r (by omega) HL.out hat HX.out hg hx HJ.out HJm.out (by simp [mayS]; omega))
              go_wp2_with fail
              refine bodyPost_ret (v := .tuple #[.int .i64 0, .int .i64 0, faultV 3 ((at_ + J : Nat) : Int)]) ?_ rfl ⟨by rw [show readV .i64 mayS sval l at_ 64 = _ from HV.out], ?_⟩
              · simp [results, Try.results15, go_sem, hc, faultV, hz]
              · exact ((((hb1.out.setCell (by simp) _).setCell (by simp) _).setCell (by simp) _).alloc (by simp; omega) _)
        · have gk : ((k : Int) == 9) = false := by simp; omega
          have HAcc := Lib.hid (accS_var (q := q) (y := y) (k := k) (by omega) hgl)
          have HAcc' := Lib.hid (accS_var' (q := q) (y := y) (k := k) (by omega) hgl)
          go_wp2_with fail
          go_round
          case rel =>
            have hr : RefRelS 64 9 J x (init ++ [x]) (.int .i64 (wrap64 (gath (init ++ [x]) (k + 1)))) (.int .i64 ((k : Int) + 1)) := ⟨k + 1, by omega, by go_num, rfl, fun h => HMA.out (by omega)⟩
            rw [HGN.out] at hr
            first | (rw [HAcc.out]; exact hr) | (rw [HAcc'.out]; exact hr) | (rw [← HAcc.out] at hr; (repeat apply Exists.intro); exact ⟨hr, rfl, rfl, rfl, rfl⟩) | (rw [← HAcc'.out] at hr; (repeat apply Exists.intro); exact ⟨hr, rfl, rfl, rfl, rfl⟩)
          case measure => simp [intOf]; omega
      · have hkk : k = J + 1 := by omega
        have HG := Lib.hid (show gath (init ++ [x]) k = uval (init ++ [x]) by rw [hkk, ← HL7.out, gath_all])
        have hm : J < 9 ∨ J = 9 ∧ mayS 64 x = true := by
          rcases Nat.lt_or_ge J 9 with h | h
          · exact .inl h
          · exact .inr ⟨by omega, HMA.out (by omega)⟩
        have HV := Lib.hid (readV_ok .i64 mayS sval l init at_ n 64 J x r (by omega) HL.out hat HX.out hg hx HJ.out hm)
        have hce := HCE.out J (by omega)
        rw [show (init ++ [x])[J]'(by rw [HL7.out]; omega) % 128 = x by simp [HJ.out.symm]; omega] at hce
        rw [HG.out]
        have hkJ' : J + 1 ≤ k := by omega
        clear hkk hm
        by_cases h64 : x < 64
        · have g1 : decide ((64 : Int) ≤ (x : Int)) = false := by simp; omega
          have HSV := Lib.hid (show wrap64 (uval (init ++ [x]) : Int) = sval (uval (init ++ [x])) (J + 1) from low_case HJ.out h64 (by omega))
          go_wp2_with fail
          refine bodyPost_ret (v := .tuple #[.int .i64 (sval (uval (init ++ [x])) (J + 1)), .int .i64 ((at_ + J + 1 : Nat) : Int), faultV 0 0]) ?_ rfl ⟨by rw [show readV .i64 mayS sval l at_ 64 = _ from HV.out], ?_⟩
          · rw [← HSV.out]
            simp [results, Try.results15, go_sem, hc, faultV, hz]
          · exact ((((hb1.out.setCell (by simp) _).setCell (by simp) _).setCell (by simp) _).alloc (by simp; omega) _)
        · have g1 : decide ((64 : Int) ≤ (x : Int)) = true := by simp; omega
          by_cases h8 : J ≤ 8
          · have g2 : decide (7 * ((J : Int) + 1) < 64) = true := by simp; omega
            have HSV := Lib.hid (sval_high HJ.out (show 64 ≤ x by omega) hx h8)
            go_wp2_with fail
            refine bodyPost_ret (v := .tuple #[.int .i64 (sval (uval (init ++ [x])) (J + 1)), .int .i64 ((at_ + J + 1 : Nat) : Int), faultV 0 0]) ?_ rfl ⟨by rw [show readV .i64 mayS sval l at_ 64 = _ from HV.out], ?_⟩
            · rw [← HSV.out]
              simp [results, Try.results15, go_sem, hc, faultV, hz]
            · exact ((((hb1.out.setCell (by simp) _).setCell (by simp) _).setCell (by simp) _).alloc (by simp; omega) _)
          · have HJ9 := Lib.hid (show J = 9 by omega)
            have g2 : decide (7 * ((J : Int) + 1) < 64) = false := by simp; omega
            have HSV := Lib.hid (show wrap64 (uval (init ++ [x]) : Int) = sval (uval (init ++ [x])) (J + 1) by rw [HJ9.out]; exact sval_ten' _)
            go_wp2_with fail
            refine bodyPost_ret (v := .tuple #[.int .i64 (sval (uval (init ++ [x])) (J + 1)), .int .i64 ((at_ + J + 1 : Nat) : Int), faultV 0 0]) ?_ rfl ⟨by rw [show readV .i64 mayS sval l at_ 64 = _ from HV.out], ?_⟩
            · rw [← HSV.out]
              simp [results, Try.results15, go_sem, hc, faultV, hz]
            · exact ((((hb1.out.setCell (by simp) _).setCell (by simp) _).setCell (by simp) _).alloc (by simp; omega) _)

end Go.Proofs.Ytlfbmpbnmakacaa

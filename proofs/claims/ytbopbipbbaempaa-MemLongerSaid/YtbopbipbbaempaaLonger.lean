/-
  MemLonger: what the statement's function answers.
  Conditions: the slice is within the row's own reach.
-/
import Derived.Test.YtbopbipbbaempaaGrows
namespace Go.Proofs.Ytbopbipbbaempaa
open Go.RowKit Go.Bk Go.Bk.Mem Go.Shelf

theorem growM_head (m : List Nat) (most : Int) (pages : Nat) : ∃ k, growM m most pages = m ++ List.replicate k 0 := by
  unfold growM
  split
  · exact ⟨_, rfl⟩
  · exact ⟨0, by simp⟩
theorem load_longer {m : List Nat} {op : Int} {addr off : Nat} (k : Nat) (h : (loadV m op addr off).2 = 0) : loadV (m ++ List.replicate k 0) op addr off = loadV m op addr off := by
  revert h
  unfold loadV
  cases hacc : acc op with
  | none => simp
  | some r =>
    obtain ⟨kk, wd, st, sg⟩ := r
    cases st with
    | true => simp
    | false =>
      simp only [Bool.false_eq_true, if_false]
      by_cases h0 : (placeV m.length wd addr off).2 = 0
      · intro _
        obtain ⟨_, h2, h3, h4⟩ := placeV_ok h0
        have h5 : (placeV (m ++ List.replicate k 0).length wd addr off).2 = 0 := by
          unfold placeV at h0 ⊢
          simp [insB] at h0 ⊢
          rw [if_neg (by omega)] at h0 ⊢
          split at h0
          · rw [if_pos (by omega)]
          · simp at h0
        rw [if_pos h0, if_pos h5]
        have : (List.drop (addr + off) (m ++ List.replicate k 0)).take wd.toNat = (List.drop (addr + off) m).take wd.toNat := by
          rw [List.drop_append_of_le_length (by omega), List.take_append_of_le_length (by simp; omega)]
        rw [this]
      · rw [if_neg h0]
        intro h
        exact absurd h h0
theorem ins_longer {n k a b : Nat} (h : insB n a b = true) : insB (n + k) a b = true := by
  simp [insB] at h ⊢
  omega

theorem reach_tight {n c : Nat} (h : n ≤ c) (hr : c * Try.prog.bytesOf 5 ≤ reachBytes) : n ≤ 140737488351232 := by
  have e : Try.prog.bytesOf 5 = 1 := by kernel_rfl
  rw [e] at hr
  unfold reachBytes at hr
  omega
def LoRel (w0 : World) (L : Nat) (i : Value) (wr : World) : Prop := ∃ k : Nat, k ≤ L ∧ i = .int .i64 k ∧ Hid (Below w0.heap.size w0 wr)

set_option maxRecDepth 100000 in
set_option maxHeartbeats 4000000 in
theorem MemLonger_true (w : World) (A : Option Addr) (n c : Nat) (zs : List Int) (hz : RowIn .u8 w A n c zs) (hreach : c * Try.prog.bytesOf 5 ≤ reachBytes) (pages : Int) (hpages : (Lit.int .u64 pages).wf = true) (op at_ off x : Int) (_ : (Lit.int .i64 op).wf = true) (hat : (Lit.int .u64 at_).wf = true)
    (hoff : (Lit.int .u64 off).wf = true) (_ : (Lit.int .u64 x).wf = true) :
    Calls Try.prog 5 #[.slice A n c, .int .u64 pages, .agg #[.int .i64 op, .int .u64 at_, .int .u64 off, .int .u64 x]] w fun e w' => e = .returned (.bool true) ∧ Below w.heap.size w w' := by
  obtain ⟨m, hs, hB, hnc, hA⟩ := hz.bytes
  have hn : n ≤ 140737488355328 := reach_len hnc hreach
  have hnt : n ≤ 140737488351232 := reach_tight hnc hreach
  obtain ⟨ha1, ha2⟩ := u64_bounds hat
  obtain ⟨addr, rfl⟩ := Int.eq_ofNat_of_zero_le ha1
  obtain ⟨ho1, ho2⟩ := u64_bounds hoff
  obtain ⟨of, rfl⟩ := Int.eq_ofNat_of_zero_le ho1
  obtain ⟨hp1, hp2⟩ := u64_bounds hpages
  obtain ⟨pg, rfl⟩ := Int.eq_ofNat_of_zero_le hp1
  have hml : m.length = n := by have := hs.1; rwa [bys_len] at this
  have hb0 := Lib.hid (show Below w.heap.size w (w.alloc (.cells #[.int .i64 op, .int .u64 addr, .int .u64 of, .int .u64 x] 25)) from (Below.refl _ _).alloc (Nat.le_refl _) _)
  have HS := Lib.hid (hs.below hb0.out (Nat.le_refl _))
  have HA := Lib.hid hA
  have HM := Lib.hid hml
  clear hs hA hz hreach hat hoff hpages hml
  go_enter Try.func5, Try.ntmps5
  go_wp2_with fail
  refine (Grow_any A n c m 4096 pg _ HS.out HA.out hn (by omega) (by omega) (by omega)).mono ?_
  rintro e w1 ⟨A1, c1, rfl, hw1, hb1⟩
  have hz1 : w.heap.size < w1.heap.size := by have := hb1.size; simp at this; omega
  have HC1 := Lib.hid (bcell hb1)
  have HS1 := Lib.hid (HS.out.below hb1 (Nat.le_refl _))
  have HB1 := Lib.hid (hb0.out.trans (hb1.mono (by simp)))
  have hBM := allB_grow hB 4096 pg
  have hGL : (growM m 4096 pg).length ≤ n + 4096 := by
    rw [growM]
    split
    · rename_i h; simp [growOk] at h; simp [HM.out]; omega
    · rw [HM.out]; omega
  obtain ⟨q, HQ⟩ := growM_head m 4096 pg
  generalize growR n 4096 pg = R
  rw [HQ] at hw1 hBM hGL
  rw [HQ]
  replace HQ := Lib.hid HQ
  have hL : (m ++ List.replicate q 0).length = n + q := by simp [HM.out]
  rw [hL] at hw1 hGL
  rw [hL]
  have HO1 := Lib.hid hw1
  have HT1 := Lib.hid (Bk.Src.of_own hw1)
  obtain ⟨_, _, e, hnc1⟩ := own_shape hw1
  have hc1 : n + q ≤ c1 := by injection e with _ _ e; omega
  clear hw1 hb1 e hL hnc1
  obtain ⟨L, HLL⟩ : ∃ L, n + q = L := ⟨_, rfl⟩
  rw [HLL] at HO1 HT1 hc1 hGL
  rw [HLL]
  have hnL : n ≤ L := by omega
  replace HLL := Lib.hid HLL
  have g0 : decide (L < n) = false := by simpa using hnL
  go_wp2_with fail
  go_loopw [27] (fun i wr => LoRel w1 L i wr) (fun i _ => L + 1 - (intOf i).toNat)
  case atStart => exact ⟨0, by omega, rfl, Lib.hid (Below.refl _ _)⟩
  case round =>
    obtain ⟨k, hk, rfl, HBK⟩ := hrel
    by_cases hlt : k < L
    · have hlt' : decide ((k : Int) < (L : Int)) = true := by simpa using hlt
      have HTK := Lib.hid (HT1.out.below HBK.out (Nat.le_refl _))
      obtain ⟨b1, o1, rfl, _⟩ := HTK.out.addr (by omega)
      have hce1 := HTK.out.at_ hlt
      rw [bys_get] at hce1
      by_cases hkn : k < n
      · have hkn' : decide (k < n) = true := by simpa using hkn
        have hkn2 : decide ((k : Int) < (n : Int)) = true := by simpa using hkn
        have hge : decide (n ≤ k) = false := by simpa using hkn
        have HSK := Lib.hid (HS1.out.below HBK.out (Nat.le_refl _))
        obtain ⟨b2, o2, rfl, _⟩ := HSK.out.addr (by omega)
        have hce2 := HSK.out.at_ hkn
        rw [bys_get] at hce2
        rw [List.getElem_append_left (by rw [HM.out]; exact hkn)] at hce1
        generalize m[k]'(by rw [HM.out]; exact hkn) = y at hce1 hce2
        have hyy : ((y : Int) != (y : Int)) = false := by simp
        go_wp2_with fail
        go_quiet (fail)
        go_wp2
        exact ⟨⟨k + 1, by omega, by simp, Lib.hid (below_drewN HBK.out _)⟩, by simp [intOf]; omega⟩
      · have hkn' : decide (k < n) = false := by simpa using hkn
        have hkn2 : decide ((k : Int) < (n : Int)) = false := by simpa using hkn
        have hge : decide (n ≤ k) = true := by simpa using hkn
        have hge2 : decide ((n : Int) ≤ (k : Int)) = true := by simpa using hkn
        rw [List.getElem_append_right (by rw [HM.out]; omega), List.getElem_replicate] at hce1
        have hyy : (((0 : Nat) : Int) != 0) = false := by simp
        simp only [Int.natCast_zero] at hce1
        go_wp2_with fail
        go_quiet (fail)
        go_wp2
        exact ⟨⟨k + 1, by omega, by simp, Lib.hid (below_drewN HBK.out _)⟩, by simp [intOf]; omega⟩
    · obtain rfl : k = L := by omega
      have HSK := Lib.hid (HS1.out.below HBK.out (Nat.le_refl _))
      have HTK := Lib.hid (HT1.out.below HBK.out (Nat.le_refl _))
      have HBZ := Lib.hid (HB1.out.trans (HBK.out.mono (Nat.le_of_lt hz1)))
      have hsz : w.heap.size < wr.heap.size := Nat.lt_of_lt_of_le hz1 HBK.out.size
      have hx0 := (HBK.out.cell (p := ⟨w.heap.size, 0, none⟩) hz1).trans (HC1.out.1 w.heap.size 0 (by simp))
      have hx1 := (HBK.out.cell (p := ⟨w.heap.size, 1, none⟩) hz1).trans (HC1.out.1 w.heap.size 1 (by simp))
      have hx2 := (HBK.out.cell (p := ⟨w.heap.size, 2, none⟩) hz1).trans (HC1.out.1 w.heap.size 2 (by simp))
      simp at hx0 hx1 hx2
      clear HBK HC1 HT1 HS1 HO1
      go_wp2_with fail
      refine (Load_any A n c addr of op m _ HSK.out hB hnc hn (by omega) (by omega)).mono ?_
      rintro e w2 ⟨rfl, hb2⟩
      have HTK2 := Lib.hid (HTK.out.below hb2 (Nat.le_refl _))
      have HBZ2 := Lib.hid (HBZ.out.trans (hb2.mono HBZ.out.size))
      have hy0 := (hb2.cell (p := ⟨w.heap.size, 0, none⟩) hsz).trans hx0
      have hy1 := (hb2.cell (p := ⟨w.heap.size, 1, none⟩) hsz).trans hx1
      have hy2 := (hb2.cell (p := ⟨w.heap.size, 2, none⟩) hsz).trans hx2
      have hsz2 : w.heap.size < w2.heap.size := Nat.lt_of_lt_of_le hsz hb2.size
      clear hb2 hx0 hx1 hx2 HTK HBZ HSK
      have HLo := Lib.hid (@load_longer m op addr of q)
      generalize HR : loadV m op addr of = R1
      replace HR := Lib.hid HR
      obtain ⟨r1, r2⟩ := R1
      go_wp2_with fail
      refine (Load_any A1 k c1 addr of op _ _ HTK2.out hBM hc1 (by omega) (by omega) (by omega)).mono ?_
      rintro e w3 ⟨rfl, hb3⟩
      have HBZ3 := Lib.hid (HBZ2.out.trans (hb3.mono HBZ2.out.size))
      have hu1 := (hb3.cell (p := ⟨w.heap.size, 1, none⟩) hsz2).trans hy1
      have hu2 := (hb3.cell (p := ⟨w.heap.size, 2, none⟩) hsz2).trans hy2
      clear hb3 hy0 hy1 hy2 HTK2 HBZ2
      generalize HR' : loadV (m ++ List.replicate q 0) op addr of = R2
      replace HR' := Lib.hid HR'
      obtain ⟨s1, s2⟩ := R2
      have HI := Lib.hid (fun h => @ins_longer n q addr of h)
      rw [HLL.out] at HI
      have key : (r2 != 0) = true ∨ ((r2 != 0) = false ∧ (r1 == s1) = true ∧ (s2 == 0) = true) := by
        by_cases h : r2 = 0
        · have := HLo.out (by rw [HR.out]; exact h)
          rw [HR.out, HR'.out] at this
          injection this with e1 e2
          exact .inr ⟨by simp [h], by simp [e1], by simp [e2, h]⟩
        · exact .inl (by simpa using h)
      clear HR HR' HLo
      have key2 : insB n addr of = false ∨ (insB n addr of = true ∧ insB k addr of = true) := by
        cases h : insB n addr of with
        | false => exact .inl rfl
        | true => exact .inr ⟨rfl, HI.out h⟩
      clear HI
      rcases key with hr | ⟨hr, hr1, hr2⟩ <;> rcases key2 with hi | ⟨hi, hi2⟩
      all_goals
        go_wp2_with fail
        refine (Inside_any A n c addr of _ hn).mono ?_
        rintro e w4 ⟨rfl, rfl⟩
        rw [hi]
        go_wp2_with fail
        try
          refine (Inside_any A1 k c1 addr of _ (by omega)).mono ?_
          rintro e w4 ⟨rfl, rfl⟩
          rw [hi2]
          go_wp2_with fail
        refine (alive_any _).mono ?_
        rintro e w4 ⟨rfl, hb4⟩
        have HB4 := Lib.hid (HBZ3.out.trans (hb4.mono HBZ3.out.size))
        clear hb4
        go_wp2
        go_ret
        exact ⟨rfl, HB4.out⟩
end Go.Proofs.Ytbopbipbbaempaa

/-
  The probe that stands in each statement of layer 1: it answers true.
  Conditions: none.
-/
import Derived.Test.YtlfbmpbnmakacaaRead3
namespace Go.Proofs.Ytlfbmpbnmakacaa
open Go.RowKit Go.Bk Go.Bk.Leb

set_option maxHeartbeats 400000 in
theorem same_any (A B : Option Addr) (n c m d : Nat) (x y : List Nat) (w : World) (ha : Src w A n (bys x)) (hx : AllB x) (hb : Src w B m (bys y)) (hy : AllB y) :
    Calls Try.prog 17 #[.slice A n c, .slice B m d] w fun e w' => e = .returned (.bool (decide (x = y))) ∧ w = w' := by
  have h1 := run_bstr (P := Try.prog) w 23 9 5 Try.underlying23 Try.underlying5 Try.underlying9 A n c x ha hx
  have h2 := run_bstr (P := Try.prog) w 23 9 5 Try.underlying23 Try.underlying5 Try.underlying9 B m d y hb hy
  have HE := Lib.hid (bstr_eq hx hy)
  clear ha hb
  go_enter Try.func17, Try.ntmps17
  go_wp2
  go_ret
  rw [← HE.out]
  exact ⟨rfl, rfl⟩

theorem alive_put : putU 624485 = [229, 142, 38] := by decide +kernel
theorem alive_puts : putS (-123456) = [192, 187, 120] := by decide +kernel
theorem alive_read : readV .u64 mayU natV [9, 229, 142, 38, 9] 1 32 = .tuple #[.int .u64 624485, .int .i64 4, .agg #[.int .i64 0, .int .i64 0, .int .i64 0]] := by kernel_rfl

theorem bys_lit3 (a b c : Nat) : bys [a, b, c] = [.int .u8 (a : Int), .int .u8 (b : Int), .int .u8 (c : Int)] := rfl

theorem allB_putG (last : Int → Bool) : ∀ (k : Nat) (n : Int), AllB (putG last k n)
  | 0, n => fun c hc => by
    simp [putG] at hc
    omega
  | k + 1, n => fun c hc => by
    unfold putG at hc
    split at hc
    · simp at hc
      omega
    · rcases List.mem_cons.1 hc with h | h
      · omega
      · exact allB_putG last k _ c h

set_option maxHeartbeats 800000 in
theorem alive_any (w : World) : Calls Try.prog 12 #[] w fun e w' => e = .returned (.bool true) ∧ Below w.heap.size w w' := by
  have HB0 := Lib.hid ((Below.refl w.heap.size w).alloc (Nat.le_refl _) (.cells #[.int .u8 9, .int .u8 229, .int .u8 142, .int .u8 38, .int .u8 9] 5))
  go_enter Try.func12, Try.ntmps12
  go_wp2_with fail
  refine (U_any _ 5 5 [9, 229, 142, 38, 9] 1 32 _ (src_lit w _ 5) (by unfold AllB; decide) (by omega) (by omega)).mono ?_
  rintro e w1 ⟨rfl, hb1⟩
  rw [alive_read]
  have HB1 := Lib.hid (HB0.out.trans (hb1.mono (by simp)))
  have hz1 : w.heap.size < w1.heap.size := by have := hb1.size; simp at this; omega
  clear hb1
  go_wp2_with fail
  refine (PutU_any none 0 0 [] 624485 _ (Src.nil _ _) (fun _ => ⟨rfl, rfl⟩) (by omega) ⟨by omega, by omega⟩).mono ?_
  rintro e w2 ⟨v2, rfl, hown2, hb2⟩
  rw [alive_put] at hown2
  obtain ⟨A2, c2, rfl, _⟩ := own_shape hown2
  have hs2 := Src.of_own hown2
  clear hown2
  obtain ⟨hc2, hf2⟩ := bcell hb2
  have hz2 : w1.heap.size < w2.heap.size := by have := hb2.size; simp at this; omega
  have HB2 := Lib.hid ((HB1.out.alloc (by omega) _).trans (hb2.mono (by simp; omega)))
  clear hb2
  go_wp2_with fail
  refine (same_any _ _ _ _ _ _ [229, 142, 38] [229, 142, 38] _ (hs2.below ((Below.refl _ _).alloc (Nat.le_refl _) _) (Nat.le_refl _)) (by unfold AllB; decide) (src_lit w2 _ 5) (by unfold AllB; decide)).mono ?_
  rintro e w3 ⟨rfl, rfl⟩
  rw [decide_eq_true rfl]
  go_wp2_with fail
  refine (PutS_any none 0 0 [] (-123456) _ (Src.nil _ _) (fun _ => ⟨rfl, rfl⟩) (by omega) ⟨by omega, by omega⟩).mono ?_
  rintro e w3 ⟨v3, rfl, hown3, hb3⟩
  rw [alive_puts] at hown3
  obtain ⟨A3, c3, rfl, _⟩ := own_shape hown3
  have hs3 := Src.of_own hown3
  clear hown3
  obtain ⟨hc3, hf3⟩ := bcell hb3
  have hz3 : w2.heap.size < w3.heap.size := by have := hb3.size; simp at this; omega
  have HB3 := Lib.hid ((HB2.out.alloc (by omega) _).trans (hb3.mono (by simp; omega)))
  clear hb3 hs2
  have hz13 : w1.heap.size < w3.heap.size := by omega
  have hz12 : w1.heap.size < w2.heap.size + 1 := by omega
  go_wp2_with fail
  refine (same_any _ _ _ _ _ _ [192, 187, 120] [192, 187, 120] _ (hs3.below ((Below.refl _ _).alloc (Nat.le_refl _) _) (Nat.le_refl _)) (by unfold AllB; decide) (src_lit w3 _ 5) (by unfold AllB; decide)).mono ?_
  rintro e w4 ⟨rfl, rfl⟩
  rw [decide_eq_true rfl]
  clear hs3
  go_wp2_with fail
  go_ret
  exact ⟨rfl, HB3.out.alloc (by omega) _⟩
end Go.Proofs.Ytlfbmpbnmakacaa

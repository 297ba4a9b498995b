/-
  The second closure of num.Eval: a count of the number that it finds.
  Conditions: what they hold is as Eval lays it.
-/
import Derived.Test.YtpfbdaemdghogaaDoorNumCnt
import Derived.Deep.RegionHeld3
namespace Go.Proofs.YtpfbdaemdghogaaDoor
open Go.RowKit Go.Bk Go.Bk.Num
set_option linter.unusedVariables false
set_option linter.unusedSimpArgs false

theorem bitLenAux_lt : ∀ (f x n : Nat), x < 2 ^ n → Lib.bitLenAux f x ≤ n
  | 0, x, n, _ => by simp [Lib.bitLenAux]
  | f + 1, x, 0, h => by
    have : x = 0 := by simpa using h
    simp [Lib.bitLenAux, this]
  | f + 1, x, n + 1, h => by
    rw [Lib.bitLenAux]
    have := bitLenAux_lt f (x / 2) n (by rw [Nat.pow_succ] at h; omega)
    split <;> omega
theorem bitLen_lt {x : Nat} (h : x < 4294967296) : Lib.bitLen x ≤ 32 := bitLenAux_lt 64 x 32 h
theorem cnt_cell {W x k g : Nat} {y : Int} {w : World} (h : (cntL W x).getD k 0 = y) (hk : k < 3) (hb : Blk w g 3 ((cntL W x).map (Value.int .i64)).toArray) : w.cell? ⟨g, k, none⟩ = some (.int .i64 y) := by
  rw [hb.cell k]
  simp only [List.getElem?_toArray, List.getElem?_map]
  rw [List.getElem?_eq_getElem (by simp [cntL]; omega), ← h, List.getD_eq_getElem?_getD, List.getElem?_eq_getElem (by simp [cntL]; omega)]
  rfl
theorem cnt_rng {W x k : Nat} (hW : (W = 64 ∧ x < 18446744073709551616) ∨ (W = 32 ∧ x < 4294967296)) (hk : k < 3) : 0 ≤ (cntL W x).getD k 0 ∧ (cntL W x).getD k 0 ≤ 64 := by
  have e : k = 0 ∨ k = 1 ∨ k = 2 := by omega
  have hb : Lib.bitLen x ≤ W := by
    rcases hW with ⟨rfl, _⟩ | ⟨rfl, hx⟩
    · exact bitLenAux_le 64 x
    · exact bitLen_lt hx
  have hc : Lib.ctz W x ≤ W := by
    by_cases h0 : x = 0
    · simp [Lib.ctz, h0]
    · have := (Lib.lowest_bit W x h0 (by rcases hW with ⟨rfl, h⟩ | ⟨rfl, h⟩ <;> exact h)).2
      omega
  have hp := popAux_le W x
  have hW64 : W ≤ 64 := by rcases hW with ⟨rfl, _⟩ | ⟨rfl, _⟩ <;> decide
  clear hW
  rcases e with rfl | rfl | rfl
  · show 0 ≤ (W : Int) - Lib.bitLen x ∧ (W : Int) - Lib.bitLen x ≤ 64; omega
  · show 0 ≤ ((Lib.ctz W x : Nat) : Int) ∧ ((Lib.ctz W x : Nat) : Int) ≤ 64; omega
  · show 0 ≤ ((Lib.popAux W x : Nat) : Int) ∧ ((Lib.popAux W x : Nat) : Int) ≤ 64; omega
set_option maxHeartbeats 1000000 in
theorem cl2_any (pa pg pk b o n c x W k : Nat) (a0 b0 c0 d : Int) (w : World) (hc : w.cell? ⟨pa, 0, none⟩ = some (.slice (some ⟨b, o, none⟩) n c)) (h0 : w.cell? ⟨b, o, none⟩ = some (.int .u64 x)) (hn : 1 ≤ n) (hk : w.cell? ⟨pk, 0, none⟩ = some (.int .i64 k)) (hk2 : k < 3)
    (hd : w.cell? ⟨pg, 3, none⟩ = some (.int .i64 d)) (l1 : pa < w.heap.size) (l2 : pk < w.heap.size) (l3 : b < w.heap.size) (l4 : pg < w.heap.size) (hT : Tabs w) (hW : (d = 126 ∧ W = 64 ∧ x < 18446744073709551616) ∨ (d = 127 ∧ W = 32 ∧ x < 4294967296)) :
    Calls Tryd.prog 27 #[.pointer (some ⟨pa, 0, none⟩), .pointer (some ⟨pg, 0, none⟩), .pointer (some ⟨pk, 0, none⟩)] w fun e w' => e = .returned (.int .u64 ((cntL W x).getD k 0)) ∧ Below w.heap.size w w' := by
  have hn' : 0 < n := by omega
  obtain ⟨wd, hwd, HCT⟩ : ∃ wd, (d == 126) = wd ∧ Hid (∀ W' : World, Tabs W' → Calls Tryd.prog 28 #[.int .u64 x, .bool wd] W' (CntPost W x W')) := by
    rcases hW with ⟨rfl, rfl, hx⟩ | ⟨rfl, rfl, hx⟩
    · exact ⟨true, rfl, Lib.hid (fun W' h => counts64 x hx W' h)⟩
    · exact ⟨false, rfl, Lib.hid (fun W' h => counts32 x hx W' h)⟩
  have HRN := Lib.hid (@cnt_rng W x k (by rcases hW with ⟨_, h1, h2⟩ | ⟨_, h1, h2⟩; exact .inl ⟨h1, h2⟩; exact .inr ⟨h1, h2⟩) hk2)
  have HT := Lib.hid hT
  clear hT hW
  obtain ⟨y, HY⟩ : ∃ y, (cntL W x).getD k 0 = y := ⟨_, rfl⟩
  have hy : 0 ≤ y ∧ y ≤ 64 := by rw [← HY]; exact HRN.out
  have hwr : IntKind.u64.wrap y = y := by rw [IntKind.wrap_u64]; omega
  rw [HY]
  replace HY := Lib.hid HY
  go_enter Tryd.func27, Tryd.ntmps27
  go_wp2_with fail
  go_region_with ((go_at_call 28; refine (HCT.out _ (HT.out.below (Below.refl _ _).drew HT.out.2.2)).mono ?_; rintro e w1 ⟨g, rfl, hg, hblk, hb⟩; have hkc : w1.cell? ⟨g, k, none⟩ = some (.int .i64 y) := cnt_cell HY.out hk2 hblk; have hk1 : w1.cell? ⟨pk, 0, none⟩ = some (.int .i64 k) := (hb.cell (p := ⟨pk, 0, none⟩) l2).trans hk; have HB1 := Lib.hid hb; clear hb hblk))
  all_goals
    go_wp2
    go_ret
    exact ⟨rfl, (Below.refl w.heap.size w).drew.trans HB1.out⟩
end Go.Proofs.YtpfbdaemdghogaaDoor

/-
  What is counted in a number: num.counts, and the library's functions that it calls.
  Conditions: the library's two tables hold what their initialisers lay.
-/
import Derived.Test.YtpfbdaemdghogaaDoorNumTwo2
import Derived.Test.YtpfbdaemdghogaaDoorShelf
import Derived.Test.YtpfbdaemdghogaaDoorPop
import Derived.Shelf.Spec.TrailingZeros
import Derived.Lib.Tables
import Derived.Laws.Bits128
namespace Go.Bk.Num
open Go Go.RowKit
/-- the counts of a number of W bits -/
def cntL (W x : Nat) : List Int := [(W : Int) - Lib.bitLen x, Lib.ctz W x, Lib.popAux W x]
end Go.Bk.Num
namespace Go.Proofs.YtpfbdaemdghogaaDoor
open Go.RowKit Go.Bk Go.Bk.Num
set_option linter.unusedVariables false
set_option linter.unusedSimpArgs false

/-- the library's two tables -/
def Tabs (w : World) : Prop := TabAt 0 Lib.deBruijn64tab w ∧ TabAt 1 Lib.deBruijn32tab w ∧ 2 ≤ w.heap.size
theorem tab_below {g : Nat} {l : List Nat} {w w' : World} {B : Nat} (h : TabAt g l w) (hb : Below B w w') (hB : g < B) : TabAt g l w' := fun j hj => (hb.cell (p := ⟨g, j, none⟩) hB).trans (h j hj)
theorem Tabs.below {w w' : World} {B : Nat} (h : Tabs w) (hb : Below B w w') (hB : 2 ≤ B) : Tabs w' := ⟨tab_below h.1 hb (by omega), tab_below h.2.1 hb (by omega), Nat.le_trans h.2.2 hb.size⟩

set_option maxHeartbeats 1000000 in
theorem tz64_core (x k idx : Nat) (w : World) (hx0 : ((x : Int) == 0) = false) (key : IntKind.u64.wrap (bits BinOp.and IntKind.u64 (x : Int) (IntKind.u64.wrap (-(x : Int))) * 285870213051353865) / 288230376151711744 = (idx : Int)) (hi : idx < 64) (hk : k < 64) (hcell : w.cell? ⟨0, idx, none⟩ = some (.int .u8 k)) :
    Calls Tryd.prog 46 #[.int .u64 x] w fun e w' => e = .returned (.int .i64 k) ∧ w = w' := by
  go_enter Tryd.func46, Tryd.ntmps46
  go_wp2_with (simp only [key])
  go_ret
  exact ⟨rfl, rfl⟩
set_option maxHeartbeats 1000000 in
theorem tz64_zero (w : World) : Calls Tryd.prog 46 #[.int .u64 0] w fun e w' => e = .returned (.int .i64 64) ∧ w = w' := by
  go_enter Tryd.func46, Tryd.ntmps46
  go_wp2
  go_ret
  exact ⟨rfl, rfl⟩
theorem tz64_any (x : Nat) (hx : x < 18446744073709551616) (w : World) (hT : Tabs w) : Calls Tryd.prog 46 #[.int .u64 x] w fun e w' => e = .returned (.int .i64 (Lib.ctz 64 x)) ∧ w = w' := by
  by_cases hx0 : x = 0
  · subst hx0
    exact tz64_zero w
  · obtain ⟨hlow, hk⟩ := Lib.lowest_bit 64 x hx0 hx
    obtain ⟨hi, htab⟩ := Lib.deBruijn64_at _ hk
    have hcell := hT.1 _ hi
    rw [htab] at hcell
    exact tz64_core x _ _ w (by simp; omega) (tz64_key x _ hx hx0 hlow) hi hk hcell
set_option maxHeartbeats 1000000 in
theorem tz32_core (x k idx : Nat) (w : World) (hx0 : ((x : Int) == 0) = false) (key : bits BinOp.and IntKind.u32 (x : Int) (-(x : Int) % 4294967296) * 125613361 % 4294967296 / 134217728 = (idx : Int)) (hi : idx < 32) (hk : k < 32) (hcell : w.cell? ⟨1, idx, none⟩ = some (.int .u8 k)) :
    Calls Tryd.prog 49 #[.int .u32 x] w fun e w' => e = .returned (.int .i64 k) ∧ w = w' := by
  go_enter Tryd.func49, Tryd.ntmps49
  go_wp2_with (simp only [key])
  go_ret
  exact ⟨rfl, rfl⟩
set_option maxHeartbeats 1000000 in
theorem tz32_zero (w : World) : Calls Tryd.prog 49 #[.int .u32 0] w fun e w' => e = .returned (.int .i64 32) ∧ w = w' := by
  go_enter Tryd.func49, Tryd.ntmps49
  go_wp2
  go_ret
  exact ⟨rfl, rfl⟩
theorem tz32_any (x : Nat) (hx : x < 4294967296) (w : World) (hT : Tabs w) : Calls Tryd.prog 49 #[.int .u32 x] w fun e w' => e = .returned (.int .i64 (Lib.ctz 32 x)) ∧ w = w' := by
  by_cases hx0 : x = 0
  · subst hx0
    exact tz32_zero w
  · obtain ⟨hlow, hk⟩ := Lib.lowest_bit 32 x hx0 hx
    obtain ⟨hi, htab⟩ := Lib.deBruijn32_at _ hk
    have hcell := hT.2.1 _ hi
    rw [htab] at hcell
    exact tz32_core x _ _ w (by simp; omega) (tz32_key x _ hx hx0 hlow) hi hk hcell

theorem m0 : mask 85 8 = 6148914691236517205 := by decide
theorem m1 : mask 51 8 = 3689348814741910323 := by decide
theorem m2 : mask 15 8 = 1085102592571150095 := by decide
theorem oc_and (x d m p : Nat) (hx : x < 18446744073709551616) (hm : m < 18446744073709551616) (h : x / d &&& m = p) : bits .and .u64 ((x : Int) / (d : Int)) (m : Int) = (p : Int) := by
  rw [← h, show (x : Int) / (d : Int) = ((x / d : Nat) : Int) from by simp]
  exact bits_and_u64_nat (x / d) m (Nat.lt_of_le_of_lt (Nat.div_le_self _ _) hx) hm
theorem oc_and2 (x m p : Nat) (hx : x ≤ 7378697629483820646) (hm : m < 18446744073709551616) (h : (x / 16 + x) &&& m = p) : bits .and .u64 ((x : Int) / 16 + (x : Int)) (m : Int) = (p : Int) := by
  rw [← h, show (x : Int) / 16 + (x : Int) = ((x / 16 + x : Nat) : Int) from by simp]
  exact bits_and_u64_nat (x / 16 + x) m (by omega) hm
theorem oc_end (y2 p : Nat) (h : (y2 + y2 / 4294967296) % 128 = p) : bits .and .i64 ((y2 : Int) + (y2 : Int) / 4294967296) 127 = (p : Int) := by rw [i64_and127]; omega
theorem oc_b (x3 y1 : Nat) (b : x3 ≤ 1085102592571150095) (h : x3 + x3 / 256 = y1) : y1 ≤ 1090000000000000000 := by omega
theorem oc_b2 (x3 y1 : Nat) (b : x3 ≤ 1090000000000000000) (h : x3 + x3 / 65536 = y1) : y1 ≤ 1100000000000000000 := by omega

set_option maxHeartbeats 1000000 in
theorem oc64_any (x : Nat) (hx : x < 18446744073709551616) (w : World) : Calls Tryd.prog 47 #[.int .u64 x] w fun e w' => e = .returned (.int .i64 (Lib.popAux 64 x)) ∧ w = w' := by
  have hle := popAux_le 64 x
  obtain ⟨p1, hp1⟩ : ∃ p, x / 2 &&& 6148914691236517205 = p := ⟨_, rfl⟩
  obtain ⟨q1, hq1⟩ : ∃ p, x &&& 6148914691236517205 = p := ⟨_, rfl⟩
  have bp1 : p1 ≤ 6148914691236517205 := by rw [← hp1]; exact Nat.and_le_right
  have bq1 : q1 ≤ 6148914691236517205 := by rw [← hq1]; exact Nat.and_le_right
  obtain ⟨x1, hx1⟩ : ∃ y, p1 + q1 = y := ⟨_, rfl⟩
  obtain ⟨p2, hp2⟩ : ∃ p, x1 / 4 &&& 3689348814741910323 = p := ⟨_, rfl⟩
  obtain ⟨q2, hq2⟩ : ∃ p, x1 &&& 3689348814741910323 = p := ⟨_, rfl⟩
  have bp2 : p2 ≤ 3689348814741910323 := by rw [← hp2]; exact Nat.and_le_right
  have bq2 : q2 ≤ 3689348814741910323 := by rw [← hq2]; exact Nat.and_le_right
  obtain ⟨x2, hx2⟩ : ∃ y, p2 + q2 = y := ⟨_, rfl⟩
  obtain ⟨x3, hx3⟩ : ∃ y, (x2 / 16 + x2) &&& 1085102592571150095 = y := ⟨_, rfl⟩
  have bx3 : x3 ≤ 1085102592571150095 := by rw [← hx3]; exact Nat.and_le_right
  obtain ⟨y1, hy1⟩ : ∃ y, x3 + x3 / 256 = y := ⟨_, rfl⟩
  obtain ⟨y2, hy2⟩ : ∃ y, y1 + y1 / 65536 = y := ⟨_, rfl⟩
  have hc : x3 = cnts 8 x := by
    have := (two_steps 8 x).2
    unfold stp at this
    rw [m0, m1, m2, hp1, hq1, hx1, hp2, hq2, hx2, hx3] at this
    exact this
  obtain ⟨hs, hb⟩ := cnts_sum x x3 y1 y2 hc hy1.symm hy2.symm
  have b1 : x1 ≤ 12297829382473034410 := by rw [← hx1]; exact Nat.add_le_add bp1 bq1
  have b2 : x2 ≤ 7378697629483820646 := by rw [← hx2]; exact Nat.add_le_add bp2 bq2
  have e1 : bits .and .u64 ((x : Int) / 2) 6148914691236517205 = (p1 : Int) := oc_and x 2 6148914691236517205 p1 hx (by decide) hp1
  have e2 : bits .and .u64 (x : Int) 6148914691236517205 = (q1 : Int) := by rw [← hq1]; exact bits_and_u64_nat x 6148914691236517205 hx (by decide)
  have e3 : (p1 : Int) + (q1 : Int) = (x1 : Int) := by rw [← hx1, Int.natCast_add]
  have e4 : bits .and .u64 ((x1 : Int) / 4) 3689348814741910323 = (p2 : Int) := oc_and x1 4 3689348814741910323 p2 (by omega) (by decide) hp2
  have e5 : bits .and .u64 (x1 : Int) 3689348814741910323 = (q2 : Int) := by rw [← hq2]; exact bits_and_u64_nat x1 3689348814741910323 (by omega) (by decide)
  have e6 : (p2 : Int) + (q2 : Int) = (x2 : Int) := by rw [← hx2, Int.natCast_add]
  have e7 : bits .and .u64 ((x2 : Int) / 16 + (x2 : Int)) 1085102592571150095 = (x3 : Int) := oc_and2 x2 1085102592571150095 x3 b2 (by decide) hx3
  have c3 : (x3 : Int) + (x3 : Int) / 256 = (y1 : Int) := by rw [← hy1]; simp
  have c4 : (y1 : Int) + (y1 : Int) / 65536 = (y2 : Int) := by rw [← hy2]; simp
  have e8 := oc_end y2 _ hs
  have b3 : y1 ≤ 1090000000000000000 := oc_b x3 y1 bx3 hy1
  have b4 : y2 ≤ 1100000000000000000 := oc_b2 y1 y2 b3 hy2
  generalize Lib.popAux 64 x = pc at *
  clear hp1 hq1 hx1 hp2 hq2 hx2 hx3 hy1 hy2 hc hs
  go_enter Tryd.func47, Tryd.ntmps47
  go_wp2
  go_ret
  exact ⟨rfl, rfl⟩

theorem ret_int {k : IntKind} {a b : Int} (h : a = b) : Ending.returned (.int k a) = .returned (.int k b) := by rw [h]
theorem sum4 (c0 c1 c2 c3 : Nat) : (c3 : Int) + c2 + c1 + c0 = ((c0 + c1 + c2 + c3 : Nat) : Int) := by omega
theorem and255 (x p : Nat) (hx : x < 4294967296) (h : x % 256 = p) : bits .and .u32 (x : Int) 255 = (p : Int) := by
  rw [← h, show (255 : Int) = ((2 ^ 8 - 1 : Nat) : Int) from rfl, bits_and_u32_nat x (2 ^ 8 - 1) hx (by decide), Nat.and_two_pow_sub_one_eq_mod]
theorem pop8c (b : Nat) (hb : b < 256) : Lib.pop8 (b : Int) = (Lib.popAux 8 b : Int) := by
  have := Lib.pop8_eq ⟨b, hb⟩
  simp only [Lib.onesCount] at this
  rw [this, show (64 : Nat) = 8 + 56 from rfl, popAux_lt (by omega)]
theorem pop8t (b : Nat) (hb : b < 256) (hz : b < Lib.pop8tab.size) : (Lib.pop8tab[b]'hz).toNat = Lib.popAux 8 b := by
  have := pop8c b hb
  unfold Lib.pop8 at this
  rw [Int.toNat_natCast, ByteArray.getElem?_lt' _ _ hz, Option.getD_some] at this
  omega
set_option maxRecDepth 100000 in
set_option maxHeartbeats 2000000 in
theorem oc32_any (x : Nat) (hx : x < 4294967296) (w : World) : Calls Tryd.prog 50 #[.int .u32 x] w fun e w' => e = .returned (.int .i64 (Lib.popAux 32 x)) ∧ w.drew = w' := by
  have hp := pop32 x
  obtain ⟨b0, h0⟩ : ∃ b, x % 256 = b := ⟨_, rfl⟩
  obtain ⟨b1, h1⟩ : ∃ b, x / 256 % 256 = b := ⟨_, rfl⟩
  obtain ⟨b2, h2⟩ : ∃ b, x / 65536 % 256 = b := ⟨_, rfl⟩
  obtain ⟨b3, h3⟩ : ∃ b, x / 16777216 % 256 = b := ⟨_, rfl⟩
  have l0 : b0 < 256 := by omega
  have l1 : b1 < 256 := by omega
  have l2 : b2 < 256 := by omega
  have l3 : b3 < 256 := by omega
  rw [h0, h1, h2, h3] at hp
  have e3 : (x : Int) / 16777216 = (b3 : Int) := by omega
  have e2 : bits .and .u32 ((x : Int) / 65536) 255 = (b2 : Int) := by rw [show (x : Int) / 65536 = ((x / 65536 : Nat) : Int) from by simp]; exact and255 _ _ (by omega) h2
  have e1 : bits .and .u32 ((x : Int) / 256) 255 = (b1 : Int) := by rw [show (x : Int) / 256 = ((x / 256 : Nat) : Int) from by simp]; exact and255 _ _ (by omega) h1
  have e0 : bits .and .u32 (x : Int) 255 = (b0 : Int) := and255 _ _ hx h0
  have z0 : b0 < Lib.pop8tab.size := by rw [Lib.pop8tab_size]; exact l0
  have p0 := pop8t b0 l0 z0
  have z1 : b1 < Lib.pop8tab.size := by rw [Lib.pop8tab_size]; exact l1
  have p1 := pop8t b1 l1 z1
  have z2 : b2 < Lib.pop8tab.size := by rw [Lib.pop8tab_size]; exact l2
  have p2 := pop8t b2 l2 z2
  have z3 : b3 < Lib.pop8tab.size := by rw [Lib.pop8tab_size]; exact l3
  have p3 := pop8t b3 l3 z3
  have m0 := popAux_le 8 b0
  have m1 := popAux_le 8 b1
  have m2 := popAux_le 8 b2
  have m3 := popAux_le 8 b3
  generalize Lib.popAux 8 b0 = c0 at *
  generalize Lib.popAux 8 b1 = c1 at *
  generalize Lib.popAux 8 b2 = c2 at *
  generalize Lib.popAux 8 b3 = c3 at *
  have HP := Lib.hid (show (c3 : Int) + c2 + c1 + c0 = (Lib.popAux 32 x : Int) by rw [hp]; exact sum4 c0 c1 c2 c3)
  clear hp h0 h1 h2 h3
  go_enter Tryd.func50, Tryd.ntmps50
  go_wp2_with fail
  go_region
  go_wp2
  go_ret
  exact ⟨ret_int HP.out, rfl⟩

theorem bitLenAux_le : ∀ f x, Lib.bitLenAux f x ≤ f
  | 0, _ => Nat.le_refl _
  | f + 1, x => by
    rw [Lib.bitLenAux]
    have := bitLenAux_le f (x / 2)
    split <;> omega

/-- what counts leaves -/
def CntPost (W x : Nat) (w : World) (e : Ending) (w' : World) : Prop :=
  ∃ g, e = .returned (.slice (some ⟨g, 0, none⟩) 3 3) ∧ w.heap.size ≤ g ∧ Blk w' g 3 ((cntL W x).map (Value.int .i64)).toArray ∧ Below w.heap.size w w'

set_option maxRecDepth 100000 in
set_option maxHeartbeats 1000000 in
theorem counts64 (x : Nat) (hx : x < 18446744073709551616) (w : World) (hT : Tabs w) : Calls Tryd.prog 28 #[.int .u64 x, .bool true] w (CntPost 64 x w) := by
  have HT := Lib.hid hT
  clear hT
  go_enter Tryd.func28, Tryd.ntmps28
  go_wp2_with fail
  refine (Tryd.bits_LeadingZeros64 x _ (by omega) (by omega)).mono ?_
  rintro e w1 ⟨rfl, rfl⟩
  rw [Int.toNat_natCast]
  go_wp2_with fail
  refine (tz64_any x hx _ HT.out).mono ?_
  rintro e w1 ⟨rfl, rfl⟩
  go_wp2_with fail
  refine (oc64_any x hx _).mono ?_
  rintro e w1 ⟨rfl, rfl⟩
  go_wp2
  go_ret
  exact ⟨_, rfl, Nat.le_refl _, Blk.new _ _ _, (Below.refl _ _).alloc (Nat.le_refl _) _⟩
set_option maxRecDepth 100000 in
set_option maxHeartbeats 1000000 in
theorem counts32 (x : Nat) (hx : x < 4294967296) (w : World) (hT : Tabs w) : Calls Tryd.prog 28 #[.int .u64 x, .bool false] w (CntPost 32 x w) := by
  have HT := Lib.hid hT
  clear hT
  go_enter Tryd.func28, Tryd.ntmps28
  go_wp2_with fail
  refine (Tryd.bits_LeadingZeros32 x _ (by omega) (by omega)).mono ?_
  rintro e w1 ⟨rfl, rfl⟩
  rw [Int.toNat_natCast]
  go_wp2_with fail
  refine (tz32_any x hx _ HT.out).mono ?_
  rintro e w1 ⟨rfl, rfl⟩
  go_wp2_with fail
  refine (oc32_any x hx _).mono ?_
  rintro e w1 ⟨rfl, rfl⟩
  go_wp2
  go_ret
  exact ⟨_, rfl, Nat.le_refl _, (Blk.new _ _ _).drew, ((Below.refl _ _).alloc (Nat.le_refl _) _).drew⟩
end Go.Proofs.YtpfbdaemdghogaaDoor

/-
  The closures of num.Eval: what each answers of the number that it finds.
  Conditions: what they hold is as Eval lays it.
-/
import Derived.Test.YtpfbdaemdghogaaDoorNumCnt
import Derived.Deep.RegionHeld3
namespace Go.Proofs.YtpfbdaemdghogaaDoor
open Go.RowKit Go.Bk Go.Bk.Num
set_option linter.unusedVariables false
set_option linter.unusedSimpArgs false

theorem cl1_any (pa b o n c x : Nat) (w : World) (hc : w.cell? ⟨pa, 0, none⟩ = some (.slice (some ⟨b, o, none⟩) n c)) (h0 : w.cell? ⟨b, o, none⟩ = some (.int .u64 x)) (hn : 1 ≤ n) :
    Calls Tryd.prog 25 #[.pointer (some ⟨pa, 0, none⟩)] w fun e w' => e = .returned (.int .u64 (b01 ((x : Int) == 0))) ∧ w = w' := by
  obtain ⟨y, hy⟩ : ∃ y, ((x : Int) == 0) = y := ⟨_, rfl⟩
  rw [hy]
  have hn' : 0 < n := by omega
  go_enter Tryd.func25, Tryd.ntmps25
  go_wp2_with fail
  refine (one_any y _).mono ?_
  rintro e w1 ⟨rfl, rfl⟩
  go_wp2
  go_ret
  exact ⟨rfl, rfl⟩
theorem cl3_any (pa b o n c x : Nat) (w : World) (hc : w.cell? ⟨pa, 0, none⟩ = some (.slice (some ⟨b, o, none⟩) n c)) (h0 : w.cell? ⟨b, o, none⟩ = some (.int .u64 x)) (hn : 1 ≤ n) :
    Calls Tryd.prog 29 #[.pointer (some ⟨pa, 0, none⟩)] w fun e w' => e = .returned (.int .u64 ((x : Int) % 4294967296)) ∧ w = w' := by
  have hn' : 0 < n := by omega
  go_enter Tryd.func29, Tryd.ntmps29
  go_wp2
  go_ret
  exact ⟨rfl, rfl⟩
/-- what is widened: signed, or as it is -/
def widV (k : Int) (x : Nat) : Int := if k = 0 then IntKind.u64.wrap (wrap64 (wrap32 x)) else x
/-- a number's low bits, signed, by the place among the extensions -/
def sgnK (k : Int) (x : Nat) : Int := if k = 0 then wrap64 (IntKind.i8.wrap x) else if k = 1 then wrap64 (IntKind.i16.wrap x) else wrap64 (wrap32 x)
def extV (k out : Int) (x : Nat) : Int := if out = 127 then sgnK k x % 4294967296 else IntKind.u64.wrap (sgnK k x)
theorem ext0p {out : Int} {x : Nat} (q : (out == 127) = true) : extV 0 out x = wrap64 (IntKind.i8.wrap x) % 4294967296 := by rw [extV, if_pos (eq_of_beq q), sgnK, if_pos rfl]
theorem ext0n {out : Int} {x : Nat} (q : (out == 127) = false) : extV 0 out x = IntKind.u64.wrap (wrap64 (IntKind.i8.wrap x)) := by rw [extV, if_neg (ne_of_beq_false q), sgnK, if_pos rfl]
theorem ext1p {out : Int} {x : Nat} (q : (out == 127) = true) : extV 1 out x = wrap64 (IntKind.i16.wrap x) % 4294967296 := by rw [extV, if_pos (eq_of_beq q), sgnK, if_neg (by decide), if_pos rfl]
theorem ext1n {out : Int} {x : Nat} (q : (out == 127) = false) : extV 1 out x = IntKind.u64.wrap (wrap64 (IntKind.i16.wrap x)) := by rw [extV, if_neg (ne_of_beq_false q), sgnK, if_neg (by decide), if_pos rfl]
theorem ext2p {out : Int} {x : Nat} (q : (out == 127) = true) : extV 2 out x = wrap64 (wrap32 x) % 4294967296 := by rw [extV, if_pos (eq_of_beq q), sgnK, if_neg (by decide), if_neg (by decide)]
theorem ext2n {out : Int} {x : Nat} (q : (out == 127) = false) : extV 2 out x = IntKind.u64.wrap (wrap64 (wrap32 x)) := by rw [extV, if_neg (ne_of_beq_false q), sgnK, if_neg (by decide), if_neg (by decide)]
theorem wid0 {x : Nat} : widV 0 x = IntKind.u64.wrap (wrap64 (wrap32 x)) := by rw [widV, if_pos rfl]
theorem wid1 {x : Nat} : widV 1 x = x := by rw [widV, if_neg (by decide)]
set_option maxHeartbeats 1000000 in
theorem cl4_any (pa pk b o n c x : Nat) (k : Int) (w : World) (hc : w.cell? ⟨pa, 0, none⟩ = some (.slice (some ⟨b, o, none⟩) n c)) (h0 : w.cell? ⟨b, o, none⟩ = some (.int .u64 x)) (hn : 1 ≤ n) (hk : w.cell? ⟨pk, 0, none⟩ = some (.int .i64 k)) (hk2 : k = 0 ∨ k = 1)
    (l1 : pa < w.heap.size) (l2 : pk < w.heap.size) (l3 : b < w.heap.size) :
    Calls Tryd.prog 30 #[.pointer (some ⟨pa, 0, none⟩), .pointer (some ⟨pk, 0, none⟩)] w fun e w' => e = .returned (.int .u64 (widV k x)) ∧ Below w.heap.size w w' := by
  have hn' : 0 < n := by omega
  rcases hk2 with rfl | rfl
  all_goals
    go_enter Tryd.func30, Tryd.ntmps30
    go_wp2_with fail
    go_region
    go_wp2
    go_ret
    first | rw [wid0] | rw [wid1]
    exact ⟨rfl, ((Below.refl _ _).alloc (Nat.le_refl _) _).drew⟩
set_option maxHeartbeats 1000000 in
theorem cl5_any (pa pk po b o n c x : Nat) (k out : Int) (w : World) (hc : w.cell? ⟨pa, 0, none⟩ = some (.slice (some ⟨b, o, none⟩) n c)) (h0 : w.cell? ⟨b, o, none⟩ = some (.int .u64 x)) (hn : 1 ≤ n) (hk : w.cell? ⟨pk, 0, none⟩ = some (.int .i64 k)) (hk2 : k = 0 ∨ k = 1 ∨ k = 2)
    (ho : w.cell? ⟨po, 0, none⟩ = some (.int .i64 out)) (l1 : pa < w.heap.size) (l2 : pk < w.heap.size) (l3 : b < w.heap.size) (l4 : po < w.heap.size) :
    Calls Tryd.prog 31 #[.pointer (some ⟨pa, 0, none⟩), .pointer (some ⟨pk, 0, none⟩), .pointer (some ⟨po, 0, none⟩)] w fun e w' => e = .returned (.int .u64 (extV k out x)) ∧ Below w.heap.size w w' := by
  have hn' : 0 < n := by omega
  by_cases h127 : out = 127
  · have q : (out == 127) = true := by simp [h127]
    clear h127
    rcases hk2 with rfl | rfl | rfl
    all_goals
      go_enter Tryd.func31, Tryd.ntmps31
      go_wp2_with fail
      go_region
      go_wp2
      go_ret
      first | rw [ext0p q] | rw [ext1p q] | rw [ext2p q]
      exact ⟨rfl, ((Below.refl _ _).alloc (Nat.le_refl _) _).drew⟩
  · have q : (out == 127) = false := by simp [h127]
    clear h127
    rcases hk2 with rfl | rfl | rfl
    all_goals
      go_enter Tryd.func31, Tryd.ntmps31
      go_wp2_with fail
      go_region
      go_wp2
      go_ret
      first | rw [ext0n q] | rw [ext1n q] | rw [ext2n q]
      exact ⟨rfl, ((Below.refl _ _).alloc (Nat.le_refl _) _).drew⟩
end Go.Proofs.YtpfbdaemdghogaaDoor

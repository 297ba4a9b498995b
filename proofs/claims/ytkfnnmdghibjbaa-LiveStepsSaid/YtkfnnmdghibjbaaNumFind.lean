/-
  The operators' groups: what num.groups and num.find answer.
  Conditions: none.
-/
import Derived.Test.YtkfnnmdghibjbaaBase
import Derived.Test.YtkfnnmdghibjbaaProg
namespace Go.Bk.Num
open Go
/-- the groups of operators: the first one, how many, the kind, the type -/
def grps : List (Int × Int × Int × Int) := [(69, 1, 0, 127), (70, 10, 1, 127), (80, 1, 0, 126), (81, 10, 1, 126), (103, 3, 2, 127), (106, 15, 3, 127), (121, 3, 2, 126), (124, 15, 3, 126), (167, 1, 4, 126), (172, 2, 5, 127), (192, 2, 6, 127), (194, 3, 6, 126)]
/-- is an operator in a group? -/
def inG (op : Int) (g : Int × Int × Int × Int) : Bool := decide (g.1 ≤ op) && decide (op - g.1 < g.2.1)
def grpOf (op : Int) : Option (Int × Int × Int × Int) := grps.find? (inG op)
def gV (g : Int × Int × Int × Int) : Value := .agg #[.int .i64 g.1, .int .i64 g.2.1, .int .i64 g.2.2.1, .int .i64 g.2.2.2]
def grpCells : Array Value := (grps.flatMap fun g => [Value.int .i64 g.1, .int .i64 g.2.1, .int .i64 g.2.2.1, .int .i64 g.2.2.2]).toArray
theorem grp_at : ∀ i, i < 12 → ∃ a b c d, grps[i]? = some (a, b, c, d) ∧ grpCells[i * 4]? = some (.int .i64 a) ∧ grpCells[i * 4 + 1]? = some (.int .i64 b) ∧ grpCells[i * 4 + 2]? = some (.int .i64 c) ∧ grpCells[i * 4 + 3]? = some (.int .i64 d) ∧ 69 ≤ a ∧ a ≤ 194 ∧ 1 ≤ b ∧ b ≤ 15 := by
  intro i hi
  have h : i = 0 ∨ i = 1 ∨ i = 2 ∨ i = 3 ∨ i = 4 ∨ i = 5 ∨ i = 6 ∨ i = 7 ∨ i = 8 ∨ i = 9 ∨ i = 10 ∨ i = 11 := by omega
  rcases h with rfl | rfl | rfl | rfl | rfl | rfl | rfl | rfl | rfl | rfl | rfl | rfl <;> exact ⟨_, _, _, _, rfl, rfl, rfl, rfl, rfl, by decide, by decide, by decide, by decide⟩
end Go.Bk.Num
namespace Go.Proofs.Ytkfnnmdghibjbaa
open Go.RowKit Go.Bk Go.Bk.Num

theorem grpOf_some {op : Int} {k : Nat} {g : Int × Int × Int × Int} (hN : ∀ j, j < k → ∀ g, grps[j]? = some g → inG op g = false) (hg : grps[k]? = some g) (h : inG op g = true) : grpOf op = some g := by
  rw [grpOf, List.find?_eq_some_iff_getElem]
  obtain ⟨hl, e⟩ := List.getElem?_eq_some_iff.1 hg
  exact ⟨h, k, hl, e, fun j hj => by simp [hN j hj _ (List.getElem?_eq_getElem (by omega))]⟩
theorem grpOf_none {op : Int} (hN : ∀ j, j < 12 → ∀ g, grps[j]? = some g → inG op g = false) : grpOf op = none := by
  rw [grpOf, List.find?_eq_none]
  intro g hg
  obtain ⟨j, hj, e⟩ := List.mem_iff_getElem.1 hg
  simp [hN j (by simpa [grps] using hj) g (by rw [← e]; exact List.getElem?_eq_getElem hj)]

set_option maxHeartbeats 1000000 in
theorem groups_any (w : World) : Calls Try.prog 101 #[] w fun e w' => e = .returned (.slice (some ⟨w.heap.size, 0, none⟩) 12 12) ∧ w.alloc (.cells grpCells 129) = w' := by
  go_enter Try.func101, Try.ntmps101
  go_wp2
  go_ret
  exact ⟨rfl, rfl⟩

/-- the groups ahead of i hold no such operator -/
def FiRel (w0 : World) (G : Nat) (op : Int) (rc : Nat) (i : Value) (wr : World) : Prop :=
  ∃ k : Nat, k ≤ 12 ∧ i = .int .i64 k ∧ Hid (∀ j, j < k → ∀ g, grps[j]? = some g → inG op g = false) ∧ Hid (Blk wr G 129 grpCells) ∧ Hid (Blk wr rc 129 #[.int .i64 0, .int .i64 0, .int .i64 0, .int .i64 0]) ∧ Hid (Below w0.heap.size w0 wr)

theorem fi_next {w wr : World} {G rc k : Nat} {op : Int} {g : Int × Int × Int × Int} {o : Obj} (HN : Hid (∀ j, j < k → ∀ g, grps[j]? = some g → inG op g = false)) (HG : Hid (Blk wr G 129 grpCells)) (HR : Hid (Blk wr rc 129 #[.int .i64 0, .int .i64 0, .int .i64 0, .int .i64 0])) (HB : Hid (Below w.heap.size w wr))
    (hg : grps[k]? = some g) (hn : inG op g = false) (hk : k < 12) : FiRel w G op rc (.int .i64 ((k : Int) + 1)) (wr.alloc o) ∧ 13 - (intOf (.int .i64 ((k : Int) + 1))).toNat < 13 - (intOf (.int .i64 (k : Int))).toNat := by
  refine ⟨⟨k + 1, by omega, by simp, Lib.hid (fun j hj x hx => ?_), Lib.hid (HG.out.below ((Below.refl wr.heap.size _).alloc (Nat.le_refl _) _) HG.out.lt), Lib.hid (HR.out.below ((Below.refl wr.heap.size _).alloc (Nat.le_refl _) _) HR.out.lt), Lib.hid (HB.out.alloc HB.out.size _)⟩, by simp [intOf]; omega⟩
  by_cases e : j = k
  · subst e
    rw [hg] at hx
    injection hx with hx
    rw [← hx]
    exact hn
  · exact HN.out j (by omega) x hx

def findT (op : Int) : Value := match grpOf op with
  | none => .tuple #[.agg #[.int .i64 0, .int .i64 0, .int .i64 0, .int .i64 0], .int .i64 0, .bool false]
  | some g => .tuple #[gV g, .int .i64 (op - g.1), .bool true]

set_option maxRecDepth 100000 in
set_option maxHeartbeats 4000000 in
theorem find_any (op : Int) (w : World) (h1 : -9223372036854775808 ≤ op) (h2 : op ≤ 9223372036854775807) : Calls Try.prog 95 #[.int .i64 op] w fun e w' => e = .returned (findT op) ∧ Below w.heap.size w w' := by
  go_enter Try.func95, Try.ntmps95
  go_wp2_with fail
  refine (groups_any _).mono ?_
  rintro e w1 ⟨rfl, rfl⟩
  go_wp2_with fail
  have HB0 := Lib.hid (show Below w.heap.size w ((w.alloc (.cells #[.int .i64 0, .int .i64 0, .int .i64 0, .int .i64 0] 129)).alloc (.cells grpCells 129)) from ((Below.refl _ _).alloc (Nat.le_refl _) _).alloc (by simp) _)
  have HR0 := Lib.hid (show Blk ((w.alloc (.cells #[.int .i64 0, .int .i64 0, .int .i64 0, .int .i64 0] 129)).alloc (.cells grpCells 129)) w.heap.size 129 #[.int .i64 0, .int .i64 0, .int .i64 0, .int .i64 0] from
    (Blk.new w 129 _).below ((Below.refl (w.heap.size + 1) _).alloc (by simp) _) (by omega))
  have HG0 := Lib.hid (show Blk ((w.alloc (.cells #[.int .i64 0, .int .i64 0, .int .i64 0, .int .i64 0] 129)).alloc (.cells grpCells 129)) (w.heap.size + 1) 129 grpCells from by
    have := Blk.new (w.alloc (.cells #[.int .i64 0, .int .i64 0, .int .i64 0, .int .i64 0] 129)) 129 grpCells
    simpa using this)
  go_loopw [9] (fun i wr => FiRel w (w.heap.size + 1) op w.heap.size i wr) (fun i _ => 13 - (intOf i).toNat)
  case atStart => exact ⟨0, by omega, rfl, Lib.hid (fun j hj => by omega), HG0, HR0, HB0⟩
  case round =>
    clear HB0 HR0 HG0
    obtain ⟨k, hk, rfl, HN, HG, HR, HB⟩ := hrel
    by_cases hlt : k < 12
    · have hlt' : decide ((k : Int) < 12) = true := by simp; omega
      obtain ⟨a, b, c, d, hg, e0, e1, e2, e3, ha1, ha2, hb1, hb2⟩ := grp_at k hlt
      have c0 := (HG.out.cell (k * 4)).trans e0
      have c1 := (HG.out.cell (k * 4 + 1)).trans e1
      have c2 := (HG.out.cell (k * 4 + 2)).trans e2
      have c3 := (HG.out.cell (k * 4 + 3)).trans e3
      have HGI := Lib.hid hg
      have hs1 : w.heap.size + 1 < wr.heap.size := HG.out.lt
      have hs0 : w.heap.size < wr.heap.size := by omega
      have r0 := HR.out.cell 0
      have r1 := HR.out.cell 1
      have r2 := HR.out.cell 2
      have r3 := HR.out.cell 3
      simp at r0 r1 r2 r3
      have z0 := frozen_of_row wr w.heap.size 0 _ _ HR.out
      have z1 := frozen_of_row wr w.heap.size 1 _ _ HR.out
      have z2 := frozen_of_row wr w.heap.size 2 _ _ HR.out
      have z3 := frozen_of_row wr w.heap.size 3 _ _ HR.out
      clear e0 e1 e2 e3 hg
      by_cases q1 : a ≤ op
      · have q1' : decide (a ≤ op) = true := by simpa using q1
        by_cases q2 : op - a < b
        · have q2' : decide (op - a < b) = true := by simpa using q2
          go_wp2_with fail
          go_region
          go_wp2
          refine bodyPost_ret (v := .tuple #[.agg #[.int .i64 a, .int .i64 b, .int .i64 c, .int .i64 d], .int .i64 (op - a), .bool true]) (by simp [results, Try.results95, go_sem, hs0, r0, r1, r2, r3]) rfl ⟨?_, ?_⟩
          · rw [findT, grpOf_some HN.out HGI.out (by simp [inG, q1, q2])]
            rfl
          · exact (((((HB.out.setCell (p := ⟨w.heap.size, 0, none⟩) (Nat.le_refl _) _).setCell (p := ⟨w.heap.size, 1, none⟩) (Nat.le_refl _) _).setCell (p := ⟨w.heap.size, 2, none⟩) (Nat.le_refl _) _).setCell (p := ⟨w.heap.size, 3, none⟩) (Nat.le_refl _) _).alloc (by simp; omega) _).drew
        · have q2' : decide (op - a < b) = false := by simpa using q2
          go_wp2
          exact fi_next HN HG HR HB HGI.out (by simp [inG, q2]) hlt
      · have q1' : decide (a ≤ op) = false := by simpa using q1
        go_wp2
        exact fi_next HN HG HR HB HGI.out (by simp [inG, q1]) hlt
    · obtain rfl : k = 12 := by omega
      have r0 := HR.out.cell 0
      have r1 := HR.out.cell 1
      have r2 := HR.out.cell 2
      have r3 := HR.out.cell 3
      simp at r0 r1 r2 r3
      have z0 := frozen_of_row wr w.heap.size 0 _ _ HR.out
      have z1 := frozen_of_row wr w.heap.size 1 _ _ HR.out
      have z2 := frozen_of_row wr w.heap.size 2 _ _ HR.out
      have z3 := frozen_of_row wr w.heap.size 3 _ _ HR.out
      go_wp2
      refine bodyPost_ret (v := .tuple #[.agg #[.int .i64 0, .int .i64 0, .int .i64 0, .int .i64 0], .int .i64 0, .bool false]) (by simp [results, Try.results95, go_sem, r0, r1, r2, r3]) rfl ⟨?_, ?_⟩
      · rw [findT, grpOf_none HN.out]
      · exact (((HB.out.setCell (p := ⟨w.heap.size, 0, none⟩) (Nat.le_refl _) _).setCell (p := ⟨w.heap.size, 1, none⟩) (Nat.le_refl _) _).setCell (p := ⟨w.heap.size, 2, none⟩) (Nat.le_refl _) _).setCell (p := ⟨w.heap.size, 3, none⟩) (Nat.le_refl _) _
end Go.Proofs.Ytkfnnmdghibjbaa

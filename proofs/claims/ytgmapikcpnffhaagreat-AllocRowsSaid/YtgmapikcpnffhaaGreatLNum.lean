/-
 Types and widths of operators and accesses, as the program and the document tell them.
 Conditions: none.
-/
import Derived.Test.YtgmapikcpnffhaaGreatLGen
import Derived.Test.YtgmapikcpnffhaaGreatProg
namespace Go.Bk.Num
open Go
/-- the groups of operators: the first one, how many, the kind, the type -/
def grps : List (Int × Int × Int × Int) := [(69, 1, 0, 127), (70, 10, 1, 127), (80, 1, 0, 126), (81, 10, 1, 126), (103, 3, 2, 127), (106, 15, 3, 127), (121, 3, 2, 126), (124, 15, 3, 126), (167, 1, 4, 126), (172, 2, 5, 127), (192, 2, 6, 127), (194, 3, 6, 126)]
/-- is an operator in a group? -/
def inG (op : Int) (g : Int × Int × Int × Int) : Bool := decide (g.1 ≤ op) && decide (op - g.1 < g.2.1)
def grpOf (op : Int) : Option (Int × Int × Int × Int) := grps.find? (inG op)
def gV (g : Int × Int × Int × Int) : Value := .agg #[.int .i64 g.1, .int .i64 g.2.1, .int .i64 g.2.2.1, .int .i64 g.2.2.2]
def grpCells : Array Value := (grps.flatMap fun g => [Value.int .i64 g.1, .int .i64 g.2.1, .int .i64 g.2.2.1, .int .i64 g.2.2.2]).toArray
theorem grp_at : ∀ i, i < 12 → ∃ a b c d, grps[i]? = some (a, b, c, d) ∧ grpCells[i * 4]? = some (.int .i64 a) ∧ grpCells[i * 4 + 1]? = some (.int .i64 b) ∧ grpCells[i * 4 + 2]? = some (.int .i64 c) ∧ grpCells[i * 4 + 3]? = some (.int .i64 d) ∧ 69 ≤ a ∧ a ≤ 194 ∧ 1 ≤ b ∧ b ≤ 15 := by
 intro i hi
 have h : i = 0 ∨ i = 1 ∨ i = 2 ∨ i = 3 ∨ i = 4 ∨ i = 5 ∨ i = 6 ∨ i = 7 ∨ i = 8 ∨ i = 9 ∨ i = 10 ∨ i = 11 := by omega
 rcases h with rfl | rfl | rfl | rfl | rfl | rfl | rfl | rfl | rfl | rfl | rfl | rfl <;> exact ⟨_, _, _, _, rfl, rfl, rfl, rfl, rfl, by decide, by decide, by decide, by decide⟩
end Go.Bk.Num
namespace Go.Proofs.YtgmapikcpnffhaaGreat
open Go.RowKit Go.Bk Go.Bk.Num

theorem grpOf_some {op : Int} {k : Nat} {g : Int × Int × Int × Int} (hN : ∀ j, j < k → ∀ g, grps[j]? = some g → inG op g = false) (hg : grps[k]? = some g) (h : inG op g = true) : grpOf op = some g := by
 rw [grpOf, List.find?_eq_some_iff_getElem]
 obtain ⟨hl, e⟩ := List.getElem?_eq_some_iff.1 hg
 exact ⟨h, k, hl, e, fun j hj => by simp [hN j hj _ (List.getElem?_eq_getElem (by omega))]⟩
theorem grpOf_none {op : Int} (hN : ∀ j, j < 12 → ∀ g, grps[j]? = some g → inG op g = false) : grpOf op = none := by
 rw [grpOf, List.find?_eq_none]
 intro g hg
 obtain ⟨j, hj, e⟩ := List.mem_iff_getElem.1 hg
 simp [hN j (by simpa [grps] using hj) g (by rw [← e]; exact List.getElem?_eq_getElem hj)]

set_option maxHeartbeats 1000000 in
theorem groups_any (w : World) : Calls Tryz.prog 157 #[] w fun e w' => e = .returned (.slice (some ⟨w.heap.size, 0, none⟩) 12 12) ∧ w.alloc (.cells grpCells 186) = w' := by
 go_enter Tryz.func157, Tryz.ntmps157
 go_wp2
 go_ret
 exact ⟨rfl, rfl⟩

/-- the groups ahead of i hold no such operator -/
def FiRel (w0 : World) (G : Nat) (op : Int) (rc : Nat) (i : Value) (wr : World) : Prop :=
 ∃ k : Nat, k ≤ 12 ∧ i = .int .i64 k ∧ Hid (∀ j, j < k → ∀ g, grps[j]? = some g → inG op g = false) ∧ Hid (Blk wr G 186 grpCells) ∧ Hid (Blk wr rc 186 #[.int .i64 0, .int .i64 0, .int .i64 0, .int .i64 0]) ∧ Hid (Below w0.heap.size w0 wr)

theorem fi_next {w wr : World} {G rc k : Nat} {op : Int} {g : Int × Int × Int × Int} {o : Obj} (HN : Hid (∀ j, j < k → ∀ g, grps[j]? = some g → inG op g = false)) (HG : Hid (Blk wr G 186 grpCells)) (HR : Hid (Blk wr rc 186 #[.int .i64 0, .int .i64 0, .int .i64 0, .int .i64 0])) (HB : Hid (Below w.heap.size w wr))
  (hg : grps[k]? = some g) (hn : inG op g = false) (hk : k < 12) : FiRel w G op rc (.int .i64 ((k : Int) + 1)) (wr.alloc o) ∧ 13 - (intOf (.int .i64 ((k : Int) + 1))).toNat < 13 - (intOf (.int .i64 (k : Int))).toNat := by
 refine ⟨⟨k + 1, by omega, by simp, Lib.hid (fun j hj x hx => ?_), Lib.hid (HG.out.below ((Below.refl wr.heap.size _).alloc (Nat.le_refl _) _) HG.out.lt), Lib.hid (HR.out.below ((Below.refl wr.heap.size _).alloc (Nat.le_refl _) _) HR.out.lt), Lib.hid (HB.out.alloc HB.out.size _)⟩, by simp [intOf]; omega⟩
 by_cases e : j = k
 ·subst e
  rw [hg] at hx
  injection hx with hx
  rw [← hx]
  exact hn
 ·exact HN.out j (by omega) x hx

def findT (op : Int) : Value := match grpOf op with
 | none => .tuple #[.agg #[.int .i64 0, .int .i64 0, .int .i64 0, .int .i64 0], .int .i64 0, .bool false]
 | some g => .tuple #[gV g, .int .i64 (op - g.1), .bool true]

set_option maxRecDepth 100000 in
set_option maxHeartbeats 4000000 in
theorem find_any (op : Int) (w : World) (h1 : -9223372036854775808 ≤ op) (h2 : op ≤ 9223372036854775807) : Calls Tryz.prog 133 #[.int .i64 op] w fun e w' => e = .returned (findT op) ∧ Below w.heap.size w w' := by
 go_enter Tryz.func133, Tryz.ntmps133
 go_wp2_with fail
 refine (groups_any _).mono ?_
 rintro e w1 ⟨rfl, rfl⟩
 go_wp2_with fail
 have HB0 := Lib.hid (show Below w.heap.size w ((w.alloc (.cells #[.int .i64 0, .int .i64 0, .int .i64 0, .int .i64 0] 186)).alloc (.cells grpCells 186)) from ((Below.refl _ _).alloc (Nat.le_refl _) _).alloc (by simp) _)
 have HR0 := Lib.hid (show Blk ((w.alloc (.cells #[.int .i64 0, .int .i64 0, .int .i64 0, .int .i64 0] 186)).alloc (.cells grpCells 186)) w.heap.size 186 #[.int .i64 0, .int .i64 0, .int .i64 0, .int .i64 0] from
  (Blk.new w 186 _).below ((Below.refl (w.heap.size + 1) _).alloc (by simp) _) (by omega))
 have HG0 := Lib.hid (show Blk ((w.alloc (.cells #[.int .i64 0, .int .i64 0, .int .i64 0, .int .i64 0] 186)).alloc (.cells grpCells 186)) (w.heap.size + 1) 186 grpCells from by
  have := Blk.new (w.alloc (.cells #[.int .i64 0, .int .i64 0, .int .i64 0, .int .i64 0] 186)) 186 grpCells
  simpa using this)
 go_loopw [9] (fun i wr => FiRel w (w.heap.size + 1) op w.heap.size i wr) (fun i _ => 13 - (intOf i).toNat)
 case atStart => exact ⟨0, by omega, rfl, Lib.hid (fun j hj => by omega), HG0, HR0, HB0⟩
 case round =>
  clear HB0 HR0 HG0
  obtain ⟨k, hk, rfl, HN, HG, HR, HB⟩ := hrel
  by_cases hlt : k < 12
  ·have hlt' : decide ((k : Int) < 12) = true := by simp; omega
   obtain ⟨a, b, c, d, hg, e0, e1, e2, e3, ha1, ha2, hb1, hb2⟩ := grp_at k hlt
   have c0 := (HG.out.cell (k * 4)).trans e0
   have c1 := (HG.out.cell (k * 4 + 1)).trans e1
   have c2 := (HG.out.cell (k * 4 + 2)).trans e2
   have c3 := (HG.out.cell (k * 4 + 3)).trans e3
   have HGI := Lib.hid hg
   have hs1 : w.heap.size + 1 < wr.heap.size := HG.out.lt
   have hs0 : w.heap.size < wr.heap.size := by omega
   have r0 := HR.out.cell 0
   have r1 := HR.out.cell 1
   have r2 := HR.out.cell 2
   have r3 := HR.out.cell 3
   simp at r0 r1 r2 r3
   have z0 := frozen_of_row wr w.heap.size 0 _ _ HR.out
   have z1 := frozen_of_row wr w.heap.size 1 _ _ HR.out
   have z2 := frozen_of_row wr w.heap.size 2 _ _ HR.out
   have z3 := frozen_of_row wr w.heap.size 3 _ _ HR.out
   clear e0 e1 e2 e3 hg
   by_cases q1 : a ≤ op
   ·have q1' : decide (a ≤ op) = true := by simpa using q1
    by_cases q2 : op - a < b
    ·have q2' : decide (op - a < b) = true := by simpa using q2
     go_wp2_with fail
     go_region
     go_wp2
     refine bodyPost_ret (v := .tuple #[.agg #[.int .i64 a, .int .i64 b, .int .i64 c, .int .i64 d], .int .i64 (op - a), .bool true]) (by simp [results, Tryz.results133, go_sem, hs0, r0, r1, r2, r3]) rfl ⟨?_, ?_⟩
     ·rw [findT, grpOf_some HN.out HGI.out (by simp [inG, q1, q2])]
      rfl
     ·exact (((((HB.out.setCell (p := ⟨w.heap.size, 0, none⟩) (Nat.le_refl _) _).setCell (p := ⟨w.heap.size, 1, none⟩) (Nat.le_refl _) _).setCell (p := ⟨w.heap.size, 2, none⟩) (Nat.le_refl _) _).setCell (p := ⟨w.heap.size, 3, none⟩) (Nat.le_refl _) _).alloc (by simp; omega) _).drew
    ·have q2' : decide (op - a < b) = false := by simpa using q2
     go_wp2
     exact fi_next HN HG HR HB HGI.out (by simp [inG, q2]) hlt
   ·have q1' : decide (a ≤ op) = false := by simpa using q1
    go_wp2
    exact fi_next HN HG HR HB HGI.out (by simp [inG, q1]) hlt
  ·obtain rfl : k = 12 := by omega
   have r0 := HR.out.cell 0
   have r1 := HR.out.cell 1
   have r2 := HR.out.cell 2
   have r3 := HR.out.cell 3
   simp at r0 r1 r2 r3
   have z0 := frozen_of_row wr w.heap.size 0 _ _ HR.out
   have z1 := frozen_of_row wr w.heap.size 1 _ _ HR.out
   have z2 := frozen_of_row wr w.heap.size 2 _ _ HR.out
   have z3 := frozen_of_row wr w.heap.size 3 _ _ HR.out
   go_wp2
   refine bodyPost_ret (v := .tuple #[.agg #[.int .i64 0, .int .i64 0, .int .i64 0, .int .i64 0], .int .i64 0, .bool false]) (by simp [results, Tryz.results133, go_sem, r0, r1, r2, r3]) rfl ⟨?_, ?_⟩
   ·rw [findT, grpOf_none HN.out]
   ·exact (((HB.out.setCell (p := ⟨w.heap.size, 0, none⟩) (Nat.le_refl _) _).setCell (p := ⟨w.heap.size, 1, none⟩) (Nat.le_refl _) _).setCell (p := ⟨w.heap.size, 2, none⟩) (Nat.le_refl _) _).setCell (p := ⟨w.heap.size, 3, none⟩) (Nat.le_refl _) _
end Go.Proofs.YtgmapikcpnffhaaGreat
namespace Go.Bk.Num
open Go
def sigL (op : Int) : List Int := match grpOf op with
 | none => []
 | some (_, _, c, d) => if c = 1 ∨ c = 3 then [d, d] else [d]
def sigO (op : Int) : Int := match grpOf op with
 | none => 0
 | some (_, _, c, d) => if c = 0 ∨ c = 1 ∨ c = 4 then 127 else if c = 5 then 126 else d
def intsV (l : List Int) : List Value := l.map (Value.int .i64)
theorem grp_kind {op a b c d : Int} (h : grpOf op = some (a, b, c, d)) : (c = 0 ∨ c = 1 ∨ c = 2 ∨ c = 3 ∨ c = 4 ∨ c = 5 ∨ c = 6) ∧ (d = 126 ∨ d = 127) ∧ 69 ≤ a ∧ a ≤ op ∧ op - a < b ∧ b ≤ 15 ∧ a ≤ 194 := by
 have hm := List.mem_of_find?_eq_some h
 have hp := List.find?_some h
 have hall : ∀ g ∈ grps, (g.2.2.1 = 0 ∨ g.2.2.1 = 1 ∨ g.2.2.1 = 2 ∨ g.2.2.1 = 3 ∨ g.2.2.1 = 4 ∨ g.2.2.1 = 5 ∨ g.2.2.1 = 6) ∧ (g.2.2.2 = 126 ∨ g.2.2.2 = 127) ∧ 69 ≤ g.1 ∧ g.2.1 ≤ 15 ∧ g.1 ≤ 194 := by decide
 obtain ⟨h1, h2, h3, h4, h5⟩ := hall _ hm
 simp [inG] at hp
 exact ⟨h1, h2, h3, hp.1, hp.2, h4, h5⟩
end Go.Bk.Num
namespace Go.Proofs.YtgmapikcpnffhaaGreat
open Go.RowKit Go.Bk Go.Bk.Num

theorem info_int : (Tryz.prog.info? 3).map (fun i => (i.zero, i.size, i.bytes)) = some (some (.int .i64 0), 1, 8) := by kernel_rfl

/-- what Sig leaves -/
def SigPost (op : Int) (w : World) (e : Ending) (w' : World) : Prop :=
 ∃ A c, e = .returned (.tuple #[.slice A (sigL op).length c, .int .i64 (sigO op), .bool (grpOf op).isSome]) ∧ w'.ownsRow w.heap.size 3 1 (.slice A (sigL op).length c) (sigL op).length (intsV (sigL op)) ∧ Below w.heap.size w w'

set_option maxRecDepth 100000 in
set_option maxHeartbeats 4000000 in
theorem Sig_any (op : Int) (w : World) (h1 : -9223372036854775808 ≤ op) (h2 : op ≤ 9223372036854775807) : Calls Tryz.prog 121 #[.int .i64 op] w (SigPost op w) := by
 cases hg : grpOf op with
 | none =>
  have HT := Lib.hid (show findT op = .tuple #[.agg #[.int .i64 0, .int .i64 0, .int .i64 0, .int .i64 0], .int .i64 0, .bool false] by simp [findT, hg])
  have HL := Lib.hid (show sigL op = [] by simp [sigL, hg])
  have HO := Lib.hid (show sigO op = 0 by simp [sigO, hg])
  have HI := Lib.hid (show (grpOf op).isSome = false by simp [hg])
  clear hg
  go_enter Tryz.func121, Tryz.ntmps121
  go_wp2_with fail
  refine (find_any op _ h1 h2).mono ?_
  rintro e w1 ⟨rfl, hb1⟩
  rw [HT.out]
  have HB := Lib.hid hb1
  clear hb1
  go_wp2
  go_ret3
  unfold SigPost
  rw [HL.out, HO.out, HI.out]
  exact ⟨none, 0, rfl, World.ownsRow_nil _ _ _ _, HB.out.alloc HB.out.size _⟩
 | some g =>
  obtain ⟨a, b, c, d⟩ := g
  have HT := Lib.hid (show findT op = .tuple #[.agg #[.int .i64 a, .int .i64 b, .int .i64 c, .int .i64 d], .int .i64 (op - a), .bool true] by simp [findT, hg, gV])
  have HL := Lib.hid (show sigL op = if c = 1 ∨ c = 3 then [d, d] else [d] by simp [sigL, hg])
  have HO := Lib.hid (show sigO op = if c = 0 ∨ c = 1 ∨ c = 4 then 127 else if c = 5 then 126 else d by simp [sigO, hg])
  have HI := Lib.hid (show (grpOf op).isSome = true by simp [hg])
  obtain ⟨hc, _, _, _, _, _, _⟩ := grp_kind hg
  clear hg
  have hc' : (c = 1 ∨ c = 3) ∨ (c = 0 ∨ c = 2 ∨ c = 4 ∨ c = 5 ∨ c = 6) := by omega
  clear hc
  rcases hc' with hc | hc
  ·rcases hc with rfl | rfl
   all_goals
    go_enter Tryz.func121, Tryz.ntmps121
    go_wp2_with fail
    refine (find_any op _ h1 h2).mono ?_
    rintro e w1 ⟨rfl, hb1⟩
    rw [HT.out]
    have HB := Lib.hid hb1
    clear hb1
    go_wp2_with fail
    go_region
    go_wp2_with (at_builtin; refine append_own _ rfl (.tmp 28) (.tmp 31) 23 rfl (w1.heap.size + 1) 3 (.int .i64 0) 8 Tryz.underlying23 info_int rfl (.slice (some ⟨w1.heap.size + 1, 0, none⟩) 1 1) 1 [.int .i64 d] rfl ?_ (some ⟨w1.heap.size + 1 + 1, 0, none⟩) 1 1 [.int .i64 d] rfl ?_ (one_int _ _) (by unfold maxLen; omega) (by omega) ?_ ?_)
    ·exact Blk.own (n := 1) (cs := #[.int .i64 d]) (((Blk.newAt _ _ _ (by simp)).alloc _).drew) (Nat.le_refl _) rfl (by unfold maxLen; omega)
    ·exact Blk.srcAll (cs := #[.int .i64 d]) (Blk.newAt _ _ _ (by simp)).drew rfl
    ·simp
    rintro v w2 ho2 hb2
    have hx2 := hb2.cell (p := ⟨w1.heap.size, 2, none⟩) (by simp)
    simp at hx2
    have HO2 := Lib.hid (own_mono ho2 (by have := HB.out.size; omega : w.heap.size ≤ w1.heap.size + 1))
    have HB2 := Lib.hid (show Below w.heap.size w w2 from ((((HB.out.alloc HB.out.size _).alloc (by have := HB.out.size; simp; omega) _).alloc (by have := HB.out.size; simp; omega) _).drew).trans (hb2.mono (by have := HB.out.size; omega)))
    obtain ⟨A2, c2, rfl, _⟩ := own_shape ho2
    clear ho2 hb2
    go_wp2
    go_ret3
    unfold SigPost
    rw [HL.out, HO.out, HI.out]
    exact ⟨_, _, rfl, HO2.out, HB2.out⟩
  ·rcases hc with rfl | rfl | rfl | rfl | rfl
   all_goals
    go_enter Tryz.func121, Tryz.ntmps121
    go_wp2_with fail
    refine (find_any op _ h1 h2).mono ?_
    rintro e w1 ⟨rfl, hb1⟩
    rw [HT.out]
    have HB := Lib.hid hb1
    clear hb1
    go_wp2_with fail
    go_region
    go_wp2
    go_ret3
    unfold SigPost
    rw [HL.out, HO.out, HI.out]
    exact ⟨_, _, rfl, Blk.own (n := 1) (cs := #[.int .i64 d]) (Blk.newAt _ _ _ (by simp)).drew (by have := HB.out.size; omega) rfl (by unfold maxLen; omega), ((HB.out.alloc HB.out.size _).alloc (by have := HB.out.size; simp; omega) _).drew⟩
end Go.Proofs.YtgmapikcpnffhaaGreat
namespace Go.Proofs.YtgmapikcpnffhaaGreat
open Go.RowKit Go.Bk Go.Bk.Num
set_option linter.unusedVariables false
set_option linter.unusedSimpArgs false

/-- the first of two numbers of a row of one's own -/
theorem own_head {w : World} (d : Int) : (w.alloc (.cells #[.int .i64 d, .int .i64 d] 3)).ownsRow w.heap.size 3 1 (.slice (some ⟨w.heap.size, 0, none⟩) 1 2) 1 (intsV [d]) :=
 ⟨by simp [intsV], .inr ⟨w.heap.size, 2, #[.int .i64 d, .int .i64 d], rfl, Nat.le_refl _, Blk.new w 3 _, by omega, by unfold maxLen; omega, by simp, by simp [intsV]⟩⟩
def inB (op a b : Int) : Bool := decide (a ≤ op ∧ op ≤ b)
theorem inT {op a b : Int} (h1 : a ≤ op) (h2 : op ≤ b) : inB op a b = true := by simp [inB, h1, h2]
theorem inF {op a b : Int} (h : op < a ∨ b < op) : inB op a b = false := by simp [inB]; omega
theorem eqF {op a : Int} (h : op < a ∨ a < op) : (op == a) = false := by simp; omega
theorem eqT {op a : Int} (h1 : a ≤ op) (h2 : op ≤ a) : (op == a) = true := by simp; omega
theorem in_any (op a b : Int) (w : World) : Calls Tryz.prog 148 #[.int .i64 op, .int .i64 a, .int .i64 b] w fun e w' => e = .returned (.bool (inB op a b)) ∧ w = w' := by
 by_cases h1 : a ≤ op
 ·have g1 : decide (a ≤ op) = true := by simpa using h1
  have HE := Lib.hid (show inB op a b = decide (op ≤ b) by simp [inB, h1])
  clear h1
  go_enter Tryz.func148, Tryz.ntmps148
  go_wp2
  go_ret
  rw [HE.out]
  exact ⟨rfl, rfl⟩
 ·have g1 : decide (a ≤ op) = false := by simpa using h1
  have HE := Lib.hid (show inB op a b = false by simp [inB, h1])
  clear h1
  go_enter Tryz.func148, Tryz.ntmps148
  go_wp2
  go_ret
  rw [HE.out]
  exact ⟨rfl, rfl⟩

theorem grp_cases (op : Int) : (grpOf op = none ∧ (op < 69 ∨ 90 < op) ∧ (op < 103 ∨ 138 < op) ∧ (op < 167 ∨ 167 < op) ∧ (op < 172 ∨ 173 < op) ∧ (op < 192 ∨ 196 < op)) ∨ (grpOf op = some (69, 1, 0, 127) ∧ 69 ≤ op ∧ op ≤ 69) ∨ (grpOf op = some (70, 10, 1, 127) ∧ 70 ≤ op ∧ op ≤ 79) ∨ (grpOf op = some (80, 1, 0, 126) ∧ 80 ≤ op ∧ op ≤ 80) ∨ (grpOf op = some (81, 10, 1, 126) ∧ 81 ≤ op ∧ op ≤ 90) ∨ (grpOf op = some (103, 3, 2, 127) ∧ 103 ≤ op ∧ op ≤ 105) ∨ (grpOf op = some (106, 15, 3, 127) ∧ 106 ≤ op ∧ op ≤ 120) ∨ (grpOf op = some (121, 3, 2, 126) ∧ 121 ≤ op ∧ op ≤ 123) ∨ (grpOf op = some (124, 15, 3, 126) ∧ 124 ≤ op ∧ op ≤ 138) ∨ (grpOf op = some (167, 1, 4, 126) ∧ 167 ≤ op ∧ op ≤ 167) ∨ (grpOf op = some (172, 2, 5, 127) ∧ 172 ≤ op ∧ op ≤ 173) ∨ (grpOf op = some (192, 2, 6, 127) ∧ 192 ≤ op ∧ op ≤ 193) ∨ (grpOf op = some (194, 3, 6, 126) ∧ 194 ≤ op ∧ op ≤ 196) := by
 have key : ∀ g : Int × Int × Int × Int, inG op g = decide (g.1 ≤ op ∧ op - g.1 < g.2.1) := fun g => by simp [inG]
 by_cases h0 : 69 ≤ op ∧ op ≤ 69
 ·refine .inr (.inl ⟨grpOf_some (k := 0) (fun j hj x hx => ?_) (show grps[0]? = some (69, 1, 0, 127) from rfl) (by rw [key]; simp; omega), h0.1, h0.2⟩)
  omega
 by_cases h1 : 70 ≤ op ∧ op ≤ 79
 ·refine .inr (.inr (.inl ⟨grpOf_some (k := 1) (fun j hj x hx => ?_) (show grps[1]? = some (70, 10, 1, 127) from rfl) (by rw [key]; simp; omega), h1.1, h1.2⟩))
  have hj' : j = 0 := by omega
  rcases hj' with rfl <;> (injection hx with hx; subst hx; rw [key]; simp; omega)
 by_cases h2 : 80 ≤ op ∧ op ≤ 80
 ·refine .inr (.inr (.inr (.inl ⟨grpOf_some (k := 2) (fun j hj x hx => ?_) (show grps[2]? = some (80, 1, 0, 126) from rfl) (by rw [key]; simp; omega), h2.1, h2.2⟩)))
  have hj' : j = 0 ∨ j = 1 := by omega
  rcases hj' with rfl | rfl <;> (injection hx with hx; subst hx; rw [key]; simp; omega)
 by_cases h3 : 81 ≤ op ∧ op ≤ 90
 ·refine .inr (.inr (.inr (.inr (.inl ⟨grpOf_some (k := 3) (fun j hj x hx => ?_) (show grps[3]? = some (81, 10, 1, 126) from rfl) (by rw [key]; simp; omega), h3.1, h3.2⟩))))
  have hj' : j = 0 ∨ j = 1 ∨ j = 2 := by omega
  rcases hj' with rfl | rfl | rfl <;> (injection hx with hx; subst hx; rw [key]; simp; omega)
 by_cases h4 : 103 ≤ op ∧ op ≤ 105
 ·refine .inr (.inr (.inr (.inr (.inr (.inl ⟨grpOf_some (k := 4) (fun j hj x hx => ?_) (show grps[4]? = some (103, 3, 2, 127) from rfl) (by rw [key]; simp; omega), h4.1, h4.2⟩)))))
  have hj' : j = 0 ∨ j = 1 ∨ j = 2 ∨ j = 3 := by omega
  rcases hj' with rfl | rfl | rfl | rfl <;> (injection hx with hx; subst hx; rw [key]; simp; omega)
 by_cases h5 : 106 ≤ op ∧ op ≤ 120
 ·refine .inr (.inr (.inr (.inr (.inr (.inr (.inl ⟨grpOf_some (k := 5) (fun j hj x hx => ?_) (show grps[5]? = some (106, 15, 3, 127) from rfl) (by rw [key]; simp; omega), h5.1, h5.2⟩))))))
  have hj' : j = 0 ∨ j = 1 ∨ j = 2 ∨ j = 3 ∨ j = 4 := by omega
  rcases hj' with rfl | rfl | rfl | rfl | rfl <;> (injection hx with hx; subst hx; rw [key]; simp; omega)
 by_cases h6 : 121 ≤ op ∧ op ≤ 123
 ·refine .inr (.inr (.inr (.inr (.inr (.inr (.inr (.inl ⟨grpOf_some (k := 6) (fun j hj x hx => ?_) (show grps[6]? = some (121, 3, 2, 126) from rfl) (by rw [key]; simp; omega), h6.1, h6.2⟩)))))))
  have hj' : j = 0 ∨ j = 1 ∨ j = 2 ∨ j = 3 ∨ j = 4 ∨ j = 5 := by omega
  rcases hj' with rfl | rfl | rfl | rfl | rfl | rfl <;> (injection hx with hx; subst hx; rw [key]; simp; omega)
 by_cases h7 : 124 ≤ op ∧ op ≤ 138
 ·refine .inr (.inr (.inr (.inr (.inr (.inr (.inr (.inr (.inl ⟨grpOf_some (k := 7) (fun j hj x hx => ?_) (show grps[7]? = some (124, 15, 3, 126) from rfl) (by rw [key]; simp; omega), h7.1, h7.2⟩))))))))
  have hj' : j = 0 ∨ j = 1 ∨ j = 2 ∨ j = 3 ∨ j = 4 ∨ j = 5 ∨ j = 6 := by omega
  rcases hj' with rfl | rfl | rfl | rfl | rfl | rfl | rfl <;> (injection hx with hx; subst hx; rw [key]; simp; omega)
 by_cases h8 : 167 ≤ op ∧ op ≤ 167
 ·refine .inr (.inr (.inr (.inr (.inr (.inr (.inr (.inr (.inr (.inl ⟨grpOf_some (k := 8) (fun j hj x hx => ?_) (show grps[8]? = some (167, 1, 4, 126) from rfl) (by rw [key]; simp; omega), h8.1, h8.2⟩)))))))))
  have hj' : j = 0 ∨ j = 1 ∨ j = 2 ∨ j = 3 ∨ j = 4 ∨ j = 5 ∨ j = 6 ∨ j = 7 := by omega
  rcases hj' with rfl | rfl | rfl | rfl | rfl | rfl | rfl | rfl <;> (injection hx with hx; subst hx; rw [key]; simp; omega)
 by_cases h9 : 172 ≤ op ∧ op ≤ 173
 ·refine .inr (.inr (.inr (.inr (.inr (.inr (.inr (.inr (.inr (.inr (.inl ⟨grpOf_some (k := 9) (fun j hj x hx => ?_) (show grps[9]? = some (172, 2, 5, 127) from rfl) (by rw [key]; simp; omega), h9.1, h9.2⟩))))))))))
  have hj' : j = 0 ∨ j = 1 ∨ j = 2 ∨ j = 3 ∨ j = 4 ∨ j = 5 ∨ j = 6 ∨ j = 7 ∨ j = 8 := by omega
  rcases hj' with rfl | rfl | rfl | rfl | rfl | rfl | rfl | rfl | rfl <;> (injection hx with hx; subst hx; rw [key]; simp; omega)
 by_cases h10 : 192 ≤ op ∧ op ≤ 193
 ·refine .inr (.inr (.inr (.inr (.inr (.inr (.inr (.inr (.inr (.inr (.inr (.inl ⟨grpOf_some (k := 10) (fun j hj x hx => ?_) (show grps[10]? = some (192, 2, 6, 127) from rfl) (by rw [key]; simp; omega), h10.1, h10.2⟩)))))))))))
  have hj' : j = 0 ∨ j = 1 ∨ j = 2 ∨ j = 3 ∨ j = 4 ∨ j = 5 ∨ j = 6 ∨ j = 7 ∨ j = 8 ∨ j = 9 := by omega
  rcases hj' with rfl | rfl | rfl | rfl | rfl | rfl | rfl | rfl | rfl | rfl <;> (injection hx with hx; subst hx; rw [key]; simp; omega)
 by_cases h11 : 194 ≤ op ∧ op ≤ 196
 ·refine .inr (.inr (.inr (.inr (.inr (.inr (.inr (.inr (.inr (.inr (.inr (.inr (⟨grpOf_some (k := 11) (fun j hj x hx => ?_) (show grps[11]? = some (194, 3, 6, 126) from rfl) (by rw [key]; simp; omega), h11.1, h11.2⟩))))))))))))
  have hj' : j = 0 ∨ j = 1 ∨ j = 2 ∨ j = 3 ∨ j = 4 ∨ j = 5 ∨ j = 6 ∨ j = 7 ∨ j = 8 ∨ j = 9 ∨ j = 10 := by omega
  rcases hj' with rfl | rfl | rfl | rfl | rfl | rfl | rfl | rfl | rfl | rfl | rfl <;> (injection hx with hx; subst hx; rw [key]; simp; omega)
 refine .inl ⟨grpOf_none (fun j hj x hx => ?_), by omega, by omega, by omega, by omega, by omega⟩
 have hj' : j = 0 ∨ j = 1 ∨ j = 2 ∨ j = 3 ∨ j = 4 ∨ j = 5 ∨ j = 6 ∨ j = 7 ∨ j = 8 ∨ j = 9 ∨ j = 10 ∨ j = 11 := by omega
 rcases hj' with rfl | rfl | rfl | rfl | rfl | rfl | rfl | rfl | rfl | rfl | rfl | rfl <;> (injection hx with hx; subst hx; rw [key]; simp; omega)

def ofV (op : Int) : Int := match grpOf op with
 | none => 0
 | some g => g.2.2.2


set_option maxRecDepth 100000 in
set_option maxHeartbeats 4000000 in
theorem Of_any (op : Int) (w : World) : Calls Tryz.prog 146 #[.int .i64 op] w fun e w' => e = .returned (.int .i64 (ofV op)) ∧ w = w' := by
 rcases grp_cases op with ⟨hg, z1, z2, z3, z4, z5⟩ | ⟨hg, z1, z2⟩ | ⟨hg, z1, z2⟩ | ⟨hg, z1, z2⟩ | ⟨hg, z1, z2⟩ | ⟨hg, z1, z2⟩ | ⟨hg, z1, z2⟩ | ⟨hg, z1, z2⟩ | ⟨hg, z1, z2⟩ | ⟨hg, z1, z2⟩ | ⟨hg, z1, z2⟩ | ⟨hg, z1, z2⟩ | ⟨hg, z1, z2⟩
 ·have HV := Lib.hid (show ofV op = 0 by simp [ofV, hg])
  have t0 : inB op 69 79 = false := inF (by omega)
  have t1 : inB op 103 120 = false := inF (by omega)
  have t2 : (op == 172) = false := eqF (by omega)
  have t3 : (op == 173) = false := eqF (by omega)
  have t4 : (op == 192) = false := eqF (by omega)
  have t5 : (op == 193) = false := eqF (by omega)
  have t6 : inB op 80 90 = false := inF (by omega)
  have t7 : inB op 121 138 = false := inF (by omega)
  have t8 : (op == 167) = false := eqF (by omega)
  have t9 : inB op 194 196 = false := inF (by omega)
  clear hg z1 z2 z3 z4 z5
  go_enter Tryz.func146, Tryz.ntmps146
  go_wp2_with (go_at_call 148; refine (in_any _ _ _ _).mono ?_; rintro e w1 ⟨rfl, rfl⟩)
  go_ret
  rw [HV.out]
  exact ⟨rfl, rfl⟩
 ·have HV := Lib.hid (show ofV op = 127 by simp [ofV, hg])
  have t0 : inB op 69 79 = true := inT (by omega) (by omega)
  have t1 : inB op 103 120 = false := inF (by omega)
  have t2 : (op == 172) = false := eqF (by omega)
  have t3 : (op == 173) = false := eqF (by omega)
  have t4 : (op == 192) = false := eqF (by omega)
  have t5 : (op == 193) = false := eqF (by omega)
  have t6 : inB op 80 90 = false := inF (by omega)
  have t7 : inB op 121 138 = false := inF (by omega)
  have t8 : (op == 167) = false := eqF (by omega)
  have t9 : inB op 194 196 = false := inF (by omega)
  clear hg z1 z2
  go_enter Tryz.func146, Tryz.ntmps146
  go_wp2_with (go_at_call 148; refine (in_any _ _ _ _).mono ?_; rintro e w1 ⟨rfl, rfl⟩)
  go_ret
  rw [HV.out]
  exact ⟨rfl, rfl⟩
 ·have HV := Lib.hid (show ofV op = 127 by simp [ofV, hg])
  have t0 : inB op 69 79 = true := inT (by omega) (by omega)
  have t1 : inB op 103 120 = false := inF (by omega)
  have t2 : (op == 172) = false := eqF (by omega)
  have t3 : (op == 173) = false := eqF (by omega)
  have t4 : (op == 192) = false := eqF (by omega)
  have t5 : (op == 193) = false := eqF (by omega)
  have t6 : inB op 80 90 = false := inF (by omega)
  have t7 : inB op 121 138 = false := inF (by omega)
  have t8 : (op == 167) = false := eqF (by omega)
  have t9 : inB op 194 196 = false := inF (by omega)
  clear hg z1 z2
  go_enter Tryz.func146, Tryz.ntmps146
  go_wp2_with (go_at_call 148; refine (in_any _ _ _ _).mono ?_; rintro e w1 ⟨rfl, rfl⟩)
  go_ret
  rw [HV.out]
  exact ⟨rfl, rfl⟩
 ·have HV := Lib.hid (show ofV op = 126 by simp [ofV, hg])
  have t0 : inB op 69 79 = false := inF (by omega)
  have t1 : inB op 103 120 = false := inF (by omega)
  have t2 : (op == 172) = false := eqF (by omega)
  have t3 : (op == 173) = false := eqF (by omega)
  have t4 : (op == 192) = false := eqF (by omega)
  have t5 : (op == 193) = false := eqF (by omega)
  have t6 : inB op 80 90 = true := inT (by omega) (by omega)
  have t7 : inB op 121 138 = false := inF (by omega)
  have t8 : (op == 167) = false := eqF (by omega)
  have t9 : inB op 194 196 = false := inF (by omega)
  clear hg z1 z2
  go_enter Tryz.func146, Tryz.ntmps146
  go_wp2_with (go_at_call 148; refine (in_any _ _ _ _).mono ?_; rintro e w1 ⟨rfl, rfl⟩)
  go_ret
  rw [HV.out]
  exact ⟨rfl, rfl⟩
 ·have HV := Lib.hid (show ofV op = 126 by simp [ofV, hg])
  have t0 : inB op 69 79 = false := inF (by omega)
  have t1 : inB op 103 120 = false := inF (by omega)
  have t2 : (op == 172) = false := eqF (by omega)
  have t3 : (op == 173) = false := eqF (by omega)
  have t4 : (op == 192) = false := eqF (by omega)
  have t5 : (op == 193) = false := eqF (by omega)
  have t6 : inB op 80 90 = true := inT (by omega) (by omega)
  have t7 : inB op 121 138 = false := inF (by omega)
  have t8 : (op == 167) = false := eqF (by omega)
  have t9 : inB op 194 196 = false := inF (by omega)
  clear hg z1 z2
  go_enter Tryz.func146, Tryz.ntmps146
  go_wp2_with (go_at_call 148; refine (in_any _ _ _ _).mono ?_; rintro e w1 ⟨rfl, rfl⟩)
  go_ret
  rw [HV.out]
  exact ⟨rfl, rfl⟩
 ·have HV := Lib.hid (show ofV op = 127 by simp [ofV, hg])
  have t0 : inB op 69 79 = false := inF (by omega)
  have t1 : inB op 103 120 = true := inT (by omega) (by omega)
  have t2 : (op == 172) = false := eqF (by omega)
  have t3 : (op == 173) = false := eqF (by omega)
  have t4 : (op == 192) = false := eqF (by omega)
  have t5 : (op == 193) = false := eqF (by omega)
  have t6 : inB op 80 90 = false := inF (by omega)
  have t7 : inB op 121 138 = false := inF (by omega)
  have t8 : (op == 167) = false := eqF (by omega)
  have t9 : inB op 194 196 = false := inF (by omega)
  clear hg z1 z2
  go_enter Tryz.func146, Tryz.ntmps146
  go_wp2_with (go_at_call 148; refine (in_any _ _ _ _).mono ?_; rintro e w1 ⟨rfl, rfl⟩)
  go_ret
  rw [HV.out]
  exact ⟨rfl, rfl⟩
 ·have HV := Lib.hid (show ofV op = 127 by simp [ofV, hg])
  have t0 : inB op 69 79 = false := inF (by omega)
  have t1 : inB op 103 120 = true := inT (by omega) (by omega)
  have t2 : (op == 172) = false := eqF (by omega)
  have t3 : (op == 173) = false := eqF (by omega)
  have t4 : (op == 192) = false := eqF (by omega)
  have t5 : (op == 193) = false := eqF (by omega)
  have t6 : inB op 80 90 = false := inF (by omega)
  have t7 : inB op 121 138 = false := inF (by omega)
  have t8 : (op == 167) = false := eqF (by omega)
  have t9 : inB op 194 196 = false := inF (by omega)
  clear hg z1 z2
  go_enter Tryz.func146, Tryz.ntmps146
  go_wp2_with (go_at_call 148; refine (in_any _ _ _ _).mono ?_; rintro e w1 ⟨rfl, rfl⟩)
  go_ret
  rw [HV.out]
  exact ⟨rfl, rfl⟩
 ·have HV := Lib.hid (show ofV op = 126 by simp [ofV, hg])
  have t0 : inB op 69 79 = false := inF (by omega)
  have t1 : inB op 103 120 = false := inF (by omega)
  have t2 : (op == 172) = false := eqF (by omega)
  have t3 : (op == 173) = false := eqF (by omega)
  have t4 : (op == 192) = false := eqF (by omega)
  have t5 : (op == 193) = false := eqF (by omega)
  have t6 : inB op 80 90 = false := inF (by omega)
  have t7 : inB op 121 138 = true := inT (by omega) (by omega)
  have t8 : (op == 167) = false := eqF (by omega)
  have t9 : inB op 194 196 = false := inF (by omega)
  clear hg z1 z2
  go_enter Tryz.func146, Tryz.ntmps146
  go_wp2_with (go_at_call 148; refine (in_any _ _ _ _).mono ?_; rintro e w1 ⟨rfl, rfl⟩)
  go_ret
  rw [HV.out]
  exact ⟨rfl, rfl⟩
 ·have HV := Lib.hid (show ofV op = 126 by simp [ofV, hg])
  have t0 : inB op 69 79 = false := inF (by omega)
  have t1 : inB op 103 120 = false := inF (by omega)
  have t2 : (op == 172) = false := eqF (by omega)
  have t3 : (op == 173) = false := eqF (by omega)
  have t4 : (op == 192) = false := eqF (by omega)
  have t5 : (op == 193) = false := eqF (by omega)
  have t6 : inB op 80 90 = false := inF (by omega)
  have t7 : inB op 121 138 = true := inT (by omega) (by omega)
  have t8 : (op == 167) = false := eqF (by omega)
  have t9 : inB op 194 196 = false := inF (by omega)
  clear hg z1 z2
  go_enter Tryz.func146, Tryz.ntmps146
  go_wp2_with (go_at_call 148; refine (in_any _ _ _ _).mono ?_; rintro e w1 ⟨rfl, rfl⟩)
  go_ret
  rw [HV.out]
  exact ⟨rfl, rfl⟩
 ·have HV := Lib.hid (show ofV op = 126 by simp [ofV, hg])
  have t0 : inB op 69 79 = false := inF (by omega)
  have t1 : inB op 103 120 = false := inF (by omega)
  have t2 : (op == 172) = false := eqF (by omega)
  have t3 : (op == 173) = false := eqF (by omega)
  have t4 : (op == 192) = false := eqF (by omega)
  have t5 : (op == 193) = false := eqF (by omega)
  have t6 : inB op 80 90 = false := inF (by omega)
  have t7 : inB op 121 138 = false := inF (by omega)
  have t8 : (op == 167) = true := eqT (by omega) (by omega)
  have t9 : inB op 194 196 = false := inF (by omega)
  clear hg z1 z2
  go_enter Tryz.func146, Tryz.ntmps146
  go_wp2_with (go_at_call 148; refine (in_any _ _ _ _).mono ?_; rintro e w1 ⟨rfl, rfl⟩)
  go_ret
  rw [HV.out]
  exact ⟨rfl, rfl⟩
 ·rcases (show op = 172 ∨ op = 173 by omega) with rfl | rfl
  ·have HV := Lib.hid (show ofV 172 = 127 by simp [ofV, hg])
   clear hg z1 z2
   have t0 : inB 172 69 79 = false := by decide
   have t1 : inB 172 103 120 = false := by decide
   have t6 : inB 172 80 90 = false := by decide
   have t7 : inB 172 121 138 = false := by decide
   have t9 : inB 172 194 196 = false := by decide
   go_enter Tryz.func146, Tryz.ntmps146
   go_wp2_with (go_at_call 148; refine (in_any _ _ _ _).mono ?_; rintro e w1 ⟨rfl, rfl⟩)
   go_ret
   rw [HV.out]
   exact ⟨rfl, rfl⟩
  ·have HV := Lib.hid (show ofV 173 = 127 by simp [ofV, hg])
   clear hg z1 z2
   have t0 : inB 173 69 79 = false := by decide
   have t1 : inB 173 103 120 = false := by decide
   have t6 : inB 173 80 90 = false := by decide
   have t7 : inB 173 121 138 = false := by decide
   have t9 : inB 173 194 196 = false := by decide
   go_enter Tryz.func146, Tryz.ntmps146
   go_wp2_with (go_at_call 148; refine (in_any _ _ _ _).mono ?_; rintro e w1 ⟨rfl, rfl⟩)
   go_ret
   rw [HV.out]
   exact ⟨rfl, rfl⟩
 ·rcases (show op = 192 ∨ op = 193 by omega) with rfl | rfl
  ·have HV := Lib.hid (show ofV 192 = 127 by simp [ofV, hg])
   clear hg z1 z2
   have t0 : inB 192 69 79 = false := by decide
   have t1 : inB 192 103 120 = false := by decide
   have t6 : inB 192 80 90 = false := by decide
   have t7 : inB 192 121 138 = false := by decide
   have t9 : inB 192 194 196 = false := by decide
   go_enter Tryz.func146, Tryz.ntmps146
   go_wp2_with (go_at_call 148; refine (in_any _ _ _ _).mono ?_; rintro e w1 ⟨rfl, rfl⟩)
   go_ret
   rw [HV.out]
   exact ⟨rfl, rfl⟩
  ·have HV := Lib.hid (show ofV 193 = 127 by simp [ofV, hg])
   clear hg z1 z2
   have t0 : inB 193 69 79 = false := by decide
   have t1 : inB 193 103 120 = false := by decide
   have t6 : inB 193 80 90 = false := by decide
   have t7 : inB 193 121 138 = false := by decide
   have t9 : inB 193 194 196 = false := by decide
   go_enter Tryz.func146, Tryz.ntmps146
   go_wp2_with (go_at_call 148; refine (in_any _ _ _ _).mono ?_; rintro e w1 ⟨rfl, rfl⟩)
   go_ret
   rw [HV.out]
   exact ⟨rfl, rfl⟩
 ·have HV := Lib.hid (show ofV op = 126 by simp [ofV, hg])
  have t0 : inB op 69 79 = false := inF (by omega)
  have t1 : inB op 103 120 = false := inF (by omega)
  have t2 : (op == 172) = false := eqF (by omega)
  have t3 : (op == 173) = false := eqF (by omega)
  have t4 : (op == 192) = false := eqF (by omega)
  have t5 : (op == 193) = false := eqF (by omega)
  have t6 : inB op 80 90 = false := inF (by omega)
  have t7 : inB op 121 138 = false := inF (by omega)
  have t8 : (op == 167) = false := eqF (by omega)
  have t9 : inB op 194 196 = true := inT (by omega) (by omega)
  clear hg z1 z2
  go_enter Tryz.func146, Tryz.ntmps146
  go_wp2_with (go_at_call 148; refine (in_any _ _ _ _).mono ?_; rintro e w1 ⟨rfl, rfl⟩)
  go_ret
  rw [HV.out]
  exact ⟨rfl, rfl⟩

def unB (op : Int) : Bool := match grpOf op with
 | none => false
 | some g => decide (g.2.2.1 ≠ 1 ∧ g.2.2.1 ≠ 3)
set_option maxRecDepth 100000 in
set_option maxHeartbeats 4000000 in
theorem Unary_any (op : Int) (w : World) (hs : grpOf op ≠ none) : Calls Tryz.prog 147 #[.int .i64 op] w fun e w' => e = .returned (.bool (unB op)) ∧ w = w' := by
 rcases grp_cases op with ⟨hg, z1, z2, z3, z4, z5⟩ | ⟨hg, z1, z2⟩ | ⟨hg, z1, z2⟩ | ⟨hg, z1, z2⟩ | ⟨hg, z1, z2⟩ | ⟨hg, z1, z2⟩ | ⟨hg, z1, z2⟩ | ⟨hg, z1, z2⟩ | ⟨hg, z1, z2⟩ | ⟨hg, z1, z2⟩ | ⟨hg, z1, z2⟩ | ⟨hg, z1, z2⟩ | ⟨hg, z1, z2⟩
 ·exact absurd hg hs
 ·have HV := Lib.hid (show unB op = true by simp [unB, hg])
  have t0 : (op == 69) = true := eqT (by omega) (by omega)
  have t1 : (op == 80) = false := eqF (by omega)
  have t2 : inB op 103 105 = false := inF (by omega)
  have t3 : inB op 121 123 = false := inF (by omega)
  have t4 : decide (167 ≤ op) = false := by simp; omega
  clear hs hg z1 z2
  go_enter Tryz.func147, Tryz.ntmps147
  go_wp2_with (go_at_call 148; refine (in_any _ _ _ _).mono ?_; rintro e w1 ⟨rfl, rfl⟩)
  go_ret
  rw [HV.out]
  exact ⟨rfl, rfl⟩
 ·have HV := Lib.hid (show unB op = false by simp [unB, hg])
  have t0 : (op == 69) = false := eqF (by omega)
  have t1 : (op == 80) = false := eqF (by omega)
  have t2 : inB op 103 105 = false := inF (by omega)
  have t3 : inB op 121 123 = false := inF (by omega)
  have t4 : decide (167 ≤ op) = false := by simp; omega
  clear hs hg z1 z2
  go_enter Tryz.func147, Tryz.ntmps147
  go_wp2_with (go_at_call 148; refine (in_any _ _ _ _).mono ?_; rintro e w1 ⟨rfl, rfl⟩)
  go_ret
  rw [HV.out]
  exact ⟨rfl, rfl⟩
 ·have HV := Lib.hid (show unB op = true by simp [unB, hg])
  have t0 : (op == 69) = false := eqF (by omega)
  have t1 : (op == 80) = true := eqT (by omega) (by omega)
  have t2 : inB op 103 105 = false := inF (by omega)
  have t3 : inB op 121 123 = false := inF (by omega)
  have t4 : decide (167 ≤ op) = false := by simp; omega
  clear hs hg z1 z2
  go_enter Tryz.func147, Tryz.ntmps147
  go_wp2_with (go_at_call 148; refine (in_any _ _ _ _).mono ?_; rintro e w1 ⟨rfl, rfl⟩)
  go_ret
  rw [HV.out]
  exact ⟨rfl, rfl⟩
 ·have HV := Lib.hid (show unB op = false by simp [unB, hg])
  have t0 : (op == 69) = false := eqF (by omega)
  have t1 : (op == 80) = false := eqF (by omega)
  have t2 : inB op 103 105 = false := inF (by omega)
  have t3 : inB op 121 123 = false := inF (by omega)
  have t4 : decide (167 ≤ op) = false := by simp; omega
  clear hs hg z1 z2
  go_enter Tryz.func147, Tryz.ntmps147
  go_wp2_with (go_at_call 148; refine (in_any _ _ _ _).mono ?_; rintro e w1 ⟨rfl, rfl⟩)
  go_ret
  rw [HV.out]
  exact ⟨rfl, rfl⟩
 ·have HV := Lib.hid (show unB op = true by simp [unB, hg])
  have t0 : (op == 69) = false := eqF (by omega)
  have t1 : (op == 80) = false := eqF (by omega)
  have t2 : inB op 103 105 = true := inT (by omega) (by omega)
  have t3 : inB op 121 123 = false := inF (by omega)
  have t4 : decide (167 ≤ op) = false := by simp; omega
  clear hs hg z1 z2
  go_enter Tryz.func147, Tryz.ntmps147
  go_wp2_with (go_at_call 148; refine (in_any _ _ _ _).mono ?_; rintro e w1 ⟨rfl, rfl⟩)
  go_ret
  rw [HV.out]
  exact ⟨rfl, rfl⟩
 ·have HV := Lib.hid (show unB op = false by simp [unB, hg])
  have t0 : (op == 69) = false := eqF (by omega)
  have t1 : (op == 80) = false := eqF (by omega)
  have t2 : inB op 103 105 = false := inF (by omega)
  have t3 : inB op 121 123 = false := inF (by omega)
  have t4 : decide (167 ≤ op) = false := by simp; omega
  clear hs hg z1 z2
  go_enter Tryz.func147, Tryz.ntmps147
  go_wp2_with (go_at_call 148; refine (in_any _ _ _ _).mono ?_; rintro e w1 ⟨rfl, rfl⟩)
  go_ret
  rw [HV.out]
  exact ⟨rfl, rfl⟩
 ·have HV := Lib.hid (show unB op = true by simp [unB, hg])
  have t0 : (op == 69) = false := eqF (by omega)
  have t1 : (op == 80) = false := eqF (by omega)
  have t2 : inB op 103 105 = false := inF (by omega)
  have t3 : inB op 121 123 = true := inT (by omega) (by omega)
  have t4 : decide (167 ≤ op) = false := by simp; omega
  clear hs hg z1 z2
  go_enter Tryz.func147, Tryz.ntmps147
  go_wp2_with (go_at_call 148; refine (in_any _ _ _ _).mono ?_; rintro e w1 ⟨rfl, rfl⟩)
  go_ret
  rw [HV.out]
  exact ⟨rfl, rfl⟩
 ·have HV := Lib.hid (show unB op = false by simp [unB, hg])
  have t0 : (op == 69) = false := eqF (by omega)
  have t1 : (op == 80) = false := eqF (by omega)
  have t2 : inB op 103 105 = false := inF (by omega)
  have t3 : inB op 121 123 = false := inF (by omega)
  have t4 : decide (167 ≤ op) = false := by simp; omega
  clear hs hg z1 z2
  go_enter Tryz.func147, Tryz.ntmps147
  go_wp2_with (go_at_call 148; refine (in_any _ _ _ _).mono ?_; rintro e w1 ⟨rfl, rfl⟩)
  go_ret
  rw [HV.out]
  exact ⟨rfl, rfl⟩
 ·have HV := Lib.hid (show unB op = true by simp [unB, hg])
  have t0 : (op == 69) = false := eqF (by omega)
  have t1 : (op == 80) = false := eqF (by omega)
  have t2 : inB op 103 105 = false := inF (by omega)
  have t3 : inB op 121 123 = false := inF (by omega)
  have t4 : decide (167 ≤ op) = true := by simp; omega
  clear hs hg z1 z2
  go_enter Tryz.func147, Tryz.ntmps147
  go_wp2_with (go_at_call 148; refine (in_any _ _ _ _).mono ?_; rintro e w1 ⟨rfl, rfl⟩)
  go_ret
  rw [HV.out]
  exact ⟨rfl, rfl⟩
 ·have HV := Lib.hid (show unB op = true by simp [unB, hg])
  have t0 : (op == 69) = false := eqF (by omega)
  have t1 : (op == 80) = false := eqF (by omega)
  have t2 : inB op 103 105 = false := inF (by omega)
  have t3 : inB op 121 123 = false := inF (by omega)
  have t4 : decide (167 ≤ op) = true := by simp; omega
  clear hs hg z1 z2
  go_enter Tryz.func147, Tryz.ntmps147
  go_wp2_with (go_at_call 148; refine (in_any _ _ _ _).mono ?_; rintro e w1 ⟨rfl, rfl⟩)
  go_ret
  rw [HV.out]
  exact ⟨rfl, rfl⟩
 ·have HV := Lib.hid (show unB op = true by simp [unB, hg])
  have t0 : (op == 69) = false := eqF (by omega)
  have t1 : (op == 80) = false := eqF (by omega)
  have t2 : inB op 103 105 = false := inF (by omega)
  have t3 : inB op 121 123 = false := inF (by omega)
  have t4 : decide (167 ≤ op) = true := by simp; omega
  clear hs hg z1 z2
  go_enter Tryz.func147, Tryz.ntmps147
  go_wp2_with (go_at_call 148; refine (in_any _ _ _ _).mono ?_; rintro e w1 ⟨rfl, rfl⟩)
  go_ret
  rw [HV.out]
  exact ⟨rfl, rfl⟩
 ·have HV := Lib.hid (show unB op = true by simp [unB, hg])
  have t0 : (op == 69) = false := eqF (by omega)
  have t1 : (op == 80) = false := eqF (by omega)
  have t2 : inB op 103 105 = false := inF (by omega)
  have t3 : inB op 121 123 = false := inF (by omega)
  have t4 : decide (167 ≤ op) = true := by simp; omega
  clear hs hg z1 z2
  go_enter Tryz.func147, Tryz.ntmps147
  go_wp2_with (go_at_call 148; refine (in_any _ _ _ _).mono ?_; rintro e w1 ⟨rfl, rfl⟩)
  go_ret
  rw [HV.out]
  exact ⟨rfl, rfl⟩

set_option maxRecDepth 100000 in
set_option maxHeartbeats 4000000 in
theorem RSig_any (op : Int) (w : World) : Calls Tryz.prog 126 #[.int .i64 op] w (SigPost op w) := by
 rcases grp_cases op with ⟨hg, z1, z2, z3, z4, z5⟩ | ⟨hg, z1, z2⟩ | ⟨hg, z1, z2⟩ | ⟨hg, z1, z2⟩ | ⟨hg, z1, z2⟩ | ⟨hg, z1, z2⟩ | ⟨hg, z1, z2⟩ | ⟨hg, z1, z2⟩ | ⟨hg, z1, z2⟩ | ⟨hg, z1, z2⟩ | ⟨hg, z1, z2⟩ | ⟨hg, z1, z2⟩ | ⟨hg, z1, z2⟩
 ·have HV := Lib.hid (show ofV op = 0 by simp [ofV, hg])
  have HL := Lib.hid (show sigL op = [] by simp [sigL, hg])
  have HO := Lib.hid (show sigO op = 0 by simp [sigO, hg])
  have HI := Lib.hid (show (grpOf op).isSome = false by simp [hg])
  clear hg z1 z2 z3 z4 z5
  go_enter Tryz.func126, Tryz.ntmps126
  go_wp2_with fail
  refine (Of_any op _).mono ?_
  rintro e w1 ⟨rfl, rfl⟩
  rw [HV.out]
  go_wp2
  go_ret3
  unfold SigPost
  rw [HL.out, HO.out, HI.out]
  exact ⟨none, 0, rfl, World.ownsRow_nil _ _ _ _, Below.refl _ _⟩
 ·have HV := Lib.hid (show ofV op = 127 by simp [ofV, hg])
  have HU := Lib.hid (show unB op = true by simp [unB, hg])
  have HL := Lib.hid (show sigL op = [127] by simp [sigL, hg])
  have HO := Lib.hid (show sigO op = 127 by simp [sigO, hg])
  have HI := Lib.hid (show (grpOf op).isSome = true by simp [hg])
  have HN := Lib.hid (show grpOf op ≠ none by simp [hg])
  have t0 : inB op 69 90 = true := inT (by omega) (by omega)
  have t1 : (op == 167) = false := eqF (by omega)
  have t2 : (op == 172) = false := eqF (by omega)
  have t3 : (op == 173) = false := eqF (by omega)
  clear hg z1 z2
  go_enter Tryz.func126, Tryz.ntmps126
  go_wp2_with fail
  refine (Of_any op _).mono ?_
  rintro e w1 ⟨rfl, rfl⟩
  rw [HV.out]
  go_wp2_with fail
  refine (Unary_any op _ HN.out).mono ?_
  rintro e w1 ⟨rfl, rfl⟩
  rw [HU.out]
  go_wp2_with (go_at_call 148; refine (in_any _ _ _ _).mono ?_; rintro e w1 ⟨rfl, rfl⟩)
  go_ret3
  unfold SigPost
  rw [HL.out, HO.out, HI.out]
  exact ⟨_, _, rfl, own_head 127, (Below.refl _ _).alloc (Nat.le_refl _) _⟩
 ·have HV := Lib.hid (show ofV op = 127 by simp [ofV, hg])
  have HU := Lib.hid (show unB op = false by simp [unB, hg])
  have HL := Lib.hid (show sigL op = [127, 127] by simp [sigL, hg])
  have HO := Lib.hid (show sigO op = 127 by simp [sigO, hg])
  have HI := Lib.hid (show (grpOf op).isSome = true by simp [hg])
  have HN := Lib.hid (show grpOf op ≠ none by simp [hg])
  have t0 : inB op 69 90 = true := inT (by omega) (by omega)
  have t1 : (op == 167) = false := eqF (by omega)
  have t2 : (op == 172) = false := eqF (by omega)
  have t3 : (op == 173) = false := eqF (by omega)
  clear hg z1 z2
  go_enter Tryz.func126, Tryz.ntmps126
  go_wp2_with fail
  refine (Of_any op _).mono ?_
  rintro e w1 ⟨rfl, rfl⟩
  rw [HV.out]
  go_wp2_with fail
  refine (Unary_any op _ HN.out).mono ?_
  rintro e w1 ⟨rfl, rfl⟩
  rw [HU.out]
  go_wp2_with (go_at_call 148; refine (in_any _ _ _ _).mono ?_; rintro e w1 ⟨rfl, rfl⟩)
  go_ret3
  unfold SigPost
  rw [HL.out, HO.out, HI.out]
  exact ⟨_, _, rfl, Blk.own (n := 2) (cs := #[.int .i64 127, .int .i64 127]) (Blk.newAt _ _ _ rfl) (Nat.le_refl _) rfl (by unfold maxLen; omega), (Below.refl _ _).alloc (Nat.le_refl _) _⟩
 ·have HV := Lib.hid (show ofV op = 126 by simp [ofV, hg])
  have HU := Lib.hid (show unB op = true by simp [unB, hg])
  have HL := Lib.hid (show sigL op = [126] by simp [sigL, hg])
  have HO := Lib.hid (show sigO op = 127 by simp [sigO, hg])
  have HI := Lib.hid (show (grpOf op).isSome = true by simp [hg])
  have HN := Lib.hid (show grpOf op ≠ none by simp [hg])
  have t0 : inB op 69 90 = true := inT (by omega) (by omega)
  have t1 : (op == 167) = false := eqF (by omega)
  have t2 : (op == 172) = false := eqF (by omega)
  have t3 : (op == 173) = false := eqF (by omega)
  clear hg z1 z2
  go_enter Tryz.func126, Tryz.ntmps126
  go_wp2_with fail
  refine (Of_any op _).mono ?_
  rintro e w1 ⟨rfl, rfl⟩
  rw [HV.out]
  go_wp2_with fail
  refine (Unary_any op _ HN.out).mono ?_
  rintro e w1 ⟨rfl, rfl⟩
  rw [HU.out]
  go_wp2_with (go_at_call 148; refine (in_any _ _ _ _).mono ?_; rintro e w1 ⟨rfl, rfl⟩)
  go_ret3
  unfold SigPost
  rw [HL.out, HO.out, HI.out]
  exact ⟨_, _, rfl, own_head 126, (Below.refl _ _).alloc (Nat.le_refl _) _⟩
 ·have HV := Lib.hid (show ofV op = 126 by simp [ofV, hg])
  have HU := Lib.hid (show unB op = false by simp [unB, hg])
  have HL := Lib.hid (show sigL op = [126, 126] by simp [sigL, hg])
  have HO := Lib.hid (show sigO op = 127 by simp [sigO, hg])
  have HI := Lib.hid (show (grpOf op).isSome = true by simp [hg])
  have HN := Lib.hid (show grpOf op ≠ none by simp [hg])
  have t0 : inB op 69 90 = true := inT (by omega) (by omega)
  have t1 : (op == 167) = false := eqF (by omega)
  have t2 : (op == 172) = false := eqF (by omega)
  have t3 : (op == 173) = false := eqF (by omega)
  clear hg z1 z2
  go_enter Tryz.func126, Tryz.ntmps126
  go_wp2_with fail
  refine (Of_any op _).mono ?_
  rintro e w1 ⟨rfl, rfl⟩
  rw [HV.out]
  go_wp2_with fail
  refine (Unary_any op _ HN.out).mono ?_
  rintro e w1 ⟨rfl, rfl⟩
  rw [HU.out]
  go_wp2_with (go_at_call 148; refine (in_any _ _ _ _).mono ?_; rintro e w1 ⟨rfl, rfl⟩)
  go_ret3
  unfold SigPost
  rw [HL.out, HO.out, HI.out]
  exact ⟨_, _, rfl, Blk.own (n := 2) (cs := #[.int .i64 126, .int .i64 126]) (Blk.newAt _ _ _ rfl) (Nat.le_refl _) rfl (by unfold maxLen; omega), (Below.refl _ _).alloc (Nat.le_refl _) _⟩
 ·have HV := Lib.hid (show ofV op = 127 by simp [ofV, hg])
  have HU := Lib.hid (show unB op = true by simp [unB, hg])
  have HL := Lib.hid (show sigL op = [127] by simp [sigL, hg])
  have HO := Lib.hid (show sigO op = 127 by simp [sigO, hg])
  have HI := Lib.hid (show (grpOf op).isSome = true by simp [hg])
  have HN := Lib.hid (show grpOf op ≠ none by simp [hg])
  have t0 : inB op 69 90 = false := inF (by omega)
  have t1 : (op == 167) = false := eqF (by omega)
  have t2 : (op == 172) = false := eqF (by omega)
  have t3 : (op == 173) = false := eqF (by omega)
  clear hg z1 z2
  go_enter Tryz.func126, Tryz.ntmps126
  go_wp2_with fail
  refine (Of_any op _).mono ?_
  rintro e w1 ⟨rfl, rfl⟩
  rw [HV.out]
  go_wp2_with fail
  refine (Unary_any op _ HN.out).mono ?_
  rintro e w1 ⟨rfl, rfl⟩
  rw [HU.out]
  go_wp2_with (go_at_call 148; refine (in_any _ _ _ _).mono ?_; rintro e w1 ⟨rfl, rfl⟩)
  go_ret3
  unfold SigPost
  rw [HL.out, HO.out, HI.out]
  exact ⟨_, _, rfl, own_head 127, (Below.refl _ _).alloc (Nat.le_refl _) _⟩
 ·have HV := Lib.hid (show ofV op = 127 by simp [ofV, hg])
  have HU := Lib.hid (show unB op = false by simp [unB, hg])
  have HL := Lib.hid (show sigL op = [127, 127] by simp [sigL, hg])
  have HO := Lib.hid (show sigO op = 127 by simp [sigO, hg])
  have HI := Lib.hid (show (grpOf op).isSome = true by simp [hg])
  have HN := Lib.hid (show grpOf op ≠ none by simp [hg])
  have t0 : inB op 69 90 = false := inF (by omega)
  have t1 : (op == 167) = false := eqF (by omega)
  have t2 : (op == 172) = false := eqF (by omega)
  have t3 : (op == 173) = false := eqF (by omega)
  clear hg z1 z2
  go_enter Tryz.func126, Tryz.ntmps126
  go_wp2_with fail
  refine (Of_any op _).mono ?_
  rintro e w1 ⟨rfl, rfl⟩
  rw [HV.out]
  go_wp2_with fail
  refine (Unary_any op _ HN.out).mono ?_
  rintro e w1 ⟨rfl, rfl⟩
  rw [HU.out]
  go_wp2_with (go_at_call 148; refine (in_any _ _ _ _).mono ?_; rintro e w1 ⟨rfl, rfl⟩)
  go_ret3
  unfold SigPost
  rw [HL.out, HO.out, HI.out]
  exact ⟨_, _, rfl, Blk.own (n := 2) (cs := #[.int .i64 127, .int .i64 127]) (Blk.newAt _ _ _ rfl) (Nat.le_refl _) rfl (by unfold maxLen; omega), (Below.refl _ _).alloc (Nat.le_refl _) _⟩
 ·have HV := Lib.hid (show ofV op = 126 by simp [ofV, hg])
  have HU := Lib.hid (show unB op = true by simp [unB, hg])
  have HL := Lib.hid (show sigL op = [126] by simp [sigL, hg])
  have HO := Lib.hid (show sigO op = 126 by simp [sigO, hg])
  have HI := Lib.hid (show (grpOf op).isSome = true by simp [hg])
  have HN := Lib.hid (show grpOf op ≠ none by simp [hg])
  have t0 : inB op 69 90 = false := inF (by omega)
  have t1 : (op == 167) = false := eqF (by omega)
  have t2 : (op == 172) = false := eqF (by omega)
  have t3 : (op == 173) = false := eqF (by omega)
  clear hg z1 z2
  go_enter Tryz.func126, Tryz.ntmps126
  go_wp2_with fail
  refine (Of_any op _).mono ?_
  rintro e w1 ⟨rfl, rfl⟩
  rw [HV.out]
  go_wp2_with fail
  refine (Unary_any op _ HN.out).mono ?_
  rintro e w1 ⟨rfl, rfl⟩
  rw [HU.out]
  go_wp2_with (go_at_call 148; refine (in_any _ _ _ _).mono ?_; rintro e w1 ⟨rfl, rfl⟩)
  go_ret3
  unfold SigPost
  rw [HL.out, HO.out, HI.out]
  exact ⟨_, _, rfl, own_head 126, (Below.refl _ _).alloc (Nat.le_refl _) _⟩
 ·have HV := Lib.hid (show ofV op = 126 by simp [ofV, hg])
  have HU := Lib.hid (show unB op = false by simp [unB, hg])
  have HL := Lib.hid (show sigL op = [126, 126] by simp [sigL, hg])
  have HO := Lib.hid (show sigO op = 126 by simp [sigO, hg])
  have HI := Lib.hid (show (grpOf op).isSome = true by simp [hg])
  have HN := Lib.hid (show grpOf op ≠ none by simp [hg])
  have t0 : inB op 69 90 = false := inF (by omega)
  have t1 : (op == 167) = false := eqF (by omega)
  have t2 : (op == 172) = false := eqF (by omega)
  have t3 : (op == 173) = false := eqF (by omega)
  clear hg z1 z2
  go_enter Tryz.func126, Tryz.ntmps126
  go_wp2_with fail
  refine (Of_any op _).mono ?_
  rintro e w1 ⟨rfl, rfl⟩
  rw [HV.out]
  go_wp2_with fail
  refine (Unary_any op _ HN.out).mono ?_
  rintro e w1 ⟨rfl, rfl⟩
  rw [HU.out]
  go_wp2_with (go_at_call 148; refine (in_any _ _ _ _).mono ?_; rintro e w1 ⟨rfl, rfl⟩)
  go_ret3
  unfold SigPost
  rw [HL.out, HO.out, HI.out]
  exact ⟨_, _, rfl, Blk.own (n := 2) (cs := #[.int .i64 126, .int .i64 126]) (Blk.newAt _ _ _ rfl) (Nat.le_refl _) rfl (by unfold maxLen; omega), (Below.refl _ _).alloc (Nat.le_refl _) _⟩
 ·have HV := Lib.hid (show ofV op = 126 by simp [ofV, hg])
  have HU := Lib.hid (show unB op = true by simp [unB, hg])
  have HL := Lib.hid (show sigL op = [126] by simp [sigL, hg])
  have HO := Lib.hid (show sigO op = 127 by simp [sigO, hg])
  have HI := Lib.hid (show (grpOf op).isSome = true by simp [hg])
  have HN := Lib.hid (show grpOf op ≠ none by simp [hg])
  have t0 : inB op 69 90 = false := inF (by omega)
  have t1 : (op == 167) = true := eqT (by omega) (by omega)
  have t2 : (op == 172) = false := eqF (by omega)
  have t3 : (op == 173) = false := eqF (by omega)
  clear hg z1 z2
  go_enter Tryz.func126, Tryz.ntmps126
  go_wp2_with fail
  refine (Of_any op _).mono ?_
  rintro e w1 ⟨rfl, rfl⟩
  rw [HV.out]
  go_wp2_with fail
  refine (Unary_any op _ HN.out).mono ?_
  rintro e w1 ⟨rfl, rfl⟩
  rw [HU.out]
  go_wp2_with (go_at_call 148; refine (in_any _ _ _ _).mono ?_; rintro e w1 ⟨rfl, rfl⟩)
  go_ret3
  unfold SigPost
  rw [HL.out, HO.out, HI.out]
  exact ⟨_, _, rfl, own_head 126, (Below.refl _ _).alloc (Nat.le_refl _) _⟩
 ·rcases (show op = 172 ∨ op = 173 by omega) with rfl | rfl
  ·have HV := Lib.hid (show ofV 172 = 127 by simp [ofV, hg])
   have HU := Lib.hid (show unB 172 = true by simp [unB, hg])
   have HL := Lib.hid (show sigL 172 = [127] by simp [sigL, hg])
   have HO := Lib.hid (show sigO 172 = 126 by simp [sigO, hg])
   have HI := Lib.hid (show (grpOf 172).isSome = true by simp [hg])
   have HN := Lib.hid (show grpOf 172 ≠ none by simp [hg])
   have t0 : inB 172 69 90 = false := by decide
   clear hg z1 z2
   go_enter Tryz.func126, Tryz.ntmps126
   go_wp2_with fail
   refine (Of_any 172 _).mono ?_
   rintro e w1 ⟨rfl, rfl⟩
   rw [HV.out]
   go_wp2_with fail
   refine (Unary_any 172 _ HN.out).mono ?_
   rintro e w1 ⟨rfl, rfl⟩
   rw [HU.out]
   go_wp2_with (go_at_call 148; refine (in_any _ _ _ _).mono ?_; rintro e w1 ⟨rfl, rfl⟩)
   go_ret3
   unfold SigPost
   rw [HL.out, HO.out, HI.out]
   exact ⟨_, _, rfl, own_head 127, (Below.refl _ _).alloc (Nat.le_refl _) _⟩
  ·have HV := Lib.hid (show ofV 173 = 127 by simp [ofV, hg])
   have HU := Lib.hid (show unB 173 = true by simp [unB, hg])
   have HL := Lib.hid (show sigL 173 = [127] by simp [sigL, hg])
   have HO := Lib.hid (show sigO 173 = 126 by simp [sigO, hg])
   have HI := Lib.hid (show (grpOf 173).isSome = true by simp [hg])
   have HN := Lib.hid (show grpOf 173 ≠ none by simp [hg])
   have t0 : inB 173 69 90 = false := by decide
   clear hg z1 z2
   go_enter Tryz.func126, Tryz.ntmps126
   go_wp2_with fail
   refine (Of_any 173 _).mono ?_
   rintro e w1 ⟨rfl, rfl⟩
   rw [HV.out]
   go_wp2_with fail
   refine (Unary_any 173 _ HN.out).mono ?_
   rintro e w1 ⟨rfl, rfl⟩
   rw [HU.out]
   go_wp2_with (go_at_call 148; refine (in_any _ _ _ _).mono ?_; rintro e w1 ⟨rfl, rfl⟩)
   go_ret3
   unfold SigPost
   rw [HL.out, HO.out, HI.out]
   exact ⟨_, _, rfl, own_head 127, (Below.refl _ _).alloc (Nat.le_refl _) _⟩
 ·have HV := Lib.hid (show ofV op = 127 by simp [ofV, hg])
  have HU := Lib.hid (show unB op = true by simp [unB, hg])
  have HL := Lib.hid (show sigL op = [127] by simp [sigL, hg])
  have HO := Lib.hid (show sigO op = 127 by simp [sigO, hg])
  have HI := Lib.hid (show (grpOf op).isSome = true by simp [hg])
  have HN := Lib.hid (show grpOf op ≠ none by simp [hg])
  have t0 : inB op 69 90 = false := inF (by omega)
  have t1 : (op == 167) = false := eqF (by omega)
  have t2 : (op == 172) = false := eqF (by omega)
  have t3 : (op == 173) = false := eqF (by omega)
  clear hg z1 z2
  go_enter Tryz.func126, Tryz.ntmps126
  go_wp2_with fail
  refine (Of_any op _).mono ?_
  rintro e w1 ⟨rfl, rfl⟩
  rw [HV.out]
  go_wp2_with fail
  refine (Unary_any op _ HN.out).mono ?_
  rintro e w1 ⟨rfl, rfl⟩
  rw [HU.out]
  go_wp2_with (go_at_call 148; refine (in_any _ _ _ _).mono ?_; rintro e w1 ⟨rfl, rfl⟩)
  go_ret3
  unfold SigPost
  rw [HL.out, HO.out, HI.out]
  exact ⟨_, _, rfl, own_head 127, (Below.refl _ _).alloc (Nat.le_refl _) _⟩
 ·have HV := Lib.hid (show ofV op = 126 by simp [ofV, hg])
  have HU := Lib.hid (show unB op = true by simp [unB, hg])
  have HL := Lib.hid (show sigL op = [126] by simp [sigL, hg])
  have HO := Lib.hid (show sigO op = 126 by simp [sigO, hg])
  have HI := Lib.hid (show (grpOf op).isSome = true by simp [hg])
  have HN := Lib.hid (show grpOf op ≠ none by simp [hg])
  have t0 : inB op 69 90 = false := inF (by omega)
  have t1 : (op == 167) = false := eqF (by omega)
  have t2 : (op == 172) = false := eqF (by omega)
  have t3 : (op == 173) = false := eqF (by omega)
  clear hg z1 z2
  go_enter Tryz.func126, Tryz.ntmps126
  go_wp2_with fail
  refine (Of_any op _).mono ?_
  rintro e w1 ⟨rfl, rfl⟩
  rw [HV.out]
  go_wp2_with fail
  refine (Unary_any op _ HN.out).mono ?_
  rintro e w1 ⟨rfl, rfl⟩
  rw [HU.out]
  go_wp2_with (go_at_call 148; refine (in_any _ _ _ _).mono ?_; rintro e w1 ⟨rfl, rfl⟩)
  go_ret3
  unfold SigPost
  rw [HL.out, HO.out, HI.out]
  exact ⟨_, _, rfl, own_head 126, (Below.refl _ _).alloc (Nat.le_refl _) _⟩
end Go.Proofs.YtgmapikcpnffhaaGreat
namespace Go.Bk.Mem
open Go Go.Bk
def accV (k w : Int) (st sg : Bool) : Value := .agg #[.int .i64 k, .int .i64 w, .bool st, .bool sg]
/-- all accesses, by their byte -/
def rowsT : List (Int × Int × Int × Bool × Bool) := [
 (40, 127, 4, false, false),
 (41, 126, 8, false, false),
 (44, 127, 1, false, true),
 (45, 127, 1, false, false),
 (46, 127, 2, false, true),
 (47, 127, 2, false, false),
 (48, 126, 1, false, true),
 (49, 126, 1, false, false),
 (50, 126, 2, false, true),
 (51, 126, 2, false, false),
 (52, 126, 4, false, true),
 (53, 126, 4, false, false),
 (54, 127, 4, true, false),
 (55, 126, 8, true, false),
 (58, 127, 1, true, false),
 (59, 127, 2, true, false),
 (60, 126, 1, true, false),
 (61, 126, 2, true, false),
 (62, 126, 4, true, false)]
def table : List (Int × Value) := rowsT.map fun r => (r.1, accV r.2.1 r.2.2.1 r.2.2.2.1 r.2.2.2.2)
/-- what an operator reads or writes: its type, its bytes, whether it writes, whether it is signed -/
def acc (op : Int) : Option (Int × Int × Bool × Bool) := (rowsT.find? fun r => decide (op = r.1)).map (·.2)
theorem find_rows (op : Int) : ∀ (l : List (Int × Int × Int × Bool × Bool)) (j : Nat),
  (findPair op (l.map fun r => (r.1, accV r.2.1 r.2.2.1 r.2.2.2.1 r.2.2.2.2)) j).map (·.2) = (l.find? fun r => decide (op = r.1)).map fun r => accV r.2.1 r.2.2.1 r.2.2.2.1 r.2.2.2.2
 | [], _ => rfl
 | r :: l, j => by
  simp only [List.map_cons, findPair, List.find?_cons]
  by_cases h : op = r.1
  ·simp [h]
  ·simp only [if_neg h, decide_eq_false h]
   exact find_rows op l (j + 1)
theorem find_none {op : Int} (h : acc op = none) : findPair op table 0 = none := by
 have h1 := find_rows op rowsT 0
 unfold acc at h
 rw [Option.map_eq_none_iff] at h
 rw [h, Option.map_none, Option.map_eq_none_iff] at h1
 exact h1
theorem find_some {op k wd : Int} {st sg : Bool} (h : acc op = some (k, wd, st, sg)) : ∃ j, findPair op table 0 = some (j, accV k wd st sg) := by
 have h1 := find_rows op rowsT 0
 unfold acc at h
 rw [Option.map_eq_some_iff] at h
 obtain ⟨r, hr, hv⟩ := h
 rw [hr, Option.map_some, Option.map_eq_some_iff] at h1
 obtain ⟨p, hp, he⟩ := h1
 refine ⟨p.1, ?_⟩
 rw [hv] at he
 show findPair op (rowsT.map _) 0 = _
 rw [hp, ← he]
/-- what may stand in the table -/
theorem acc_bounds {op k wd : Int} {st sg : Bool} (h : acc op = some (k, wd, st, sg)) : (k = 127 ∨ k = 126) ∧ (wd = 1 ∨ wd = 2 ∨ wd = 4 ∨ wd = 8) ∧ 40 ≤ op ∧ op ≤ 62 := by
 unfold acc at h
 rw [Option.map_eq_some_iff] at h
 obtain ⟨r, hr, hv⟩ := h
 have hm := List.mem_of_find?_eq_some hr
 have hp := List.find?_some hr
 have hall : ∀ r ∈ rowsT, (r.2.1 = 127 ∨ r.2.1 = 126) ∧ (r.2.2.1 = 1 ∨ r.2.2.1 = 2 ∨ r.2.2.1 = 4 ∨ r.2.2.1 = 8) ∧ 40 ≤ r.1 ∧ r.1 ≤ 62 := by decide
 have := hall r hm
 rw [hv] at this
 simp at hp
 rw [hp]
 exact this
/-- the map, so many entries laid -/
def accL (i : Nat) : Obj := lit (table.take i)
end Go.Bk.Mem
namespace Go.Proofs.YtgmapikcpnffhaaGreat
open Go.RowKit Go.Bk Go.Bk.Mem

theorem ins0 (W : World) : (Instr.mapUpdate 211 (.map (some W.heap.size)) (.int .i64 40) (.agg #[.int .i64 127, .int .i64 4, .bool false, .bool false])).run Tryz.prog (W.alloc (accL 0)) = .ok () (W.alloc (accL 1)) :=
 run_insert_lit W 211 3 209 (table.take 0) 40 _ Tryz.underlying211 Tryz.underlying3 (by decide +kernel)
theorem ins1 (W : World) : (Instr.mapUpdate 211 (.map (some W.heap.size)) (.int .i64 41) (.agg #[.int .i64 126, .int .i64 8, .bool false, .bool false])).run Tryz.prog (W.alloc (accL 1)) = .ok () (W.alloc (accL 2)) :=
 run_insert_lit W 211 3 209 (table.take 1) 41 _ Tryz.underlying211 Tryz.underlying3 (by decide +kernel)
theorem ins2 (W : World) : (Instr.mapUpdate 211 (.map (some W.heap.size)) (.int .i64 44) (.agg #[.int .i64 127, .int .i64 1, .bool false, .bool true])).run Tryz.prog (W.alloc (accL 2)) = .ok () (W.alloc (accL 3)) :=
 run_insert_lit W 211 3 209 (table.take 2) 44 _ Tryz.underlying211 Tryz.underlying3 (by decide +kernel)
theorem ins3 (W : World) : (Instr.mapUpdate 211 (.map (some W.heap.size)) (.int .i64 45) (.agg #[.int .i64 127, .int .i64 1, .bool false, .bool false])).run Tryz.prog (W.alloc (accL 3)) = .ok () (W.alloc (accL 4)) :=
 run_insert_lit W 211 3 209 (table.take 3) 45 _ Tryz.underlying211 Tryz.underlying3 (by decide +kernel)
theorem ins4 (W : World) : (Instr.mapUpdate 211 (.map (some W.heap.size)) (.int .i64 46) (.agg #[.int .i64 127, .int .i64 2, .bool false, .bool true])).run Tryz.prog (W.alloc (accL 4)) = .ok () (W.alloc (accL 5)) :=
 run_insert_lit W 211 3 209 (table.take 4) 46 _ Tryz.underlying211 Tryz.underlying3 (by decide +kernel)
theorem ins5 (W : World) : (Instr.mapUpdate 211 (.map (some W.heap.size)) (.int .i64 47) (.agg #[.int .i64 127, .int .i64 2, .bool false, .bool false])).run Tryz.prog (W.alloc (accL 5)) = .ok () (W.alloc (accL 6)) :=
 run_insert_lit W 211 3 209 (table.take 5) 47 _ Tryz.underlying211 Tryz.underlying3 (by decide +kernel)
theorem ins6 (W : World) : (Instr.mapUpdate 211 (.map (some W.heap.size)) (.int .i64 48) (.agg #[.int .i64 126, .int .i64 1, .bool false, .bool true])).run Tryz.prog (W.alloc (accL 6)) = .ok () (W.alloc (accL 7)) :=
 run_insert_lit W 211 3 209 (table.take 6) 48 _ Tryz.underlying211 Tryz.underlying3 (by decide +kernel)
theorem ins7 (W : World) : (Instr.mapUpdate 211 (.map (some W.heap.size)) (.int .i64 49) (.agg #[.int .i64 126, .int .i64 1, .bool false, .bool false])).run Tryz.prog (W.alloc (accL 7)) = .ok () (W.alloc (accL 8)) :=
 run_insert_lit W 211 3 209 (table.take 7) 49 _ Tryz.underlying211 Tryz.underlying3 (by decide +kernel)
theorem ins8 (W : World) : (Instr.mapUpdate 211 (.map (some W.heap.size)) (.int .i64 50) (.agg #[.int .i64 126, .int .i64 2, .bool false, .bool true])).run Tryz.prog (W.alloc (accL 8)) = .ok () (W.alloc (accL 9)) :=
 run_insert_lit W 211 3 209 (table.take 8) 50 _ Tryz.underlying211 Tryz.underlying3 (by decide +kernel)
theorem ins9 (W : World) : (Instr.mapUpdate 211 (.map (some W.heap.size)) (.int .i64 51) (.agg #[.int .i64 126, .int .i64 2, .bool false, .bool false])).run Tryz.prog (W.alloc (accL 9)) = .ok () (W.alloc (accL 10)) :=
 run_insert_lit W 211 3 209 (table.take 9) 51 _ Tryz.underlying211 Tryz.underlying3 (by decide +kernel)
theorem ins10 (W : World) : (Instr.mapUpdate 211 (.map (some W.heap.size)) (.int .i64 52) (.agg #[.int .i64 126, .int .i64 4, .bool false, .bool true])).run Tryz.prog (W.alloc (accL 10)) = .ok () (W.alloc (accL 11)) :=
 run_insert_lit W 211 3 209 (table.take 10) 52 _ Tryz.underlying211 Tryz.underlying3 (by decide +kernel)
theorem ins11 (W : World) : (Instr.mapUpdate 211 (.map (some W.heap.size)) (.int .i64 53) (.agg #[.int .i64 126, .int .i64 4, .bool false, .bool false])).run Tryz.prog (W.alloc (accL 11)) = .ok () (W.alloc (accL 12)) :=
 run_insert_lit W 211 3 209 (table.take 11) 53 _ Tryz.underlying211 Tryz.underlying3 (by decide +kernel)
theorem ins12 (W : World) : (Instr.mapUpdate 211 (.map (some W.heap.size)) (.int .i64 54) (.agg #[.int .i64 127, .int .i64 4, .bool true, .bool false])).run Tryz.prog (W.alloc (accL 12)) = .ok () (W.alloc (accL 13)) :=
 run_insert_lit W 211 3 209 (table.take 12) 54 _ Tryz.underlying211 Tryz.underlying3 (by decide +kernel)
theorem ins13 (W : World) : (Instr.mapUpdate 211 (.map (some W.heap.size)) (.int .i64 55) (.agg #[.int .i64 126, .int .i64 8, .bool true, .bool false])).run Tryz.prog (W.alloc (accL 13)) = .ok () (W.alloc (accL 14)) :=
 run_insert_lit W 211 3 209 (table.take 13) 55 _ Tryz.underlying211 Tryz.underlying3 (by decide +kernel)
theorem ins14 (W : World) : (Instr.mapUpdate 211 (.map (some W.heap.size)) (.int .i64 58) (.agg #[.int .i64 127, .int .i64 1, .bool true, .bool false])).run Tryz.prog (W.alloc (accL 14)) = .ok () (W.alloc (accL 15)) :=
 run_insert_lit W 211 3 209 (table.take 14) 58 _ Tryz.underlying211 Tryz.underlying3 (by decide +kernel)
theorem ins15 (W : World) : (Instr.mapUpdate 211 (.map (some W.heap.size)) (.int .i64 59) (.agg #[.int .i64 127, .int .i64 2, .bool true, .bool false])).run Tryz.prog (W.alloc (accL 15)) = .ok () (W.alloc (accL 16)) :=
 run_insert_lit W 211 3 209 (table.take 15) 59 _ Tryz.underlying211 Tryz.underlying3 (by decide +kernel)
theorem ins16 (W : World) : (Instr.mapUpdate 211 (.map (some W.heap.size)) (.int .i64 60) (.agg #[.int .i64 126, .int .i64 1, .bool true, .bool false])).run Tryz.prog (W.alloc (accL 16)) = .ok () (W.alloc (accL 17)) :=
 run_insert_lit W 211 3 209 (table.take 16) 60 _ Tryz.underlying211 Tryz.underlying3 (by decide +kernel)
theorem ins17 (W : World) : (Instr.mapUpdate 211 (.map (some W.heap.size)) (.int .i64 61) (.agg #[.int .i64 126, .int .i64 2, .bool true, .bool false])).run Tryz.prog (W.alloc (accL 17)) = .ok () (W.alloc (accL 18)) :=
 run_insert_lit W 211 3 209 (table.take 17) 61 _ Tryz.underlying211 Tryz.underlying3 (by decide +kernel)
theorem ins18 (W : World) : (Instr.mapUpdate 211 (.map (some W.heap.size)) (.int .i64 62) (.agg #[.int .i64 126, .int .i64 4, .bool true, .bool false])).run Tryz.prog (W.alloc (accL 18)) = .ok () (W.alloc (accL 19)) :=
 run_insert_lit W 211 3 209 (table.take 18) 62 _ Tryz.underlying211 Tryz.underlying3 (by decide +kernel)

set_option maxHeartbeats 1000000 in
theorem accesses_any (w : World) : Calls Tryz.prog 158 #[] w fun e w' => e = .returned (.map (some w.heap.size)) ∧ w.alloc (accL 19) = w' := by
 have hmm : ∀ (t : TypeId) (w : World), (Instr.makeMap t none).run Tryz.prog w = .ok (.map (some w.heap.size)) (w.alloc (accL 0)) := fun _ _ => rfl
 have i0 := ins0
 have i1 := ins1
 have i2 := ins2
 have i3 := ins3
 have i4 := ins4
 have i5 := ins5
 have i6 := ins6
 have i7 := ins7
 have i8 := ins8
 have i9 := ins9
 have i10 := ins10
 have i11 := ins11
 have i12 := ins12
 have i13 := ins13
 have i14 := ins14
 have i15 := ins15
 have i16 := ins16
 have i17 := ins17
 have i18 := ins18
 go_enter Tryz.func158, Tryz.ntmps158
 go_wp2
 go_ret
 exact ⟨rfl, rfl⟩

theorem zeroAcc (w : World) : (zeroValue 209).run Tryz.prog w = .ok (accV 0 0 false false) w := by kernel_rfl

theorem look_none {op : Int} (h : acc op = none) (W : World) : (Instr.lookup 211 (.map (some W.heap.size)) (.int .i64 op) true).run Tryz.prog (W.alloc (accL 19)) = .ok (.tuple #[.agg #[.int .i64 0, .int .i64 0, .bool false, .bool false], .bool false]) (W.alloc (accL 19)) := by
 have := run_lookup_lit (P := Tryz.prog) W 211 3 209 _ (table.take 19) op Tryz.underlying211 Tryz.underlying3 zeroAcc
 rw [show table.take 19 = table from rfl, find_none h] at this
 exact this
theorem look_some {op k wd : Int} {st sg : Bool} (h : acc op = some (k, wd, st, sg)) (W : World) : (Instr.lookup 211 (.map (some W.heap.size)) (.int .i64 op) true).run Tryz.prog (W.alloc (accL 19)) = .ok (.tuple #[.agg #[.int .i64 k, .int .i64 wd, .bool st, .bool sg], .bool true]) (W.alloc (accL 19)) := by
 have := run_lookup_lit (P := Tryz.prog) W 211 3 209 _ (table.take 19) op Tryz.underlying211 Tryz.underlying3 zeroAcc
 obtain ⟨j, hj⟩ := find_some h
 rw [show table.take 19 = table from rfl, hj] at this
 exact this

/-- what mem.Access answers -/
def accTuple (op : Int) : Value := match acc op with
 | some (k, wd, st, _) => .tuple #[.int .i64 k, .int .i64 wd, .bool st, .bool true]
 | none => .tuple #[.int .i64 0, .int .i64 0, .bool false, .bool false]

theorem results_tmp4 {fn : Func} {t u v x : Tmp} (h : fn.results = #[.tmp t, .tmp u, .tmp v, .tmp x]) (tmps : Array Value) (P : Program) (w : World) :
  (results fn tmps).run P w = .ok (.tuple #[tmps.getD t undef, tmps.getD u undef, tmps.getD v undef, tmps.getD x undef]) w := by simp [results, h]

set_option maxHeartbeats 1000000 in
theorem Access_any (op : Int) (w : World) : Calls Tryz.prog 134 #[.int .i64 op] w fun e w' => e = .returned (accTuple op) ∧ Below w.heap.size w w' := by
 have hb : Below w.heap.size w (w.alloc (accL 19)) := (Below.refl _ _).alloc (Nat.le_refl _) _
 cases h : acc op with
 | none =>
  have HT := Lib.hid (show accTuple op = .tuple #[.int .i64 0, .int .i64 0, .bool false, .bool false] by simp [accTuple, h])
  have hl := look_none h
  clear h
  go_enter Tryz.func134, Tryz.ntmps134
  go_wp2_with fail
  refine (accesses_any _).mono ?_
  rintro e w1 ⟨rfl, rfl⟩
  go_wp2_with fail
  go_quiet (fail)
  go_wp2
  refine bodyPost_ret (results_tmp4 rfl _ _ _) rfl ⟨?_, ?_⟩
  ·rw [HT.out]
   rfl
  ·exact below_drewN (hb.alloc (by simp) _) _
 | some r =>
  obtain ⟨k, wd, st, sg⟩ := r
  have HT := Lib.hid (show accTuple op = .tuple #[.int .i64 k, .int .i64 wd, .bool st, .bool true] by simp [accTuple, h])
  have hl := look_some h
  clear h
  go_enter Tryz.func134, Tryz.ntmps134
  go_wp2_with fail
  refine (accesses_any _).mono ?_
  rintro e w1 ⟨rfl, rfl⟩
  go_wp2_with fail
  go_quiet (fail)
  go_wp2
  refine bodyPost_ret (results_tmp4 rfl _ _ _) rfl ⟨?_, ?_⟩
  ·rw [HT.out]
   rfl
  ·exact below_drewN (hb.alloc (by simp) _) _

end Go.Proofs.YtgmapikcpnffhaaGreat
namespace Go.Proofs.YtgmapikcpnffhaaGreat
open Go.RowKit Go.Bk Go.Bk.Mem

theorem acc_40 : acc 40 = some (127, 4, false, false) := by kernel_rfl
theorem acc_41 : acc 41 = some (126, 8, false, false) := by kernel_rfl
theorem acc_44 : acc 44 = some (127, 1, false, true) := by kernel_rfl
theorem acc_45 : acc 45 = some (127, 1, false, false) := by kernel_rfl
theorem acc_46 : acc 46 = some (127, 2, false, true) := by kernel_rfl
theorem acc_47 : acc 47 = some (127, 2, false, false) := by kernel_rfl
theorem acc_48 : acc 48 = some (126, 1, false, true) := by kernel_rfl
theorem acc_49 : acc 49 = some (126, 1, false, false) := by kernel_rfl
theorem acc_50 : acc 50 = some (126, 2, false, true) := by kernel_rfl
theorem acc_51 : acc 51 = some (126, 2, false, false) := by kernel_rfl
theorem acc_52 : acc 52 = some (126, 4, false, true) := by kernel_rfl
theorem acc_53 : acc 53 = some (126, 4, false, false) := by kernel_rfl
theorem acc_54 : acc 54 = some (127, 4, true, false) := by kernel_rfl
theorem acc_55 : acc 55 = some (126, 8, true, false) := by kernel_rfl
theorem acc_58 : acc 58 = some (127, 1, true, false) := by kernel_rfl
theorem acc_59 : acc 59 = some (127, 2, true, false) := by kernel_rfl
theorem acc_60 : acc 60 = some (126, 1, true, false) := by kernel_rfl
theorem acc_61 : acc 61 = some (126, 2, true, false) := by kernel_rfl
theorem acc_62 : acc 62 = some (126, 4, true, false) := by kernel_rfl

/-- an operator is one of the nineteen, or none of them -/
theorem acc_split {Q : Int → Prop} (h40 : Q 40) (h41 : Q 41) (h44 : Q 44) (h45 : Q 45) (h46 : Q 46) (h47 : Q 47) (h48 : Q 48) (h49 : Q 49) (h50 : Q 50) (h51 : Q 51) (h52 : Q 52) (h53 : Q 53) (h54 : Q 54) (h55 : Q 55) (h58 : Q 58) (h59 : Q 59) (h60 : Q 60) (h61 : Q 61) (h62 : Q 62) (hn : ∀ op, (op == 40) = false → (op == 41) = false → (op == 44) = false → (op == 45) = false → (op == 46) = false → (op == 47) = false → (op == 48) = false → (op == 49) = false → (op == 50) = false → (op == 51) = false → (op == 52) = false → (op == 53) = false → (op == 54) = false → (op == 55) = false → (op == 58) = false → (op == 59) = false → (op == 60) = false → (op == 61) = false → (op == 62) = false → Q op) (op : Int) : Q op := by
 by_cases g40 : op = 40
 ·subst g40; exact h40
 by_cases g41 : op = 41
 ·subst g41; exact h41
 by_cases g44 : op = 44
 ·subst g44; exact h44
 by_cases g45 : op = 45
 ·subst g45; exact h45
 by_cases g46 : op = 46
 ·subst g46; exact h46
 by_cases g47 : op = 47
 ·subst g47; exact h47
 by_cases g48 : op = 48
 ·subst g48; exact h48
 by_cases g49 : op = 49
 ·subst g49; exact h49
 by_cases g50 : op = 50
 ·subst g50; exact h50
 by_cases g51 : op = 51
 ·subst g51; exact h51
 by_cases g52 : op = 52
 ·subst g52; exact h52
 by_cases g53 : op = 53
 ·subst g53; exact h53
 by_cases g54 : op = 54
 ·subst g54; exact h54
 by_cases g55 : op = 55
 ·subst g55; exact h55
 by_cases g58 : op = 58
 ·subst g58; exact h58
 by_cases g59 : op = 59
 ·subst g59; exact h59
 by_cases g60 : op = 60
 ·subst g60; exact h60
 by_cases g61 : op = 61
 ·subst g61; exact h61
 by_cases g62 : op = 62
 ·subst g62; exact h62
 exact hn op (beq_false_of_ne g40) (beq_false_of_ne g41) (beq_false_of_ne g44) (beq_false_of_ne g45) (beq_false_of_ne g46) (beq_false_of_ne g47) (beq_false_of_ne g48) (beq_false_of_ne g49) (beq_false_of_ne g50) (beq_false_of_ne g51) (beq_false_of_ne g52) (beq_false_of_ne g53) (beq_false_of_ne g54) (beq_false_of_ne g55) (beq_false_of_ne g58) (beq_false_of_ne g59) (beq_false_of_ne g60) (beq_false_of_ne g61) (beq_false_of_ne g62)

theorem acc_off {op : Int} (h40 : (op == 40) = false) (h41 : (op == 41) = false) (h44 : (op == 44) = false) (h45 : (op == 45) = false) (h46 : (op == 46) = false) (h47 : (op == 47) = false) (h48 : (op == 48) = false) (h49 : (op == 49) = false) (h50 : (op == 50) = false) (h51 : (op == 51) = false) (h52 : (op == 52) = false) (h53 : (op == 53) = false) (h54 : (op == 54) = false) (h55 : (op == 55) = false) (h58 : (op == 58) = false) (h59 : (op == 59) = false) (h60 : (op == 60) = false) (h61 : (op == 61) = false) (h62 : (op == 62) = false) : acc op = none := by
 simp only [beq_eq_false_iff_ne, ne_eq] at *
 simp [acc, rowsT, *]

set_option maxHeartbeats 1000000 in
theorem refAcc_40 (w : World) : Calls Tryz.prog 127 #[.int .i64 40] w fun e w' => e = .returned (.tuple #[.int .i64 127, .int .i64 4, .bool false, .bool true]) ∧ w = w' := by
 go_enter Tryz.func127, Tryz.ntmps127
 go_wp2
 refine bodyPost_ret (results_tmp4 rfl _ _ _) rfl ⟨rfl, rfl⟩

set_option maxHeartbeats 1000000 in
theorem refAcc_41 (w : World) : Calls Tryz.prog 127 #[.int .i64 41] w fun e w' => e = .returned (.tuple #[.int .i64 126, .int .i64 8, .bool false, .bool true]) ∧ w = w' := by
 go_enter Tryz.func127, Tryz.ntmps127
 go_wp2
 refine bodyPost_ret (results_tmp4 rfl _ _ _) rfl ⟨rfl, rfl⟩

set_option maxHeartbeats 1000000 in
theorem refAcc_44 (w : World) : Calls Tryz.prog 127 #[.int .i64 44] w fun e w' => e = .returned (.tuple #[.int .i64 127, .int .i64 1, .bool false, .bool true]) ∧ w = w' := by
 go_enter Tryz.func127, Tryz.ntmps127
 go_wp2
 refine bodyPost_ret (results_tmp4 rfl _ _ _) rfl ⟨rfl, rfl⟩

set_option maxHeartbeats 1000000 in
theorem refAcc_45 (w : World) : Calls Tryz.prog 127 #[.int .i64 45] w fun e w' => e = .returned (.tuple #[.int .i64 127, .int .i64 1, .bool false, .bool true]) ∧ w = w' := by
 go_enter Tryz.func127, Tryz.ntmps127
 go_wp2
 refine bodyPost_ret (results_tmp4 rfl _ _ _) rfl ⟨rfl, rfl⟩

set_option maxHeartbeats 1000000 in
theorem refAcc_46 (w : World) : Calls Tryz.prog 127 #[.int .i64 46] w fun e w' => e = .returned (.tuple #[.int .i64 127, .int .i64 2, .bool false, .bool true]) ∧ w = w' := by
 go_enter Tryz.func127, Tryz.ntmps127
 go_wp2
 refine bodyPost_ret (results_tmp4 rfl _ _ _) rfl ⟨rfl, rfl⟩

set_option maxHeartbeats 1000000 in
theorem refAcc_47 (w : World) : Calls Tryz.prog 127 #[.int .i64 47] w fun e w' => e = .returned (.tuple #[.int .i64 127, .int .i64 2, .bool false, .bool true]) ∧ w = w' := by
 go_enter Tryz.func127, Tryz.ntmps127
 go_wp2
 refine bodyPost_ret (results_tmp4 rfl _ _ _) rfl ⟨rfl, rfl⟩

set_option maxHeartbeats 1000000 in
theorem refAcc_48 (w : World) : Calls Tryz.prog 127 #[.int .i64 48] w fun e w' => e = .returned (.tuple #[.int .i64 126, .int .i64 1, .bool false, .bool true]) ∧ w = w' := by
 go_enter Tryz.func127, Tryz.ntmps127
 go_wp2
 refine bodyPost_ret (results_tmp4 rfl _ _ _) rfl ⟨rfl, rfl⟩

set_option maxHeartbeats 1000000 in
theorem refAcc_49 (w : World) : Calls Tryz.prog 127 #[.int .i64 49] w fun e w' => e = .returned (.tuple #[.int .i64 126, .int .i64 1, .bool false, .bool true]) ∧ w = w' := by
 go_enter Tryz.func127, Tryz.ntmps127
 go_wp2
 refine bodyPost_ret (results_tmp4 rfl _ _ _) rfl ⟨rfl, rfl⟩

set_option maxHeartbeats 1000000 in
theorem refAcc_50 (w : World) : Calls Tryz.prog 127 #[.int .i64 50] w fun e w' => e = .returned (.tuple #[.int .i64 126, .int .i64 2, .bool false, .bool true]) ∧ w = w' := by
 go_enter Tryz.func127, Tryz.ntmps127
 go_wp2
 refine bodyPost_ret (results_tmp4 rfl _ _ _) rfl ⟨rfl, rfl⟩

set_option maxHeartbeats 1000000 in
theorem refAcc_51 (w : World) : Calls Tryz.prog 127 #[.int .i64 51] w fun e w' => e = .returned (.tuple #[.int .i64 126, .int .i64 2, .bool false, .bool true]) ∧ w = w' := by
 go_enter Tryz.func127, Tryz.ntmps127
 go_wp2
 refine bodyPost_ret (results_tmp4 rfl _ _ _) rfl ⟨rfl, rfl⟩

set_option maxHeartbeats 1000000 in
theorem refAcc_52 (w : World) : Calls Tryz.prog 127 #[.int .i64 52] w fun e w' => e = .returned (.tuple #[.int .i64 126, .int .i64 4, .bool false, .bool true]) ∧ w = w' := by
 go_enter Tryz.func127, Tryz.ntmps127
 go_wp2
 refine bodyPost_ret (results_tmp4 rfl _ _ _) rfl ⟨rfl, rfl⟩

set_option maxHeartbeats 1000000 in
theorem refAcc_53 (w : World) : Calls Tryz.prog 127 #[.int .i64 53] w fun e w' => e = .returned (.tuple #[.int .i64 126, .int .i64 4, .bool false, .bool true]) ∧ w = w' := by
 go_enter Tryz.func127, Tryz.ntmps127
 go_wp2
 refine bodyPost_ret (results_tmp4 rfl _ _ _) rfl ⟨rfl, rfl⟩

set_option maxHeartbeats 1000000 in
theorem refAcc_54 (w : World) : Calls Tryz.prog 127 #[.int .i64 54] w fun e w' => e = .returned (.tuple #[.int .i64 127, .int .i64 4, .bool true, .bool true]) ∧ w = w' := by
 go_enter Tryz.func127, Tryz.ntmps127
 go_wp2
 refine bodyPost_ret (results_tmp4 rfl _ _ _) rfl ⟨rfl, rfl⟩

set_option maxHeartbeats 1000000 in
theorem refAcc_55 (w : World) : Calls Tryz.prog 127 #[.int .i64 55] w fun e w' => e = .returned (.tuple #[.int .i64 126, .int .i64 8, .bool true, .bool true]) ∧ w = w' := by
 go_enter Tryz.func127, Tryz.ntmps127
 go_wp2
 refine bodyPost_ret (results_tmp4 rfl _ _ _) rfl ⟨rfl, rfl⟩

set_option maxHeartbeats 1000000 in
theorem refAcc_58 (w : World) : Calls Tryz.prog 127 #[.int .i64 58] w fun e w' => e = .returned (.tuple #[.int .i64 127, .int .i64 1, .bool true, .bool true]) ∧ w = w' := by
 go_enter Tryz.func127, Tryz.ntmps127
 go_wp2
 refine bodyPost_ret (results_tmp4 rfl _ _ _) rfl ⟨rfl, rfl⟩

set_option maxHeartbeats 1000000 in
theorem refAcc_59 (w : World) : Calls Tryz.prog 127 #[.int .i64 59] w fun e w' => e = .returned (.tuple #[.int .i64 127, .int .i64 2, .bool true, .bool true]) ∧ w = w' := by
 go_enter Tryz.func127, Tryz.ntmps127
 go_wp2
 refine bodyPost_ret (results_tmp4 rfl _ _ _) rfl ⟨rfl, rfl⟩

set_option maxHeartbeats 1000000 in
theorem refAcc_60 (w : World) : Calls Tryz.prog 127 #[.int .i64 60] w fun e w' => e = .returned (.tuple #[.int .i64 126, .int .i64 1, .bool true, .bool true]) ∧ w = w' := by
 go_enter Tryz.func127, Tryz.ntmps127
 go_wp2
 refine bodyPost_ret (results_tmp4 rfl _ _ _) rfl ⟨rfl, rfl⟩

set_option maxHeartbeats 1000000 in
theorem refAcc_61 (w : World) : Calls Tryz.prog 127 #[.int .i64 61] w fun e w' => e = .returned (.tuple #[.int .i64 126, .int .i64 2, .bool true, .bool true]) ∧ w = w' := by
 go_enter Tryz.func127, Tryz.ntmps127
 go_wp2
 refine bodyPost_ret (results_tmp4 rfl _ _ _) rfl ⟨rfl, rfl⟩

set_option maxHeartbeats 1000000 in
theorem refAcc_62 (w : World) : Calls Tryz.prog 127 #[.int .i64 62] w fun e w' => e = .returned (.tuple #[.int .i64 126, .int .i64 4, .bool true, .bool true]) ∧ w = w' := by
 go_enter Tryz.func127, Tryz.ntmps127
 go_wp2
 refine bodyPost_ret (results_tmp4 rfl _ _ _) rfl ⟨rfl, rfl⟩

set_option maxHeartbeats 1000000 in
theorem refAcc_off {op : Int} (w : World) (h40 : (op == 40) = false) (h41 : (op == 41) = false) (h44 : (op == 44) = false) (h45 : (op == 45) = false) (h46 : (op == 46) = false) (h47 : (op == 47) = false) (h48 : (op == 48) = false) (h49 : (op == 49) = false) (h50 : (op == 50) = false) (h51 : (op == 51) = false) (h52 : (op == 52) = false) (h53 : (op == 53) = false) (h54 : (op == 54) = false) (h55 : (op == 55) = false) (h58 : (op == 58) = false) (h59 : (op == 59) = false) (h60 : (op == 60) = false) (h61 : (op == 61) = false) (h62 : (op == 62) = false) : Calls Tryz.prog 127 #[.int .i64 op] w fun e w' => e = .returned (.tuple #[.int .i64 0, .int .i64 0, .bool false, .bool false]) ∧ w = w' := by
 go_enter Tryz.func127, Tryz.ntmps127
 go_wp2
 refine bodyPost_ret (results_tmp4 rfl _ _ _) rfl ⟨rfl, rfl⟩

theorem refAccess_any (op : Int) (w : World) : Calls Tryz.prog 127 #[.int .i64 op] w fun e w' => e = .returned (accTuple op) ∧ w = w' := by
 revert op
 refine acc_split (by rw [accTuple, acc_40]; exact refAcc_40 w) (by rw [accTuple, acc_41]; exact refAcc_41 w) (by rw [accTuple, acc_44]; exact refAcc_44 w) (by rw [accTuple, acc_45]; exact refAcc_45 w) (by rw [accTuple, acc_46]; exact refAcc_46 w) (by rw [accTuple, acc_47]; exact refAcc_47 w) (by rw [accTuple, acc_48]; exact refAcc_48 w) (by rw [accTuple, acc_49]; exact refAcc_49 w) (by rw [accTuple, acc_50]; exact refAcc_50 w) (by rw [accTuple, acc_51]; exact refAcc_51 w) (by rw [accTuple, acc_52]; exact refAcc_52 w) (by rw [accTuple, acc_53]; exact refAcc_53 w) (by rw [accTuple, acc_54]; exact refAcc_54 w) (by rw [accTuple, acc_55]; exact refAcc_55 w) (by rw [accTuple, acc_58]; exact refAcc_58 w) (by rw [accTuple, acc_59]; exact refAcc_59 w) (by rw [accTuple, acc_60]; exact refAcc_60 w) (by rw [accTuple, acc_61]; exact refAcc_61 w) (by rw [accTuple, acc_62]; exact refAcc_62 w) ?_
 intro op h40 h41 h44 h45 h46 h47 h48 h49 h50 h51 h52 h53 h54 h55 h58 h59 h60 h61 h62
 rw [accTuple, acc_off h40 h41 h44 h45 h46 h47 h48 h49 h50 h51 h52 h53 h54 h55 h58 h59 h60 h61 h62]
 exact refAcc_off w h40 h41 h44 h45 h46 h47 h48 h49 h50 h51 h52 h53 h54 h55 h58 h59 h60 h61 h62

end Go.Proofs.YtgmapikcpnffhaaGreat

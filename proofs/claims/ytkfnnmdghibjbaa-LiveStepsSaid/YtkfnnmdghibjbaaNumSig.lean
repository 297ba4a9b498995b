/-
  The operators' types: what num.Sig, num.Fits, num.one and num.division answer.
  Conditions: none.
-/
import Derived.Test.YtkfnnmdghibjbaaNumFind
import Derived.Test.YtkfnnmdghibjbaaMore
namespace Go.Bk.Num
open Go
def sigL (op : Int) : List Int := match grpOf op with
  | none => []
  | some (_, _, c, d) => if c = 1 ∨ c = 3 then [d, d] else [d]
def sigO (op : Int) : Int := match grpOf op with
  | none => 0
  | some (_, _, c, d) => if c = 0 ∨ c = 1 ∨ c = 4 then 127 else if c = 5 then 126 else d
def intsV (l : List Int) : List Value := l.map (Value.int .i64)
theorem grp_kind {op a b c d : Int} (h : grpOf op = some (a, b, c, d)) : (c = 0 ∨ c = 1 ∨ c = 2 ∨ c = 3 ∨ c = 4 ∨ c = 5 ∨ c = 6) ∧ (d = 126 ∨ d = 127) ∧ 69 ≤ a ∧ a ≤ op ∧ op - a < b ∧ b ≤ 15 ∧ a ≤ 194 := by
  have hm := List.mem_of_find?_eq_some h
  have hp := List.find?_some h
  have hall : ∀ g ∈ grps, (g.2.2.1 = 0 ∨ g.2.2.1 = 1 ∨ g.2.2.1 = 2 ∨ g.2.2.1 = 3 ∨ g.2.2.1 = 4 ∨ g.2.2.1 = 5 ∨ g.2.2.1 = 6) ∧ (g.2.2.2 = 126 ∨ g.2.2.2 = 127) ∧ 69 ≤ g.1 ∧ g.2.1 ≤ 15 ∧ g.1 ≤ 194 := by decide
  obtain ⟨h1, h2, h3, h4, h5⟩ := hall _ hm
  simp [inG] at hp
  exact ⟨h1, h2, h3, hp.1, hp.2, h4, h5⟩
def b01 (b : Bool) : Int := if b then 1 else 0
def fitsN (t : Int) (n : Nat) : Bool := decide (t = 126 ∨ (t = 127 ∧ n < 4294967296))
end Go.Bk.Num
namespace Go.Proofs.Ytkfnnmdghibjbaa
open Go.RowKit Go.Bk Go.Bk.Num

theorem info_int : (Try.prog.info? 3).map (fun i => (i.zero, i.size, i.bytes)) = some (some (.int .i64 0), 1, 8) := by kernel_rfl

/-- what Sig leaves -/
def SigPost (op : Int) (w : World) (e : Ending) (w' : World) : Prop :=
  ∃ A c, e = .returned (.tuple #[.slice A (sigL op).length c, .int .i64 (sigO op), .bool (grpOf op).isSome]) ∧ w'.ownsRow w.heap.size 3 1 (.slice A (sigL op).length c) (sigL op).length (intsV (sigL op)) ∧ Below w.heap.size w w'

set_option maxRecDepth 100000 in
set_option maxHeartbeats 4000000 in
theorem Sig_any (op : Int) (w : World) (h1 : -9223372036854775808 ≤ op) (h2 : op ≤ 9223372036854775807) : Calls Try.prog 84 #[.int .i64 op] w (SigPost op w) := by
  cases hg : grpOf op with
  | none =>
    have HT := Lib.hid (show findT op = .tuple #[.agg #[.int .i64 0, .int .i64 0, .int .i64 0, .int .i64 0], .int .i64 0, .bool false] by simp [findT, hg])
    have HL := Lib.hid (show sigL op = [] by simp [sigL, hg])
    have HO := Lib.hid (show sigO op = 0 by simp [sigO, hg])
    have HI := Lib.hid (show (grpOf op).isSome = false by simp [hg])
    clear hg
    go_enter Try.func84, Try.ntmps84
    go_wp2_with fail
    refine (find_any op _ h1 h2).mono ?_
    rintro e w1 ⟨rfl, hb1⟩
    rw [HT.out]
    have HB := Lib.hid hb1
    clear hb1
    go_wp2
    go_ret3
    unfold SigPost
    rw [HL.out, HO.out, HI.out]
    exact ⟨none, 0, rfl, World.ownsRow_nil _ _ _ _, HB.out.alloc HB.out.size _⟩
  | some g =>
    obtain ⟨a, b, c, d⟩ := g
    have HT := Lib.hid (show findT op = .tuple #[.agg #[.int .i64 a, .int .i64 b, .int .i64 c, .int .i64 d], .int .i64 (op - a), .bool true] by simp [findT, hg, gV])
    have HL := Lib.hid (show sigL op = if c = 1 ∨ c = 3 then [d, d] else [d] by simp [sigL, hg])
    have HO := Lib.hid (show sigO op = if c = 0 ∨ c = 1 ∨ c = 4 then 127 else if c = 5 then 126 else d by simp [sigO, hg])
    have HI := Lib.hid (show (grpOf op).isSome = true by simp [hg])
    obtain ⟨hc, _, _, _, _, _, _⟩ := grp_kind hg
    clear hg
    have hc' : (c = 1 ∨ c = 3) ∨ (c = 0 ∨ c = 2 ∨ c = 4 ∨ c = 5 ∨ c = 6) := by omega
    clear hc
    rcases hc' with hc | hc
    · rcases hc with rfl | rfl
      all_goals
        go_enter Try.func84, Try.ntmps84
        go_wp2_with fail
        refine (find_any op _ h1 h2).mono ?_
        rintro e w1 ⟨rfl, hb1⟩
        rw [HT.out]
        have HB := Lib.hid hb1
        clear hb1
        go_wp2_with fail
        go_region
        go_wp2_with (at_builtin; refine append_own _ rfl (.tmp 28) (.tmp 31) 23 rfl (w1.heap.size + 1) 3 (.int .i64 0) 8 Try.underlying23 info_int rfl (.slice (some ⟨w1.heap.size + 1, 0, none⟩) 1 1) 1 [.int .i64 d] rfl ?_ (some ⟨w1.heap.size + 1 + 1, 0, none⟩) 1 1 [.int .i64 d] rfl ?_ (one_int _ _) (by unfold maxLen; omega) (by omega) ?_ ?_)
        · exact Blk.own (n := 1) (cs := #[.int .i64 d]) (((Blk.newAt _ _ _ (by simp)).alloc _).drew) (Nat.le_refl _) rfl (by unfold maxLen; omega)
        · exact Blk.srcAll (cs := #[.int .i64 d]) (Blk.newAt _ _ _ (by simp)).drew rfl
        · simp
        rintro v w2 ho2 hb2
        have hx2 := hb2.cell (p := ⟨w1.heap.size, 2, none⟩) (by simp)
        simp at hx2
        have HO2 := Lib.hid (own_mono ho2 (by have := HB.out.size; omega : w.heap.size ≤ w1.heap.size + 1))
        have HB2 := Lib.hid (show Below w.heap.size w w2 from ((((HB.out.alloc HB.out.size _).alloc (by have := HB.out.size; simp; omega) _).alloc (by have := HB.out.size; simp; omega) _).drew).trans (hb2.mono (by have := HB.out.size; omega)))
        obtain ⟨A2, c2, rfl, _⟩ := own_shape ho2
        clear ho2 hb2
        go_wp2
        go_ret3
        unfold SigPost
        rw [HL.out, HO.out, HI.out]
        exact ⟨_, _, rfl, HO2.out, HB2.out⟩
    · rcases hc with rfl | rfl | rfl | rfl | rfl
      all_goals
        go_enter Try.func84, Try.ntmps84
        go_wp2_with fail
        refine (find_any op _ h1 h2).mono ?_
        rintro e w1 ⟨rfl, hb1⟩
        rw [HT.out]
        have HB := Lib.hid hb1
        clear hb1
        go_wp2_with fail
        go_region
        go_wp2
        go_ret3
        unfold SigPost
        rw [HL.out, HO.out, HI.out]
        exact ⟨_, _, rfl, Blk.own (n := 1) (cs := #[.int .i64 d]) (Blk.newAt _ _ _ (by simp)).drew (by have := HB.out.size; omega) rfl (by unfold maxLen; omega), ((HB.out.alloc HB.out.size _).alloc (by have := HB.out.size; simp; omega) _).drew⟩
end Go.Proofs.Ytkfnnmdghibjbaa

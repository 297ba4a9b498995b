/-
  The program's Ops, and the statements' same: what they answer.
  Conditions: none.
-/
import Derived.Test.YtpfbdaemdghogaaDoorNumROps
import Derived.Test.YtpfbdaemdghogaaDoorApp
namespace Go.Proofs.YtpfbdaemdghogaaDoor
open Go Go.Bk.Num
/-- a group's first operators -/
def grpTo (g : Int × Int × Int × Int) (k : Nat) : List Int := (List.range k).map fun i => g.1 + Int.ofNat i
def grpsTo (k : Nat) : List Int := (grps.take k).flatMap fun g => grpTo g g.2.1.toNat
theorem grpTo_succ (g : Int × Int × Int × Int) (k : Nat) : grpTo g (k + 1) = grpTo g k ++ [g.1 + (k : Int)] := by
  unfold grpTo; rw [List.range_succ, List.map_append]; rfl
theorem grpTo_len (g : Int × Int × Int × Int) (k : Nat) : (grpTo g k).length = k := by simp [grpTo]
theorem grpsTo_succ {k : Nat} {g : Int × Int × Int × Int} (h : grps[k]? = some g) : grpsTo (k + 1) = grpsTo k ++ grpTo g g.2.1.toNat := by
  obtain ⟨hk, e⟩ := List.getElem?_eq_some_iff.1 h
  unfold grpsTo
  rw [List.take_succ_eq_append_getElem hk, List.flatMap_append, e]
  simp
theorem grpsTo_len : ∀ k, k ≤ 12 → (grpsTo k).length ≤ 256 := by decide +kernel
theorem grps_all : grpsTo 12 = opsL := by decide +kernel
end Go.Proofs.YtpfbdaemdghogaaDoor
namespace Go.Proofs.YtpfbdaemdghogaaDoor
open Go.RowKit Go.Bk Go.Bk.Num
set_option linter.unusedVariables false
set_option linter.unusedSimpArgs false

def POIn (w : World) (G g3 : Nat) (a b c d : Int) (k : Nat) (v i : Value) (wr : World) : Prop :=
  ∃ j : Nat, (j : Int) ≤ b ∧ i = .int .i64 j ∧ wr.ownsRow (w.heap.size + 1) 3 1 v ((grpsTo k).length + j) (intsV (grpsTo k ++ grpTo (a, b, c, d) j)) ∧ Blk wr G 43 grpCells ∧ Blk wr g3 43 #[.int .i64 a, .int .i64 b, .int .i64 c, .int .i64 d] ∧ v.ownBlock ≠ some g3 ∧ v.ownBlock ≠ some G ∧ Below w.heap.size w wr
def PORel (w : World) (G : Nat) (v i : Value) (wr : World) : Prop :=
  ∃ k : Nat, k ≤ 12 ∧ i = .int .i64 k ∧ wr.ownsRow (w.heap.size + 1) 3 1 v (grpsTo k).length (intsV (grpsTo k)) ∧ Blk wr G 43 grpCells ∧ v.ownBlock ≠ some G ∧ Below w.heap.size w wr

theorem po_more {w wr w3 : World} {G g3 k j : Nat} {a b c d : Int} {v v' : Value} (hj : (j : Int) < b) (hG : w.heap.size ≤ G)
    (ho : wr.ownsRow (w.heap.size + 1) 3 1 v ((grpsTo k).length + j) (intsV (grpsTo k ++ grpTo (a, b, c, d) j))) (hg : Blk wr G 43 grpCells) (h3 : Blk wr g3 43 #[.int .i64 a, .int .i64 b, .int .i64 c, .int .i64 d])
    (hv3 : v.ownBlock ≠ some g3) (hvG : v.ownBlock ≠ some G) (hb : Below w.heap.size w wr)
    (h1 : w3.ownsRow (w.heap.size + 1) 3 1 v' ((grpsTo k).length + j + 1) (intsV (grpsTo k ++ grpTo (a, b, c, d) j) ++ [.int .i64 (a + (j : Int))]))
    (h2 : (wr.alloc (.cells #[.int .i64 (a + (j : Int))] 3)).grownBy w3 v.ownBlock) (h4 : v'.ownBlock = v.ownBlock ∨ v'.ownBlock = some (wr.heap.size + 1)) : POIn w G g3 a b c d k v' (.int .i64 ((j : Int) + 1)) w3 := by
  have hz : w.heap.size ≤ wr.heap.size := hb.size
  refine ⟨j + 1, by omega, by simp, ?_, (hg.alloc _).grown h2 hvG, (h3.alloc _).grown h2 hv3, ?_, ?_, below_grown (hb.alloc hz _) h2 (by simp; omega) (fun k hk => by have := (ho.lt k hk).1; omega)⟩
  · rw [grpTo_succ, ← List.append_assoc]
    simpa [intsV, Nat.add_assoc] using h1
  · rcases h4 with h4 | h4
    · rw [h4]; exact hv3
    · rw [h4]; have := h3.lt; intro e; simp at e; omega
  · rcases h4 with h4 | h4
    · rw [h4]; exact hvG
    · rw [h4]; have := hg.lt; intro e; simp at e; omega

set_option maxRecDepth 100000 in
set_option maxHeartbeats 2000000 in
theorem POps_any (w : World) : Calls Tryd.prog 23 #[] w (OpsPost opsL w) := by
  go_enter Tryd.func23, Tryd.ntmps23
  go_wp2_with fail
  refine (groups_any _).mono ?_
  rintro e w1 ⟨rfl, rfl⟩
  have HG0 := Lib.hid (Blk.new w 43 grpCells)
  go_wp2
  go_loopw [1, 7] (fun v i wr => PORel w w.heap.size v i wr) (fun _ i _ => 12 - (intOf i).toNat)
  case atStart => exact ⟨0, by omega, rfl, World.ownsRow_nil _ _ _ _, HG0.out, (by simp [Value.ownBlock]), (Below.refl _ _).alloc (Nat.le_refl _) _⟩
  case round =>
    obtain ⟨wo, rfl⟩ : ∃ wo : World, wo = wr := ⟨_, rfl⟩
    obtain ⟨k, hk, rfl, ho, hg, hvG, hb⟩ := hrel
    have HO := Lib.hid ho
    have HG := Lib.hid hg
    have HB := Lib.hid hb
    have HVG := Lib.hid hvG
    have hzz : w.heap.size < wo.heap.size := hg.lt
    clear ho hb hg hvG HG0
    by_cases hlt : k < 12
    · have hlt' : decide ((k : Int) < 12) = true := by simp; omega
      obtain ⟨a, b, c, d, hgk, e0, e1, e2, e3, ha1, ha2, hb1, hb2⟩ := grp_at k hlt
      have c0 := (HG.out.cell (k * 4)).trans e0
      have c1 := (HG.out.cell (k * 4 + 1)).trans e1
      have c2 := (HG.out.cell (k * 4 + 2)).trans e2
      have c3 := (HG.out.cell (k * 4 + 3)).trans e3
      have HGI := Lib.hid hgk
      clear e0 e1 e2 e3 hgk
      have hln := grpsTo_len k (by omega)
      go_wp2_with fail
      go_loopw [1, 13] (fun v i wi => POIn w w.heap.size wo.heap.size a b c d k v i wi) (fun _ i _ => b.toNat - (intOf i).toNat)
      case atStart =>
        refine ⟨0, by omega, rfl, ?_, HG.out.alloc _, Blk.new _ _ _, ?_, HVG.out, HB.out.alloc HB.out.size _⟩
        · have := own_alloc' HO.out (.cells #[.int .i64 a, .int .i64 b, .int .i64 c, .int .i64 d] 43)
          simpa [grpTo] using this
        · intro e; have := (HO.out.lt _ e).2; omega
      case round =>
        obtain ⟨wi, rfl⟩ : ∃ wi : World, wi = wr := ⟨_, rfl⟩
        obtain ⟨j, hj, rfl, ho, hg, h3, hv3, hvG, hb⟩ := hrel
        have iO := Lib.hid ho
        have IG := Lib.hid hg
        have I3 := Lib.hid h3
        have IV := Lib.hid hv3
        have IW := Lib.hid hvG
        have IB := Lib.hid hb
        have x0 := h3.cell 0
        have hz3 : wo.heap.size < wi.heap.size := h3.lt
        simp at x0
        clear ho hg h3 hv3 hvG hb HO HG HVG HB c0 c1 c2 c3
        by_cases hjb : (j : Int) < b
        · have hjb' : decide ((j : Int) < b) = true := by simpa using hjb
          go_wp2_with (at_builtin; refine append_at _ rfl _ _ 31 rfl (w.heap.size + 1) 3 (.int .i64 0) 1 8 Tryd.underlying31 info_int rfl (by omega) _ ((grpsTo k).length + j) (intsV (grpsTo k ++ grpTo (a, b, c, d) j)) rfl (own_alloc' iO.out _) (some ⟨wi.heap.size, 0, none⟩) 1 1 [.int .i64 (a + (j : Int))] rfl (src_one _ _ _) (one_int _ _) (by unfold maxLen; omega) (by omega) (by simp; omega) ?_)
          rintro v' w3 h1 h2 h4 _
          have HR := Lib.hid (po_more hjb (Nat.le_refl _) iO.out IG.out I3.out IV.out IW.out IB.out h1 h2 h4)
          clear h1 h2 h4
          go_wp2
          go_roundw
          case rel => exact HR.out
          case measure => simp [intOf]; omega
        · have hjb' : decide ((j : Int) < b) = false := by simpa using hjb
          obtain rfl : b = (j : Int) := by omega
          go_wp2
          go_roundw
          case rel =>
            refine ⟨k + 1, by omega, by simp, ?_, IG.out, IW.out, IB.out⟩
            rw [grpsTo_succ HGI.out, List.length_append, grpTo_len]
            simpa using iO.out
          case measure => simp [intOf]; omega
    · obtain rfl : k = 12 := by omega
      obtain ⟨A, c, hA, hc⟩ := own_shape HO.out
      subst hA
      go_wp2
      go_ret
      have e : (grpsTo 12) = opsL := grps_all
      have h1 := HO.out
      rw [e] at h1
      exact ⟨A, c, by rw [← e]; rfl, own_mono h1 (by omega), HB.out⟩

theorem intsV_at {l : List Int} {k : Nat} (h : k < l.length) : (intsV l)[k]'(by simpa [intsV] using h) = .int .i64 l[k] := by simp [intsV]
set_option maxRecDepth 100000 in
set_option maxHeartbeats 2000000 in
theorem same_eq (A B : Option Addr) (n c d : Nat) (l : List Int) (w : World) (ha : Bk.Src w A n (intsV l)) (hb : Bk.Src w B n (intsV l)) (hm : n ≤ 9223372036854775807) :
    Calls Tryd.prog 20 #[.slice A n c, .slice B n d] w fun e w' => e = .returned (.bool true) ∧ Below w.heap.size w w' := by
  have hl : l.length = n := by have := ha.1; simpa [intsV] using this
  have hnn : ((n : Int) != n) = false := by simp
  rcases Nat.eq_zero_or_pos n with h0 | h0
  · subst h0
    clear ha hb hl
    go_enter Tryd.func20, Tryd.ntmps20
    go_wp2_with fail
    go_loopw [13] (fun i wr => i = .int .i64 0 ∧ Below w.heap.size w wr) (fun _ _ => 0)
    case atStart => exact ⟨rfl, Below.refl _ _⟩
    case round =>
      obtain ⟨rfl, hbr⟩ := hrel
      go_wp2
      go_ret
      exact ⟨rfl, hbr⟩
  · obtain ⟨ab, ao, rfl, hab⟩ := ha.addr h0
    obtain ⟨bb, bo, rfl, hbb⟩ := hb.addr h0
    have HX := Lib.hid (show ∀ k, k < n → ∃ v : Int, w.cell? ⟨ab, ao + k, none⟩ = some (.int .i64 v) ∧ w.cell? ⟨bb, bo + k, none⟩ = some (.int .i64 v) from fun k hk => by
      have h1 := ha.at_ hk
      have h2 := hb.at_ hk
      rw [intsV_at (by omega)] at h1 h2
      exact ⟨_, h1, h2⟩)
    clear ha hb hl
    go_enter Tryd.func20, Tryd.ntmps20
    go_wp2_with fail
    go_loopw [13] (fun i wr => ∃ k : Nat, k ≤ n ∧ i = .int .i64 k ∧ Below w.heap.size w wr) (fun i _ => n + 1 - (intOf i).toNat)
    case atStart => exact ⟨0, by omega, rfl, Below.refl _ _⟩
    case round =>
      obtain ⟨k, hk, rfl, hbr⟩ := hrel
      have HB := Lib.hid hbr
      clear hbr
      by_cases hlt : k < n
      · have hlt' : decide ((k : Int) < n) = true := by simp; omega
        have hlt2 : (k : Int) < n := by omega
        obtain ⟨v, c1, c2⟩ := HX.out k hlt
        have c1' := (HB.out.cell (p := ⟨ab, ao + k, none⟩) hab).trans c1
        have c2' := (HB.out.cell (p := ⟨bb, bo + k, none⟩) hbb).trans c2
        have hvv : (v != v) = false := by simp
        clear c1 c2
        go_wp2_with fail
        go_quiet (fail)
        go_wp2
        exact ⟨⟨k + 1, by omega, by simp, below_drewN HB.out _⟩, by simp [intOf]; omega⟩
      · have hlt' : decide ((k : Int) < n) = false := by simp; omega
        go_wp2
        go_ret
        exact ⟨rfl, HB.out⟩
end Go.Proofs.YtpfbdaemdghogaaDoor

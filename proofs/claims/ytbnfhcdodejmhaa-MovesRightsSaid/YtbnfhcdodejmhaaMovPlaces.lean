/-
  places: those that wait for a number, rising.
  Conditions: none.
-/
import Derived.Test.YtbnfhcdodejmhaaMovSrt
import Derived.Test.YtbnfhcdodejmhaaShelf
namespace Go.Proofs.Ytbnfhcdodejmhaa
open Go.RowKit Go.Bk Go.Bk.Mov
set_option linter.unusedVariables false
set_option linter.unusedSimpArgs false

theorem sort_own (base g c : Nat) (zs : List Int) (w : World) (h : w.ownsRow base 3 1 (.slice (some ⟨g, 0, none⟩) zs.length c) zs.length (i64s zs)) (hz : zs.length < 4611686018427387904) :
    Calls Try.prog 33 #[.slice (some ⟨g, 0, none⟩) zs.length c] w fun e w' => e = .returned (.tuple #[]) ∧ w'.ownsRow base 3 1 (.slice (some ⟨g, 0, none⟩) zs.length c) zs.length (i64s (sortI zs)) ∧ w.grownBy w' (some g) := by
  refine (Try.slices_Sort_int g 0 c zs w (own_holds h) (h.lt g rfl).2 hz).mono ?_
  rintro e w' ⟨rfl, n, os, rfl⟩
  obtain ⟨h1, h2⟩ := own_put (ys := sortI zs) (sortI_len zs) h n os
  rw [sortI_len] at h1
  exact ⟨rfl, h1, h2⟩

def PlPost (F : List Mv) (w : World) (e : Ending) (w' : World) : Prop :=
  ∃ P A c, e = .returned (.slice A P.length c) ∧ w'.ownsRow w.heap.size 3 1 (.slice A P.length c) P.length (i64s P) ∧ (∀ t, t ∈ P ↔ t ∈ tos F) ∧ P.Pairwise (· ≤ ·) ∧ P.length = F.length ∧ Below w.heap.size w w'

def PlRel (F : List Mv) (bf : Nat) (w : World) (v : Value) (wr : World) : Prop :=
  ∃ (L : KV) (ks : List Int), IT wr bf w.heap.size (ivs F) L ∧ wr.ownsRow (w.heap.size + 1) 3 1 v ks.length (i64s ks) ∧ (∀ t, t ∈ tos F ↔ t ∈ ks ∨ t ∈ L.map (·.1)) ∧ ks.length + L.length = F.length ∧ Below w.heap.size w wr

set_option maxRecDepth 100000 in
set_option maxHeartbeats 4000000 in
theorem places_any (sb bf ba : Nat) (F : List Mv) (ov : Value) (w : World) (hb : Blk w sb 52 #[.map (some bf), .map (some ba), ov]) (hf : IM w bf (ivs F)) (hF : F.length ≤ 1000000) :
    Calls Try.prog 27 #[.pointer (some ⟨sb, 0, none⟩)] w (PlPost F w) := by
  have s0 := hb.cell 0
  simp at s0
  have hbl := hf.lt
  have HB := Lib.hid hb
  have HF := Lib.hid hf
  clear hb hf
  go_enter Try.func27, Try.ntmps27
  go_wp2_with (at_range; refine wp_range _ rfl _ 50 rfl 3 3 Try.underlying50 bf (ivs F) rfl HF.out ?_)
  rintro w1 hI hg hz
  have HI := Lib.hid hI
  have HG := Lib.hid hg
  have HZ := Lib.hid hz
  clear hI hg hz
  go_wp2
  go_loopw [3] (fun v wr => PlRel F bf w v wr) (fun _ wr => wr.rangeLeft bf w.heap.size)
  case atStart =>
    refine ⟨ivs F, [], HI.out, World.ownsRow_nil _ _ _ _, fun t => ?_, by simp [ivs], below_grown (Below.refl _ _) HG.out (Nat.le_refl _) (by simp)⟩
    simp [ivs, tos]
  case round =>
    clear HI HG HZ
    obtain ⟨L, ks, hI, hO, hT, hl, hB⟩ := hrel
    have II := Lib.hid hI
    have iO := Lib.hid hO
    have IT' := Lib.hid hT
    have IL := Lib.hid hl
    have IB := Lib.hid hB
    have hle := hI.left
    have HLE := Lib.hid hle
    clear hI hO hT hl hB hle
    go_wp2_with (at_next; refine wp_next _ rfl _ rfl bf w.heap.size (ivs F) L rfl II.out ?_ ?_)
    · rintro rfl
      obtain ⟨A, c, hv, hc⟩ := own_shape iO.out
      subst hv
      have hkl : ks.length = F.length := by have := IL.out; simpa using this
      have HT := Lib.hid (show ∀ t, t ∈ ks ↔ t ∈ tos F from fun t => by have := IT'.out t; simpa using this.symm)
      have HKL := Lib.hid hkl
      rcases Nat.eq_zero_or_pos ks.length with h0 | h0
      · have hk0 : ks = [] := List.eq_nil_of_length_eq_zero h0
        subst hk0
        clear hkl h0
        go_wp2_with fail
        refine (Try.slices_Sort_int_none A c _).mono ?_
        rintro e w2 ⟨rfl, rfl⟩
        go_wp2
        go_ret
        exact ⟨[], A, c, rfl, own_mono iO.out (by omega), HT.out, List.Pairwise.nil, HKL.out, IB.out⟩
      · obtain ⟨g, c', e, hgl, hge, hnc⟩ := own_at iO.out h0
        injection e with e1 e2 e3
        subst e1
        subst e3
        have hkb : ks.length < 4611686018427387904 := by omega
        clear hkl
        go_wp2_with fail
        refine (sort_own (w.heap.size + 1) g c ks _ iO.out hkb).mono ?_
        rintro e w2 ⟨rfl, ho2, hg2⟩
        have IO2 := Lib.hid ho2
        have IB2 := Lib.hid (below_grown IB.out hg2 IB.out.size (fun k hk => by injection hk with hk; omega))
        clear ho2 hg2
        go_wp2
        go_ret
        have e := sortI_len ks
        exact ⟨sortI ks, some ⟨g, 0, none⟩, c, by rw [e]; rfl, by rw [e]; exact own_mono IO2.out (by omega), fun t => (sortI_mem ks t).trans (HT.out t), sortI_rising ks, e.trans HKL.out, IB2.out⟩
    · rintro L1 k v L2 w2 rfl hI2 hg2 hz2 hen
      have II2 := Lib.hid hI2
      have IO2 := Lib.hid (own_grown iO.out hg2 (fun g hg e => by have := (iO.out.lt g hg).1; injection e with e; omega))
      have IB2 := Lib.hid (below_grown IB.out hg2 IB.out.size (fun k hk => by injection hk with hk; omega))
      have hb2 := IB2.out.size
      have hlt2 := hI2.lt
      have hkl : ks.length < F.length := by have := IL.out; simp at this; omega
      clear hI2 hg2 hz2
      go_wp2_with (at_builtin; refine append_at _ rfl (.tmp 14) (.tmp 16) 43 rfl (w.heap.size + 1) 3 (.int .i64 0) 1 8 Try.underlying43 info_i64 rfl (by omega) _ ks.length (i64s ks) rfl (own_alloc IO2.out _) (some ⟨w2.heap.size, 0, none⟩) 1 1 [.int .i64 k] rfl (src_one _ _ _) (one_int _ _) (by unfold maxLen; omega) (by omega) (by simp; omega) ?_)
      rintro v3 w3 h1 h2 h3 _
      have hne : ∀ g, u3.ownBlock = some g → w.heap.size + 1 ≤ g := fun g hg => (IO2.out.lt g hg).1
      have II3 := Lib.hid ((II2.out.alloc (.cells #[.int .i64 k] 3)).grown h2 (fun e => by have := hne _ e; omega) (fun e => by have := hne _ e; omega))
      have IB3 := Lib.hid (below_grown (IB2.out.alloc hb2 (.cells #[.int .i64 k] 3)) h2 (by simp; omega) (fun g hg => by have := hne g hg; omega))
      have IO3 := Lib.hid h1
      have HLE3 := Lib.hid II3.out.left
      clear h1 h2 h3 hne
      go_wp2
      go_roundw
      case rel =>
        refine ⟨L1 ++ L2, ks ++ [k], II3.out, ?_, fun t => ?_, ?_, IB3.out⟩
        · rw [i64s_app, List.length_append]; exact IO3.out
        · rw [IT'.out t]
          simp
          constructor
          · rintro (h | h | h | h)
            · exact .inl (.inl h)
            · exact .inr (.inl h)
            · exact .inl (.inr h)
            · exact .inr (.inr h)
          · rintro ((h | h) | h | h)
            · exact .inl h
            · exact .inr (.inr (.inl h))
            · exact .inr (.inl h)
            · exact .inr (.inr (.inr h))
        · have := IL.out; simp at this ⊢; omega
      case measure =>
        rw [HLE3.out, HLE.out]
        simp
end Go.Proofs.Ytbnfhcdodejmhaa

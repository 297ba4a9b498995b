/-
 slices.Clone of numbers, and live.next: the instructions that may come behind one.
 Conditions: there are few targets.
-/
import Derived.Test.YtgmapikcpnffhaaGreatLivCheck
import Derived.Lib.SliceRun
namespace Go.Bk.Liv
open Go Go.Bk
def nextL (c : CodeD) (i : Nat) : List Int := c.to ++ if endOp c.op then [] else [(i : Int) + 1]
/-- of a row that may be, the very same instructions -/
theorem nextL_mem {e : EnvD} {r : RowD} {c : CodeD} (h : codeOk e r c = true) (i : Nat) (x : Int) : x ∈ nextL c i ↔ x ∈ nextOf c i := by
 obtain ⟨_, h2, h3⟩ := codeOk_to h
 unfold nextL nextOf
 by_cases e1 : c.op = 276 ∨ c.op = 277
 ·have hh : toHi c.op = 0 := by rcases e1 with e | e <;> rw [e] <;> decide
  have : c.to = [] := List.eq_nil_of_length_eq_zero (by omega)
  have he : endOp c.op = true := (endOp_iff _).2 (by omega)
  simp [e1, this, he]
 ·by_cases e2 : c.op = 273 ∨ c.op = 275
  ·have he : endOp c.op = true := (endOp_iff _).2 (by omega)
   simp [e1, e2, he]
  ·have he : endOp c.op = false := by
    rw [Bool.eq_false_iff]
    intro h
    rw [endOp_iff] at h
    omega
   by_cases e3 : c.op = 274
   ·have hl : toLo c.op = 1 := by rw [e3]; decide
    have hh : toHi c.op = 1 := by rw [e3]; decide
    have h1 : c.to.length = 1 := by omega
    match hct : c.to, h1 with
    | [a], _ =>
     rw [if_neg e1, if_neg e2, if_pos e3, he]
     simp
     exact or_comm
   ·have hh : toHi c.op = 0 := by
     unfold toHi
     rw [if_neg (by omega), if_neg (by omega)]
    have : c.to = [] := List.eq_nil_of_length_eq_zero (by omega)
    simp [e1, e2, e3, this, he]
end Go.Bk.Liv
namespace Go.Proofs.YtgmapikcpnffhaaGreat
open Go.RowKit Go.Bk Go.Bk.Liv
set_option linter.unusedVariables false
set_option linter.unusedSimpArgs false

def ClPost (l : List Int) (w : World) (en : Ending) (w' : World) : Prop := ∃ v, en = .returned v ∧ w'.ownsRow w.heap.size 3 1 v l.length (i64s l) ∧ Below w.heap.size w w'
set_option maxHeartbeats 1000000 in
theorem Clone_any (v : Value) (l : List Int) (w : World) (hs : IR w v l) (hm : l.length ≤ 1000000) : Calls Tryz.prog 40 #[v] w (ClPost l w) := by
 have q23 : ∀ (w : World) (a : Option Addr) (n c n' c' : Nat), (binOp .eql 23 (.slice a n c) (.slice none n' c')).run Tryz.prog w = .ok (.bool a.isNone) w := fun w a n c n' c' => Lib.run_eql_slice_nil w 23 3 a n c n' c' Tryz.underlying23
 obtain ⟨A, c, rfl, hs⟩ := hs
 have HS := Lib.hid hs
 obtain ⟨n, hn⟩ : ∃ n, l.length = n := ⟨_, rfl⟩
 rw [hn] at HS hm ⊢
 have HN := Lib.hid hn
 cases A with
 | none =>
  have h0 : n = 0 := by
   rcases Nat.eq_zero_or_pos n with h | h
   ·exact h
   ·obtain ⟨b, o, e, _⟩ := HS.out.2 h
    cases e
  have h1 : l = [] := List.eq_nil_of_length_eq_zero (by omega)
  subst h1
  have H0 := Lib.hid h0
  clear hs hn h0
  go_enter Tryz.func40, Tryz.ntmps40
  go_wp2
  go_ret
  exact ⟨_, rfl, World.ownsRow_nil _ _ _ _, Below.refl _ _⟩
 | some a =>
  clear hs hn
  go_enter Tryz.func40, Tryz.ntmps40
  go_wp2_with (at_builtin; refine append_own _ rfl (.tmp 5) (.tmp 6) 23 rfl w.heap.size 3 (.int .i64 0) 8 Tryz.underlying23 info_int rfl (.slice (some ⟨w.heap.size, 0, none⟩) 0 0) 0 [] rfl (Blk.own (n := 0) (cs := #[]) (Blk.new w _ _) (Nat.le_refl _) rfl (by omega)) (some a) n c (i64s l) rfl (HS.out.alloc _) (i64s_one _) (by unfold maxLen; omega) (by omega) (by simp) ?_)
  rintro v' w' h1 h2
  have H1 := Lib.hid h1
  have H2 := Lib.hid (((Below.refl w.heap.size w).alloc (Nat.le_refl _) (.cells #[] 3)).trans h2)
  clear h1 h2
  go_wp2
  go_ret
  unfold ClPost
  rw [HN.out]
  exact ⟨_, rfl, H1.out, H2.out⟩

def NxPost (c : CodeD) (i : Nat) (w : World) (en : Ending) (w' : World) : Prop := ∃ v, en = .returned v ∧ w'.ownsRow w.heap.size 3 1 v (nextL c i).length (i64s (nextL c i)) ∧ Below w.heap.size w w'
set_option maxRecDepth 100000 in
set_option maxHeartbeats 2000000 in
theorem next_any (r : RowD) (vr : Value) (i : Nat) (c : CodeD) (w : World) (hr : RowV w vr r) (hi : r.code[i]? = some c) (hto : c.to.length ≤ 65) (hn2 : r.code.length ≤ 4096) :
  Calls Tryz.prog 105 #[vr, .int .i64 (i : Int)] w (NxPost c i w) := by
 obtain ⟨vp, vq, vr, vs, rfl, h4, h5, h6, h7⟩ := hr
 obtain ⟨Ap, cp, rfl⟩ := h4.shape
 obtain ⟨Aq, cq, rfl⟩ := h5.shape
 obtain ⟨Ar, cr, rfl⟩ := h6.shape
 obtain ⟨Ac, cc, rfl, _⟩ := h7.len
 have hlt : i < r.code.length := (List.getElem?_eq_some_iff.1 hi).1
 have hlt2 : (i : Int) < (r.code.length : Int) := by omega
 have hi4 : i < 4096 := by omega
 obtain ⟨gb, go, p, q, t, rfl, hgb, c0, c1, c2, c3, c4, s0, s1, s2, s3⟩ := h7.code hi
 obtain ⟨pA, pc, rfl⟩ := s1.shape
 obtain ⟨qA, qc, rfl⟩ := s2.shape
 obtain ⟨tA, tc, rfl⟩ := s3.shape
 have hgb1 : gb < w.heap.size + 1 := by omega
 have hgb2 : gb < w.heap.size + 1 + 1 := by omega
 have HT := Lib.hid s3.ir
 have HB0 := Lib.hid (al2 w (.cells #[.slice Ap r.sig.inn.length cp, .slice Aq r.sig.out.length cq, .int .i64 r.places, .slice Ar r.params.length cr, .slice (some ⟨gb, go, none⟩) r.code.length cc] 31) (.cells #[.int .i64 c.op, .int .u64 (c.n : Int), .slice pA c.args.length pc, .slice qA c.outs.length qc, .slice tA c.to.length tc] 48))
 have KC0 := Lib.hid (Blk.newAt (w.alloc (.cells #[.slice Ap r.sig.inn.length cp, .slice Aq r.sig.out.length cq, .int .i64 r.places, .slice Ar r.params.length cr, .slice (some ⟨gb, go, none⟩) r.code.length cc] 31)) (N := w.heap.size + 1) 48 #[.int .i64 c.op, .int .u64 (c.n : Int), .slice pA c.args.length pc, .slice qA c.outs.length qc, .slice tA c.to.length tc] (by simp))
 have HTO := Lib.hid hto
 clear h4 h5 h6 h7 hi s0 s1 s2 s3 hto
 go_enter Tryz.func105, Tryz.ntmps105
 go_wp2_with fail
 refine (Clone_any _ c.to _ (HT.out.below HB0.out (Nat.le_refl _)) (by have := HTO.out; omega)).mono ?_
 rintro en w1 ⟨v, rfl, ho, hb⟩
 obtain ⟨A1, c1', rfl, _⟩ := own_shape ho
 have HB := Lib.hid (HB0.out.trans (hb.mono HB0.out.size))
 have KC := Lib.hid (KC0.out.below hb KC0.out.lt)
 have HO := Lib.hid (own_mono ho HB0.out.size)
 clear ho hb
 obtain ⟨d0, d1, d2, d3, d4⟩ := blk5 KC.out
 have y1 := KC.out.lt
 go_wp2_with fail
 refine (Contains_any _ [273, 275, 276, 277] c.op _ ⟨_, _, rfl, Blk.srcAll (cs := #[.int .i64 273, .int .i64 275, .int .i64 276, .int .i64 277]) (Blk.new _ _ _) rfl⟩ (by simp)).mono ?_
 rintro en w6 ⟨rfl, rfl⟩
 have HBa := Lib.hid (HB.out.alloc HB.out.size (.cells #[.int .i64 273, .int .i64 275, .int .i64 276, .int .i64 277] 3))
 have HOa := Lib.hid (own_alloc HO.out (.cells #[.int .i64 273, .int .i64 275, .int .i64 276, .int .i64 277] 3))
 obtain ⟨m, hm⟩ : ∃ m, c.to.length = m := ⟨_, rfl⟩
 rw [hm] at HOa ⊢
 have hm65 : m ≤ 65 := by rw [← hm]; exact HTO.out
 have HM := Lib.hid hm
 clear hm d0 d1 d2 d3 d4
 cases he : endOp c.op with
 | true =>
  rw [show decide (c.op ∈ [(273 : Int), 275, 276, 277]) = true from he]
  have HE := Lib.hid he
  clear he
  go_wp2
  go_ret
  refine ⟨_, rfl, ?_, HBa.out⟩
  unfold nextL
  rw [HE.out, if_pos rfl, List.append_nil]
  have hh := HOa.out
  rw [HM.out]
  exact hh
 | false =>
  rw [show decide (c.op ∈ [(273 : Int), 275, 276, 277]) = false from he]
  have HE := Lib.hid he
  clear he
  have HOb := Lib.hid (own_alloc HOa.out (.cells #[.int .i64 ((i : Int) + 1)] 3))
  have hzz := HBa.out.size
  go_wp2_with (at_builtin; refine append_own _ rfl (.tmp 20) (.tmp 23) 23 rfl w.heap.size 3 (.int .i64 0) 8 Tryz.underlying23 info_int rfl (.slice A1 m c1') m (i64s c.to) rfl HOb.out (some ⟨w1.heap.size + 1, 0, none⟩) 1 1 [.int .i64 ((i : Int) + 1)] rfl (Blk.srcAll (cs := #[.int .i64 ((i : Int) + 1)]) (Blk.newAt _ _ _ (by simp)) rfl) (one_int _ _) (by unfold maxLen; omega) (by omega) (by simp at hzz ⊢; omega) ?_)
  rintro v' w' h1 h2
  obtain ⟨A2, c2', rfl, _⟩ := own_shape h1
  have H1 := Lib.hid h1
  have H2 := Lib.hid ((HBa.out.alloc HBa.out.size (.cells #[.int .i64 ((i : Int) + 1)] 3)).trans h2)
  clear h1 h2
  go_wp2
  go_ret
  refine ⟨_, rfl, ?_, H2.out⟩
  unfold nextL
  rw [HE.out, if_neg (by simp)]
  have hh := H1.out
  have e : i64s c.to ++ [.int .i64 ((i : Int) + 1)] = i64s (c.to ++ [(i : Int) + 1]) := by simp [i64s]
  rw [e] at hh
  have e2 : (c.to ++ [(i : Int) + 1]).length = m + 1 := by simp [HM.out]
  rw [e2]
  exact hh
end Go.Proofs.YtgmapikcpnffhaaGreat

/-
 Sets: what add puts in, and a set's places, rising.
 Conditions: the set's block is known entry by entry.
-/
import Derived.Test.YtgmapikcpnffhaaGreatLivNx
import Derived.Test.YtgmapikcpnffhaaGreatLGen
import Derived.Test.YtgmapikcpnffhaaGreatShelf
namespace Go.Proofs.YtgmapikcpnffhaaGreat
open Go.RowKit Go.Bk Go.Bk.Liv
set_option linter.unusedVariables false
set_option linter.unusedSimpArgs false

theorem IR.grown {w w' : World} {v : Value} {l : List Int} {b : Nat} {m : KV} (h : IR w v l) (hm : IM w b m) (hg : w.grownBy w' (some b)) : IR w' v l := by
 obtain ⟨A, c, e, hs⟩ := h
 refine ⟨A, c, e, ?_⟩
 rcases Nat.eq_zero_or_pos l.length with h0 | h0
 ·have : l = [] := List.eq_nil_of_length_eq_zero h0
  subst this
  exact Bk.Src.nil _ _
 ·exact hs.grown hg (fun a ha e => hm.src_ne hs h0 a ha (by injection e with e; exact e.symm))

def AddPost (b : Nat) (s l : List Int) (w : World) (en : Ending) (w' : World) : Prop :=
 en = .returned (.bool (decide (s.length < (insAll s l).length))) ∧ IM w' b (setKV (insAll s l)) ∧ w.grownBy w' (some b) ∧ w'.heap.size = w.heap.size
set_option maxRecDepth 100000 in
set_option maxHeartbeats 2000000 in
theorem Add_any (b : Nat) (s l : List Int) (v : Value) (w : World) (hm : IM w b (setKV s)) (hl : IR w v l) (hn : l.length ≤ 1152921504606846976) (hs : s.length ≤ 1000000) : Calls Tryz.prog 70 #[.map (some b), v] w (AddPost b s l w) := by
 obtain ⟨A, c, rfl⟩ := hl.shape
 have hlen := hm.len_run (P := Tryz.prog) Tryz.underlying113 3
 rw [setKV_len] at hlen
 have HM := Lib.hid hm
 have HL := Lib.hid hl
 obtain ⟨n, hnn⟩ : ∃ n, l.length = n := ⟨_, rfl⟩
 have HN := Lib.hid hnn
 rw [hnn] at HL hn ⊢
 obtain ⟨q, hq⟩ : ∃ q, s.length = q := ⟨_, rfl⟩
 rw [hq] at hlen hs
 have HQ := Lib.hid hq
 clear hm hl hnn hq
 go_enter Tryz.func70, Tryz.ntmps70
 go_wp2
 clear hlen
 go_loopw [12] (fun i wr => ∃ k : Nat, k ≤ n ∧ i = .int .i64 k ∧ Hid (IM wr b (setKV (insAll s (l.take k)))) ∧ Hid (w.grownBy wr (some b)) ∧ Hid (wr.heap.size = w.heap.size)) (fun i _ => n - (intOf i).toNat)
 case atStart => exact ⟨0, by omega, rfl, HM, Lib.hid (World.grownBy.refl _ _), Lib.hid rfl⟩
 case round =>
  obtain ⟨k, hk, rfl, IM1, IG, IZ⟩ := hrel
  by_cases hlt : k < n
  ·have hlt' : decide ((k : Int) < n) = true := by simp; omega
   have hlt2 : (k : Int) < n := by omega
   obtain ⟨x, hx⟩ : ∃ x, l[k]? = some x := ⟨_, List.getElem?_eq_getElem (by rw [HN.out]; exact hlt)⟩
   obtain ⟨ab, ao, rfl, hab, hcl⟩ := (IR.grown HL.out HM.out IG.out).cell hx
   have HX := Lib.hid hx
   clear hx
   go_wp2_with (at_mapUpdate; refine wp_upd _ rfl _ _ _ 113 rfl 3 4 Tryz.underlying113 Tryz.underlying3 b (setKV (insAll s (l.take k))) x (.bool true) rfl rfl rfl IM1.out ?_)
   rintro w2 h1 h2 h3
   rw [setKV_upd, ← insAll_snoc] at h1
   have e : l.take k ++ [x] = l.take (k + 1) := by
    obtain ⟨hk', e⟩ := List.getElem?_eq_some_iff.1 HX.out
    rw [List.take_succ_eq_append_getElem hk', e]
   rw [e] at h1
   have J1 := Lib.hid h1
   have J2 := Lib.hid (show w.grownBy w2 (some b) from by
    have g := IG.out
    refine ⟨h2.os.trans g.os, h2.tape.trans g.tape, h2.output.trans g.output, Nat.le_trans g.size h2.size, fun j hj hne => (h2.block j (Nat.lt_of_lt_of_le hj g.size) hne).trans (g.block j hj hne)⟩)
   have J3 := Lib.hid (h3.trans IZ.out)
   clear h1 h2 h3 e
   go_wp2
   exact ⟨⟨k + 1, by omega, by simp, J1, J2, J3⟩, by simp [intOf]; omega⟩
  ·have hlt' : decide ((k : Int) < n) = false := by simp; omega
   have e : l.take k = l := List.take_of_length_le (by rw [HN.out]; omega)
   have J1 := IM1.out
   rw [e] at J1
   have hl2 := J1.len_run (P := Tryz.prog) Tryz.underlying113 3
   rw [setKV_len] at hl2
   have HJ := Lib.hid J1
   obtain ⟨p, hp⟩ : ∃ p, (insAll s l).length = p := ⟨_, rfl⟩
   rw [hp] at hl2
   have HP := Lib.hid hp
   clear J1 e hp
   go_wp2
   go_ret
   unfold AddPost
   rw [HP.out, HQ.out]
   refine ⟨?_, HJ.out, IG.out, IZ.out⟩
   have e : decide ((q : Int) < (p : Int)) = decide (q < p) := by
    by_cases h : q < p
    ·rw [decide_eq_true h, decide_eq_true (by omega)]
    ·rw [decide_eq_false h, decide_eq_false (by omega)]
   rw [← e]; rfl

theorem sort_own (base g c : Nat) (zs : List Int) (w : World) (h : w.ownsRow base 3 1 (.slice (some ⟨g, 0, none⟩) zs.length c) zs.length (i64s zs)) (hz : zs.length < 4611686018427387904) :
  Calls Tryz.prog 106 #[.slice (some ⟨g, 0, none⟩) zs.length c] w fun e w' => e = .returned (.tuple #[]) ∧ w'.ownsRow base 3 1 (.slice (some ⟨g, 0, none⟩) zs.length c) zs.length (i64s (sortI zs)) ∧ w.grownBy w' (some g) := by
 refine (Tryz.slices_Sort_int g 0 c zs w (own_holds h) (h.lt g rfl).2 hz).mono ?_
 rintro e w' ⟨rfl, n, os, rfl⟩
 obtain ⟨h1, h2⟩ := own_put (ys := sortI zs) (sortI_len zs) h n os
 rw [sortI_len] at h1
 exact ⟨rfl, h1, h2⟩
/-- a set's places, rising -/
theorem sortI_set {s : List Int} (h : s.Nodup) : IsSet (sortI s) (fun x => x ∈ s) := by
 refine ⟨?_, fun x => sortI_mem s x⟩
 have h1 := sortI_rising s
 have h2 : (sortI s).Nodup := (List.mergeSort_perm s _).nodup_iff.2 h
 exact List.Pairwise.imp₂ (fun a b h1 h2 => by omega) h1 h2

def LiPost (s : List Int) (w : World) (e : Ending) (w' : World) : Prop :=
 ∃ P A c, e = .returned (.slice A P.length c) ∧ w'.ownsRow w.heap.size 3 1 (.slice A P.length c) P.length (i64s P) ∧ IsSet P (fun x => x ∈ s) ∧ P.length = s.length ∧ Below w.heap.size w w'
def LiRel (s : List Int) (bf : Nat) (w : World) (v : Value) (wr : World) : Prop :=
 ∃ (L : KV) (ks : List Int), IT wr bf w.heap.size (setKV s) L ∧ wr.ownsRow (w.heap.size + 1) 3 1 v ks.length (i64s ks) ∧ List.Perm (ks ++ L.map (·.1)) s ∧ Below w.heap.size w wr

set_option maxRecDepth 100000 in
set_option maxHeartbeats 4000000 in
theorem List_any (bf : Nat) (s : List Int) (w : World) (hf : IM w bf (setKV s)) (hs : s.Nodup) (hF : s.length ≤ 1000000) : Calls Tryz.prog 72 #[.map (some bf)] w (LiPost s w) := by
 have hbl := hf.lt
 have HF := Lib.hid hf
 have HS := Lib.hid hs
 clear hf hs
 go_enter Tryz.func72, Tryz.ntmps72
 go_wp2_with (at_range; refine wp_range _ rfl _ 113 rfl 3 4 Tryz.underlying113 bf (setKV s) rfl HF.out ?_)
 rintro w1 hI hg hz
 have HI := Lib.hid hI
 have HG := Lib.hid hg
 have HZ := Lib.hid hz
 clear hI hg hz
 go_wp2
 go_loopw [3] (fun v wr => LiRel s bf w v wr) (fun _ wr => wr.rangeLeft bf w.heap.size)
 case atStart =>
  refine ⟨setKV s, [], HI.out, World.ownsRow_nil _ _ _ _, ?_, below_grown (Below.refl _ _) HG.out (Nat.le_refl _) (by simp)⟩
  have e : (setKV s).map (·.1) = s := by simp [setKV, Function.comp_def]
  rw [e]
  exact List.Perm.refl _
 case round =>
  clear HI HG HZ
  obtain ⟨L, ks, hI, hO, hT, hB⟩ := hrel
  have II := Lib.hid hI
  have iO := Lib.hid hO
  have IT' := Lib.hid hT
  have IB := Lib.hid hB
  have hle := hI.left
  have HLE := Lib.hid hle
  have hpl := hT.length_eq
  simp at hpl
  clear hI hO hT hB hle
  go_wp2_with (at_next; refine wp_next _ rfl _ rfl bf w.heap.size (setKV s) L rfl II.out ?_ ?_)
  ·rintro rfl
   obtain ⟨A, c, hv, hc⟩ := own_shape iO.out
   subst hv
   have HP := Lib.hid (show List.Perm ks s by have := IT'.out; simpa using this)
   have hkl : ks.length = s.length := HP.out.length_eq
   have HKL := Lib.hid hkl
   have HN := Lib.hid (HP.out.nodup_iff.2 HS.out)
   rcases Nat.eq_zero_or_pos ks.length with h0 | h0
   ·have hk0 : ks = [] := List.eq_nil_of_length_eq_zero h0
    subst hk0
    clear hkl h0 hpl
    go_wp2_with fail
    refine (Tryz.slices_Sort_int_none A c _).mono ?_
    rintro e w2 ⟨rfl, rfl⟩
    go_wp2
    go_ret
    refine ⟨[], A, c, rfl, own_mono iO.out (by omega), ⟨by simp, fun x => ?_⟩, HKL.out, IB.out⟩
    exact HP.out.mem_iff
   ·obtain ⟨g, c', e, hgl, hge, hnc⟩ := own_at iO.out h0
    injection e with e1 e2 e3
    subst e1
    subst e3
    have hkb : ks.length < 4611686018427387904 := by omega
    clear hkl hpl
    go_wp2_with fail
    refine (sort_own (w.heap.size + 1) g c ks _ iO.out hkb).mono ?_
    rintro e w2 ⟨rfl, ho2, hg2⟩
    have IO2 := Lib.hid ho2
    have IB2 := Lib.hid (below_grown IB.out hg2 IB.out.size (fun k hk => by injection hk with hk; omega))
    clear ho2 hg2
    go_wp2
    go_ret
    have e := sortI_len ks
    have hst := sortI_set HN.out
    exact ⟨sortI ks, some ⟨g, 0, none⟩, c, by rw [e]; rfl, by rw [e]; exact own_mono IO2.out (by omega), ⟨hst.1, fun x => (hst.2 x).trans HP.out.mem_iff⟩, e.trans HKL.out, IB2.out⟩
  ·rintro L1 k v L2 w2 rfl hI2 hg2 hz2 hen
   have II2 := Lib.hid hI2
   have IO2 := Lib.hid (own_grown iO.out hg2 (fun g hg e => by have := (iO.out.lt g hg).1; injection e with e; omega))
   have IB2 := Lib.hid (below_grown IB.out hg2 IB.out.size (fun k hk => by injection hk with hk; omega))
   have hb2 := IB2.out.size
   have hlt2 := hI2.lt
   have hkl : ks.length < s.length := by simp at hpl; omega
   clear hI2 hg2 hz2 hpl
   go_wp2_with (at_builtin; refine append_at _ rfl (.tmp 11) (.tmp 13) 23 rfl (w.heap.size + 1) 3 (.int .i64 0) 1 8 Tryz.underlying23 info_int rfl (by omega) _ ks.length (i64s ks) rfl (own_alloc IO2.out _) (some ⟨w2.heap.size, 0, none⟩) 1 1 [.int .i64 k] rfl (src_one _ _ _) (one_int _ _) (by unfold maxLen; omega) (by omega) (by simp; omega) ?_)
   rintro v3 w3 h1 h2 h3 _
   have hne : ∀ g, u3.ownBlock = some g → w.heap.size + 1 ≤ g := fun g hg => (IO2.out.lt g hg).1
   have II3 := Lib.hid ((II2.out.alloc (.cells #[.int .i64 k] 3)).grown h2 (fun e => by have := hne _ e; omega) (fun e => by have := hne _ e; omega))
   have IB3 := Lib.hid (below_grown (IB2.out.alloc hb2 (.cells #[.int .i64 k] 3)) h2 (by simp; omega) (fun g hg => by have := hne g hg; omega))
   have IO3 := Lib.hid h1
   have HLE3 := Lib.hid II3.out.left
   clear h1 h2 h3 hne
   go_wp2
   go_roundw
   case rel =>
    refine ⟨L1 ++ L2, ks ++ [k], II3.out, ?_, ?_, IB3.out⟩
    ·rw [i64s_app, List.length_append]; exact IO3.out
    ·have h := IT'.out
     simp only [List.map_append, List.map_cons] at h ⊢
     refine List.Perm.trans ?_ h
     rw [List.append_assoc]
     refine List.Perm.append_left ks ?_
     simp only [List.singleton_append]
     exact List.perm_middle.symm
   case measure =>
    rw [HLE3.out, HLE.out]
    simp
end Go.Proofs.YtgmapikcpnffhaaGreat

/-
 live.lists: the places of sets, each rising.
 Conditions: the sets' blocks are known.
-/
import Derived.Test.YtgmapikcpnffhaaGreatLivSet
namespace Go.Proofs.YtgmapikcpnffhaaGreat
open Go.RowKit Go.Bk Go.Bk.Liv
set_option linter.unusedVariables false
set_option linter.unusedSimpArgs false

def mapsV (l : List Nat) : List Value := l.map fun b => Value.map (some b)
theorem mapsV_len (l : List Nat) : (mapsV l).length = l.length := by simp [mapsV]
/-- rows of numbers of one's own -/
def RowsOf (w : World) (base : Nat) (vs : List Value) (P : List (List Int)) : Prop := vs.length = P.length ∧ ∀ (i : Nat) u p, vs[i]? = some u → P[i]? = some p → w.ownsRow base 3 1 u p.length (i64s p)
theorem own_blk {w : World} {base n size : Nat} {t : TypeId} {v : Value} {xs : List Value} (h : w.ownsRow base t size v n xs) {g : Nat} (hg : v.ownBlock = some g) : ∃ cur, Blk w g t cur := by
 rcases h.2 with ⟨h1, _⟩ | ⟨g', cap, cur, h1, _, h3, _⟩
 ·subst h1; cases hg
 ·subst h1
  injection hg with hg
  subst hg
  exact ⟨cur, h3⟩
theorem RowsOf.grown {w w' : World} {base : Nat} {vs : List Value} {P : List (List Int)} {r : Option Nat} (h : RowsOf w base vs P) (hg : w.grownBy w' r) (hr : ∀ g cs, Blk w g 3 cs → r ≠ some g) : RowsOf w' base vs P :=
 ⟨h.1, fun i u p h1 h2 => own_grown (h.2 i u p h1 h2) hg (fun g hgg => by
  obtain ⟨cur, hb⟩ := own_blk (h.2 i u p h1 h2) hgg
  exact hr g cur hb)⟩
theorem RowsOf.push {w : World} {base : Nat} {vs : List Value} {P : List (List Int)} {u : Value} {p : List Int} (h : RowsOf w base vs P) (hu : w.ownsRow base 3 1 u p.length (i64s p)) : RowsOf w base (vs ++ [u]) (P ++ [p]) := by
 refine ⟨by simp [h.1], fun i x y h1 h2 => ?_⟩
 by_cases hi : i < P.length
 ·rw [List.getElem?_append_left (by rw [h.1]; exact hi)] at h1
  rw [List.getElem?_append_left hi] at h2
  exact h.2 i x y h1 h2
 ·rw [List.getElem?_append_right (by omega)] at h2
  rw [List.getElem?_append_right (by rw [h.1]; omega)] at h1
  have h0 : i - P.length = 0 := by
   have := (List.getElem?_eq_some_iff.1 h2).1
   simp at this
   omega
  rw [h.1, h0] at h1
  rw [h0] at h2
  simp at h1 h2
  subst h1
  subst h2
  exact hu

/-- lists in memory, of one's own: each a set -/
def LsPost (A : List (List Int)) (w : World) (e : Ending) (w' : World) : Prop :=
 ∃ v vs P, e = .returned v ∧ w'.ownsRow w.heap.size 23 1 v A.length vs ∧ RowsOf w' w.heap.size vs P ∧ P.length = A.length ∧ (∀ (i : Nat) s p, A[i]? = some s → P[i]? = some p → IsSet p (fun x => x ∈ s)) ∧ Below w.heap.size w w'

set_option maxRecDepth 100000 in
set_option maxHeartbeats 4000000 in
theorem lists_any (gA : Nat) (bA : List Nat) (A : List (List Int)) (w : World) (hb : Blk w gA 113 (mapsV bA).toArray) (hl : bA.length = A.length) (hm : ∀ (i : Nat) b s, bA[i]? = some b → A[i]? = some s → IM w b (setKV s))
  (hs : ∀ s ∈ A, s.Nodup ∧ s.length ≤ 1000000) (hn : A.length ≤ 1000000) : Calls Tryz.prog 71 #[.slice (some ⟨gA, 0, none⟩) A.length A.length] w (LsPost A w) := by
 have HB := Lib.hid hb
 have HL := Lib.hid hl
 have HM := Lib.hid hm
 have HS := Lib.hid hs
 obtain ⟨n, hnn⟩ : ∃ n, A.length = n := ⟨_, rfl⟩
 rw [hnn] at hn ⊢
 have HN := Lib.hid hnn
 clear hb hl hm hs hnn
 go_enter Tryz.func71, Tryz.ntmps71
 go_wp2
 go_loopw [3, 8] (fun v i wr => ∃ (k : Nat) (vs : List Value) (P : List (List Int)), k ≤ n ∧ i = .int .i64 k ∧ Hid (wr.ownsRow w.heap.size 23 1 v k vs) ∧ Hid (RowsOf wr w.heap.size vs P) ∧ Hid (P.length = k) ∧ Hid (∀ (i : Nat) s p, A[i]? = some s → P[i]? = some p → IsSet p (fun x => x ∈ s)) ∧ Hid (Below w.heap.size w wr)) (fun _ i _ => n - (intOf i).toNat)
 case atStart => exact ⟨0, [], [], by omega, rfl, Lib.hid (World.ownsRow_nil _ _ _ _), Lib.hid ⟨rfl, fun i u p h => by simp at h⟩, Lib.hid rfl, Lib.hid (fun i s p _ h => by simp at h), Lib.hid (Below.refl _ _)⟩
 case round =>
  obtain ⟨k, vs, P, hk, rfl, iO, IR', IP, IQ, IB⟩ := hrel
  obtain ⟨Av, cv, hv, _⟩ := own_shape iO.out
  subst hv
  by_cases hlt : k < n
  ·have hlt' : decide ((k : Int) < n) = true := by simp; omega
   have hlt2 : (k : Int) < n := by omega
   obtain ⟨s, hsk⟩ : ∃ s, A[k]? = some s := ⟨_, List.getElem?_eq_getElem (by rw [HN.out]; exact hlt)⟩
   obtain ⟨b, hbk⟩ : ∃ b, bA[k]? = some b := ⟨_, List.getElem?_eq_getElem (by rw [HL.out, HN.out]; exact hlt)⟩
   have c0 := (HB.out.below IB.out HB.out.lt).cell k
   have e0 : (mapsV bA).toArray[k]? = some (.map (some b)) := by simp [mapsV, hbk]
   rw [e0] at c0
   have HSK := Lib.hid hsk
   have HI := Lib.hid ((HM.out k b s hbk hsk).below IB.out (HM.out k b s hbk hsk).lt)
   have hsz := (HB.out.below IB.out HB.out.lt).lt
   have hbz := IB.out.size
   clear hsk hbk e0
   go_wp2_with fail
   refine (List_any b s _ HI.out (HS.out s (List.mem_of_getElem? HSK.out)).1 (HS.out s (List.mem_of_getElem? HSK.out)).2).mono ?_
   rintro en w1 ⟨p, A1, c1, rfl, ho, hset, hpl, hb1⟩
   have HO1 := Lib.hid (own_mono (base' := w.heap.size) ho hbz)
   have HSET := Lib.hid hset
   have IO1 := Lib.hid (own_below iO.out hb1 (Nat.le_refl _))
   have IR1 := Lib.hid (IR'.out.grown (below_grownBy hb1) (fun _ _ _ => by simp))
   have IB1 := Lib.hid (IB.out.trans (hb1.mono hbz))
   have hz1 := IB1.out.size
   obtain ⟨q, hq⟩ : ∃ q, p.length = q := ⟨_, rfl⟩
   rw [hq] at HO1 ⊢
   have HQ := Lib.hid hq
   clear ho hset hb1 hpl hq
   have IO2 := Lib.hid (own_alloc IO1.out (.cells #[.slice A1 q c1] 23))
   have IR2 := Lib.hid (IR1.out.grown (World.grownBy_alloc w1 (.cells #[.slice A1 q c1] 23) none) (fun _ _ _ => by simp))
   have IB2 := Lib.hid (IB1.out.alloc hz1 (.cells #[.slice A1 q c1] 23))
   have HO2 := Lib.hid (own_alloc HO1.out (.cells #[.slice A1 q c1] 23))
   go_wp2_with (at_builtin; refine append_at _ rfl (.tmp 12) (.tmp 15) 43 rfl w.heap.size 23 (.slice none 0 0) 1 24 Tryz.underlying43 info_ints rfl (by omega) (.slice Av k cv) k vs rfl IO2.out (some ⟨w1.heap.size, 0, none⟩) 1 1 [.slice A1 q c1] rfl (Blk.srcAll (cs := #[.slice A1 q c1]) (Blk.newAt _ _ _ rfl) rfl) (by intro u hu; obtain rfl := List.mem_singleton.1 hu; rfl) (by unfold maxLen; omega) (by omega) (by simp; omega) ?_)
   rintro v2 w2 h1 h2 h3 _
   have hr : ∀ g cs, Blk (w1.alloc (.cells #[.slice A1 q c1] 23)) g 3 cs → (Value.slice Av k cv).ownBlock ≠ some g := fun g cs hb => own_ne IO2.out hb (by decide)
   have IR3 := Lib.hid ((IR2.out.grown h2 hr).push (u := .slice A1 q c1) (p := p) (by
    rw [HQ.out]
    exact own_grown HO2.out h2 (fun g hg => by
     obtain ⟨cur, hb⟩ := own_blk HO2.out hg
     exact hr g cur hb)))
   have IB3 := Lib.hid (below_grown IB2.out h2 (by simp; omega) (fun j hj => (IO2.out.lt j hj).1))
   have IO3 := Lib.hid h1
   clear h1 h2 h3 hr
   go_wp2
   refine ⟨⟨k + 1, _, P ++ [p], by omega, by simp, IO3, IR3, Lib.hid (by simp [IP.out]), Lib.hid (fun i s' p' h1 h2 => ?_), IB3⟩, by simp [intOf]; omega⟩
   by_cases hi : i < P.length
   ·rw [List.getElem?_append_left hi] at h2
    exact IQ.out i s' p' h1 h2
   ·rw [List.getElem?_append_right (by omega)] at h2
    have h0 : i - P.length = 0 := by
     have := (List.getElem?_eq_some_iff.1 h2).1
     simp at this
     omega
    rw [h0] at h2
    simp at h2
    subst h2
    have hik : i = k := by have := IP.out; omega
    subst hik
    rw [HSK.out] at h1
    injection h1 with h1
    subst h1
    exact HSET.out
  ·have hlt' : decide ((k : Int) < n) = false := by simp; omega
   have hkn : k = n := by omega
   go_wp2
   go_ret
   unfold LsPost
   rw [HN.out]
   exact ⟨_, vs, P, rfl, hkn ▸ iO.out, IR'.out, IP.out.trans hkn, IQ.out, IB.out⟩
end Go.Proofs.YtgmapikcpnffhaaGreat

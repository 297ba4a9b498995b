/-
  Right: which moves may be done at once.
  Conditions: none but that the row's length is within a slice's.
-/
import Derived.Test.YtbnfhcdodejmhaaMovSrt
namespace Go.Bk.Mov
open Go
def isPlB (n : Int) : Bool := decide (0 ≤ n ∧ n < 4096)
def RightP (l : List Mv) : Prop := l.length ≤ 256 ∧ (∀ p ∈ l, isPlB p.1 = true ∧ isPlB p.2 = true) ∧ (tos l).Nodup
instance (l : List Mv) : Decidable (RightP l) := by unfold RightP; infer_instance
def rightB (l : List Mv) : Bool := decide (RightP l)
theorem RightP.fn {l : List Mv} (h : RightP l) : Mov.Fn l := h.2.2
/-- a set of places as a map -/
def bvs (L : List Int) : KV := L.map fun t => (t, .bool true)
theorem getM_bvs : ∀ (L : List Int) (k : Int), getM (bvs L) k = if k ∈ L then some (.bool true) else none
  | [], k => by simp [bvs, getM]
  | a :: r, k => by
    have := getM_bvs r k
    simp only [bvs] at this
    simp only [bvs, List.map_cons, getM, List.mem_cons]
    by_cases h : k = a
    · simp [h]
    · simp [h, this]
theorem updM_bvs : ∀ (L : List Int) (k : Int), k ∉ L → updM (bvs L) k (.bool true) = bvs (L ++ [k])
  | [], k, _ => rfl
  | a :: r, k, h => by
    simp only [List.mem_cons, not_or] at h
    have := updM_bvs r k h.2
    simp only [bvs] at this
    simp only [bvs, List.map_cons, updM, if_neg h.1, List.cons_append]
    rw [this]
end Go.Bk.Mov
namespace Go.Proofs.Ytbnfhcdodejmhaa
open Go.RowKit Go.Bk Go.Bk.Mov
set_option linter.unusedVariables false
set_option linter.unusedSimpArgs false
theorem zero_bool (w : World) : (zeroValue 4).run Try.prog w = .ok (.bool false) w := by kernel_rfl

theorem isPlace_any (n : Int) (w : World) : Calls Try.prog 23 #[.int .i64 n] w fun e w' => e = .returned (.bool (isPlB n)) ∧ w = w' := by
  by_cases h1 : 0 ≤ n
  · by_cases h2 : n < 4096
    · have e : isPlB n = true := by simp [isPlB, h1, h2]
      have HE := Lib.hid e
      clear e
      go_enter Try.func23, Try.ntmps23
      go_wp2
      go_ret
      exact ⟨by rw [HE.out]; rfl, rfl⟩
    · have e : isPlB n = false := by simp [isPlB, h2]
      have HE := Lib.hid e
      have h2' : decide (n < 4096) = false := by simpa using h2
      clear e
      go_enter Try.func23, Try.ntmps23
      go_wp2
      go_ret
      exact ⟨by rw [HE.out]; rfl, rfl⟩
  · have e : isPlB n = false := by simp [isPlB, h1]
    have HE := Lib.hid e
    have h2' : decide (0 ≤ n) = false := by simpa using h1
    clear e
    go_enter Try.func23, Try.ntmps23
    go_wp2
    go_ret
    exact ⟨by rw [HE.out]; rfl, rfl⟩

def RiRel (l : List Mv) (n : Nat) (w : World) (i : Value) (wr : World) : Prop :=
  ∃ k : Nat, k ≤ n ∧ i = .int .i64 k ∧ IM wr w.heap.size (bvs (tos (l.take k))) ∧ RightP (l.take k) ∧ Below w.heap.size w wr

theorem right_next {l : List Mv} {k : Nat} {p : Mv} (h : l[k]? = some p) (hk : l.length ≤ 256) (hr : RightP (l.take k)) (h1 : isPlB p.1 = true) (h2 : isPlB p.2 = true) (h3 : p.1 ∉ tos (l.take k)) : RightP (l.take (k + 1)) := by
  obtain ⟨hk', e⟩ := List.getElem?_eq_some_iff.1 h
  have ht : l.take (k + 1) = l.take k ++ [p] := by rw [List.take_succ_eq_append_getElem hk', e]
  obtain ⟨r1, r2, r3⟩ := hr
  rw [ht]
  refine ⟨by rw [← ht, List.length_take]; omega, fun q hq => ?_, ?_⟩
  · rcases List.mem_append.1 hq with hq | hq
    · exact r2 q hq
    · simp at hq; subst hq; exact ⟨h1, h2⟩
  · simp only [tos, List.map_append, List.map_cons, List.map_nil]
    rw [List.nodup_append]
    exact ⟨r3, by simp, fun a ha b hb => by simp at hb; subst hb; intro e; exact h3 (e ▸ ha)⟩
theorem right_not {l : List Mv} {k : Nat} {p : Mv} (h : l[k]? = some p) (hn : isPlB p.1 = false ∨ isPlB p.2 = false ∨ p.1 ∈ tos (l.take k)) : rightB l = false := by
  obtain ⟨hk', e⟩ := List.getElem?_eq_some_iff.1 h
  refine decide_eq_false ?_
  rintro ⟨_, r2, r3⟩
  have hp := r2 p (List.mem_of_getElem? h)
  rcases hn with hn | hn | hn
  · rw [hp.1] at hn; cases hn
  · rw [hp.2] at hn; cases hn
  · have hnd : (tos (l.take k ++ l.drop k)).Nodup := by rw [List.take_append_drop]; exact r3
    unfold tos at hnd hn
    rw [List.map_append, List.nodup_append] at hnd
    have hd : p ∈ l.drop k := by rw [List.drop_eq_getElem_cons hk', e]; simp
    exact hnd.2.2 p.1 hn p.1 (List.mem_map.2 ⟨_, hd, rfl⟩) rfl
theorem tos_take {l : List Mv} {k : Nat} {p : Mv} (h : l[k]? = some p) : tos (l.take (k + 1)) = tos (l.take k) ++ [p.1] := by
  obtain ⟨hk', e⟩ := List.getElem?_eq_some_iff.1 h
  rw [List.take_succ_eq_append_getElem hk', e]
  simp [tos]

set_option maxRecDepth 100000 in
set_option maxHeartbeats 4000000 in
theorem Right_any (A : Option Addr) (n c : Nat) (l : List Mv) (w : World) (hs : Bk.Src w A (n * 2) (mvV l)) (hm : n ≤ 9223372036854775807) :
    Calls Try.prog 10 #[.slice A n c] w fun e w' => e = .returned (.bool (rightB l)) ∧ Below w.heap.size w w' := by
  have hl : l.length = n := by have := hs.1; rw [mvV_len] at this; omega
  have hm1 : ∀ w, (Instr.makeMap 36 none).run Try.prog w = .ok (.map (some w.heap.size)) (w.alloc (.map #[] 0)) := fun w => by simp [Instr.makeMap]
  have HS := Lib.hid hs
  have HL := Lib.hid hl
  clear hs hl
  have H0 := Lib.hid (IM.new w)
  go_enter Try.func10, Try.ntmps10
  go_wp2
  go_loopw [9] (fun i wr => RiRel l n w i wr) (fun i _ => n - (intOf i).toNat)
  case atStart => exact ⟨0, by omega, rfl, H0.out, ⟨by simp, by simp, by simp [tos]⟩, (Below.refl _ _).alloc (Nat.le_refl _) _⟩
  case round =>
    obtain ⟨k, hk, rfl, hI, hR, hB⟩ := hrel
    have II := Lib.hid hI
    have IR := Lib.hid hR
    have IB := Lib.hid hB
    clear hI hR hB H0
    by_cases hlt : k < n
    · have hlt' : decide ((k : Int) < n) = true := by simp; omega
      have hlt2 : (k : Int) < n := by omega
      obtain ⟨ab, ao, rfl, hab⟩ := HS.out.addr (by omega)
      obtain ⟨p, hp⟩ : ∃ p, l[k]? = some p := ⟨_, List.getElem?_eq_getElem (by rw [HL.out]; exact hlt)⟩
      obtain ⟨t, f⟩ := p
      obtain ⟨c0, c1⟩ := mv_cells (HS.out.below IB.out (Nat.le_refl _)) hp
      have hz : ab < wr.heap.size := Nat.lt_of_lt_of_le hab IB.out.size
      have HP := Lib.hid hp
      have hbz := IB.out.size
      have hml := II.out.lt
      clear hp
      by_cases hbig : 256 < n
      · have hbig' : decide ((256 : Int) < n) = true := by simp; omega
        have HE := Lib.hid (show rightB l = false from decide_eq_false (fun h => by have := h.1; rw [HL.out] at this; omega))
        go_wp2
        go_ret
        exact ⟨by rw [HE.out]; rfl, IB.out.alloc hbz _⟩
      · have hbig' : decide ((256 : Int) < n) = false := by simp; omega
        have hlk := ((II.out.alloc (.cells #[.int .i64 t, .int .i64 f] 38)).lookup (P := Try.prog) Try.underlying36 Try.underlying3 (zero_bool _) t).1
        rw [getM_bvs] at hlk
        cases h1 : isPlB t with
        | false =>
          have HE := Lib.hid (right_not HP.out (.inl h1))
          clear hlk
          go_wp2_with (go_at_call 23; refine (isPlace_any _ _).mono ?_; rintro e w1 ⟨rfl, rfl⟩)
          go_ret
          exact ⟨by rw [HE.out]; rfl, IB.out.alloc hbz _⟩
        | true =>
          cases h2 : isPlB f with
          | false =>
            have HE := Lib.hid (right_not HP.out (.inr (.inl h2)))
            clear hlk
            go_wp2_with (go_at_call 23; refine (isPlace_any _ _).mono ?_; rintro e w1 ⟨rfl, rfl⟩)
            go_ret
            exact ⟨by rw [HE.out]; rfl, IB.out.alloc hbz _⟩
          | true =>
            by_cases h3 : t ∈ tos (l.take k)
            · have HE := Lib.hid (right_not HP.out (.inr (.inr h3)))
              rw [if_pos h3] at hlk
              simp only [Option.getD_some] at hlk
              clear h3
              go_wp2_with (go_at_call 23; refine (isPlace_any _ _).mono ?_; rintro e w1 ⟨rfl, rfl⟩)
              go_ret
              exact ⟨by rw [HE.out]; rfl, IB.out.alloc hbz _⟩
            · rw [if_neg h3] at hlk
              simp only [Option.getD_none] at hlk
              have HN := Lib.hid h3
              have HR := Lib.hid (right_next HP.out (by rw [HL.out]; omega) IR.out h1 h2 h3)
              clear h3
              go_wp2_with (first | (go_at_call 23; refine (isPlace_any _ _).mono ?_; rintro e w1 ⟨rfl, rfl⟩) | (at_mapUpdate; refine wp_upd _ rfl _ _ _ 36 rfl 3 4 Try.underlying36 Try.underlying3 w.heap.size (bvs (tos (l.take k))) t (.bool true) rfl rfl rfl (II.out.alloc _) ?_))
              rintro W2 hm2 hg2 hz2
              rw [updM_bvs _ _ HN.out, ← tos_take HP.out] at hm2
              have IM2 := Lib.hid hm2
              have IB2 := Lib.hid (below_grown (IB.out.alloc hbz (.cells #[.int .i64 t, .int .i64 f] 38)) hg2 (by simp; omega) (fun k hk => by injection hk with hk; omega))
              clear hm2 hg2 hz2 hlk
              go_wp2
              go_roundw
              case rel => exact ⟨k + 1, by omega, by simp, IM2.out, HR.out, IB2.out⟩
              case measure => simp [intOf]; omega
    · have hlt' : decide ((k : Int) < n) = false := by simp; omega
      have HE := Lib.hid (show rightB l = true from decide_eq_true (by have := IR.out; rwa [List.take_of_length_le (by rw [HL.out]; omega)] at this))
      go_wp2
      go_ret
      exact ⟨by rw [HE.out]; rfl, IB.out⟩
end Go.Proofs.Ytbnfhcdodejmhaa

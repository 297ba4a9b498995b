/-
  The reference's Fits and Least, and the statements' alive.
  Conditions: none but that the row's length is within a slice's.
-/
import Derived.Test.YtbnfhcdodejmhaaMovRow
import Derived.Test.YtbnfhcdodejmhaaMovRef
import Derived.Test.YtbnfhcdodejmhaaMovDoes
namespace Go.Proofs.Ytbnfhcdodejmhaa
open Go.RowKit Go.Bk Go.Bk.Mov
set_option linter.unusedVariables false
set_option linter.unusedSimpArgs false

/-- a row of moves that came in -/
def MvIn (w : World) (a : Option Addr) (len cap : Nat) (l : List Mv) : Prop := Bk.Src w a (len * 2) (mvV l) ∧ len ≤ cap ∧ (a = none → len = 0 ∧ cap = 0)
theorem MvIn.len {w : World} {a : Option Addr} {len cap : Nat} {l : List Mv} (h : MvIn w a len cap l) : l.length = len := by
  have := h.1.1; rw [mvV_len] at this; omega
theorem pairs_src {w : World} {a : Addr} {V0 V1 : Nat → Value} {m : Nat} (hc : ∀ i, i < m → w.cell? (a.add (i * 2)) = some (V0 i) ∧ w.cell? (a.add (i * 2 + 1)) = some (V1 i) ∧ (∃ x : Int, V0 i = .int .i64 x) ∧ ∃ y : Int, V1 i = .int .i64 y) :
    ∀ len, len ≤ m → ∃ l : List Mv, l.length = len ∧ Bk.Src w (some a) (len * 2) (mvV l)
  | 0, _ => ⟨[], rfl, by rw [Nat.zero_mul]; exact Bk.Src.nil _ _⟩
  | len + 1, h => by
    obtain ⟨l, h1, h2⟩ := pairs_src hc len (by omega)
    obtain ⟨c0, c1, ⟨x, hx⟩, ⟨y, hy⟩⟩ := hc len (by omega)
    rw [hx] at c0
    rw [hy] at c1
    have c00 := (hc 0 (by omega)).1
    rw [show a.add (0 * 2) = a by simp [Addr.add]] at c00
    obtain ⟨hs, hb⟩ := cell_some c00
    obtain ⟨ab, ao, asp⟩ := a
    have hsp : asp = none := hs
    subst hsp
    rw [Addr.add_lit] at c0 c1
    refine ⟨l ++ [(x, y)], by simp [h1], ?_⟩
    rw [mvV_app]
    refine ⟨by rw [List.length_append, mvV_len, h1]; simp [mvV]; omega, fun _ => ⟨ab, ao, rfl, hb, fun j u hu => ?_⟩⟩
    have hml : (mvV l).length = len * 2 := by rw [mvV_len, h1]
    by_cases hj : j < len * 2
    · rw [List.getElem?_append_left (by omega)] at hu
      obtain ⟨b', o', e, _, hcc⟩ := h2.2 (by omega)
      injection e with e
      injection e with e1 e2
      subst e1
      subst e2
      exact hcc j u hu
    · rw [List.getElem?_append_right (by omega), hml] at hu
      simp only [mvV] at hu
      rcases (show j - len * 2 = 0 ∨ j - len * 2 = 1 ∨ 2 ≤ j - len * 2 by omega) with e | e | e
      · rw [e] at hu
        simp at hu
        rw [← hu, show j = len * 2 by omega]
        exact c0
      · rw [e] at hu
        simp at hu
        rw [← hu, show ao + j = ao + (len * 2 + 1) by omega]
        exact c1
      · rw [List.getElem?_eq_none (by simpa using e)] at hu
        cases hu

set_option maxRecDepth 100000 in
set_option maxHeartbeats 2000000 in
theorem Fits_any (A : Option Addr) (n c : Nat) (l : List Mv) (spare : Int) (w : World) (hs : Bk.Src w A (n * 2) (mvV l)) (hm : n ≤ 9223372036854775807) :
    Calls Try.prog 21 #[.slice A n c, .int .i64 spare] w fun e w' => e = .returned (.bool (fitsB l spare)) ∧ Below w.heap.size w w' := by
  have hl : l.length = n := by have := hs.1; rw [mvV_len] at this; omega
  have HS := Lib.hid hs
  have HL := Lib.hid hl
  clear hs hl
  cases hr : rightB l with
  | false =>
    have HR := Lib.hid hr
    have HF := Lib.hid (show fitsB l spare = false by simp [fitsB, hr])
    clear hr
    go_enter Try.func21, Try.ntmps21
    go_wp2_with fail
    refine (RRight_any A n c l _ HS.out hm).mono ?_
    rintro e w1 ⟨rfl, hb1⟩
    rw [HR.out]
    have HB := Lib.hid hb1
    clear hb1
    go_wp2
    go_ret
    exact ⟨by rw [HF.out]; rfl, HB.out⟩
  | true =>
    have HR := Lib.hid hr
    clear hr
    cases hp : isPlB spare with
    | false =>
      have HF := Lib.hid (show fitsB l spare = false by simp [fitsB, hp])
      go_enter Try.func21, Try.ntmps21
      go_wp2_with fail
      refine (RRight_any A n c l _ HS.out hm).mono ?_
      rintro e w1 ⟨rfl, hb1⟩
      rw [HR.out]
      have HB := Lib.hid hb1
      clear hb1
      go_wp2_with (go_at_call 24; refine (place_any _ _).mono ?_; rintro e w1 ⟨rfl, rfl⟩)
      go_ret
      exact ⟨by rw [HF.out]; rfl, HB.out⟩
    | true =>
      have HFE := Lib.hid (show fitsB l spare = !l.any (hitB spare) by simp only [fitsB, hp, HR.out]; rfl)
      go_enter Try.func21, Try.ntmps21
      go_wp2_with fail
      refine (RRight_any A n c l _ HS.out hm).mono ?_
      rintro e w1 ⟨rfl, hb1⟩
      rw [HR.out]
      have HB := Lib.hid hb1
      clear hb1
      go_wp2_with (go_at_call 24; refine (place_any _ _).mono ?_; rintro e w1 ⟨rfl, rfl⟩)
      go_loop [5] (fun i => ∃ k : Nat, k ≤ n ∧ i = .int .i64 k ∧ Hid ((l.take k).any (hitB spare) = false)) (fun i => n - (intOf i).toNat)
      case atStart => exact ⟨0, by omega, rfl, Lib.hid rfl⟩
      case round =>
        obtain ⟨k, hk, rfl, IA⟩ := hrel
        by_cases hlt : k < n
        · have hlt' : decide ((k : Int) < n) = true := by simp; omega
          have hlt2 : (k : Int) < n := by omega
          obtain ⟨ab, ao, rfl, hab⟩ := HS.out.addr (by omega)
          obtain ⟨p, hp'⟩ : ∃ p, l[k]? = some p := ⟨_, List.getElem?_eq_getElem (by rw [HL.out]; exact hlt)⟩
          obtain ⟨t, f⟩ := p
          obtain ⟨c0, c1⟩ := mv_cells (HS.out.below HB.out (Nat.le_refl _)) hp'
          have HP := Lib.hid hp'
          clear hp'
          cases h1 : (t == spare) with
          | true =>
            have HF := Lib.hid (show fitsB l spare = false by rw [HFE.out, any_hit HP.out (show hitB spare (t, f) = true by simp [hitB, h1])]; rfl)
            go_wp2
            go_ret
            exact ⟨by rw [HF.out]; rfl, HB.out⟩
          | false =>
            cases h2 : (f == spare) with
            | true =>
              have HF := Lib.hid (show fitsB l spare = false by rw [HFE.out, any_hit HP.out (show hitB spare (t, f) = true by simp [hitB, h1, h2])]; rfl)
              go_wp2
              go_ret
              exact ⟨by rw [HF.out]; rfl, HB.out⟩
            | false =>
              have HN := Lib.hid (show hitB spare (t, f) = false by simp [hitB, h1, h2])
              go_wp2
              exact ⟨⟨k + 1, by omega, by simp, Lib.hid (any_take HP.out IA.out HN.out)⟩, by simp [intOf]; omega⟩
        · have hlt' : decide ((k : Int) < n) = false := by simp; omega
          have HF := Lib.hid (show fitsB l spare = true by have := IA.out; rw [List.take_of_length_le (by rw [HL.out]; omega)] at this; rw [HFE.out, this]; rfl)
          go_wp2
          go_ret
          exact ⟨by rw [HF.out]; rfl, HB.out⟩

def LeastPost (l : List Mv) (w : World) (e : Ending) (w' : World) : Prop := ∃ r : Nat, e = .returned (.int .i64 ((r + (nontriv l).length : Nat) : Int)) ∧ (rightB l = true → RC l r) ∧ Below w.heap.size w w'
set_option maxRecDepth 100000 in
set_option maxHeartbeats 2000000 in
theorem Least_any (A : Option Addr) (n c : Nat) (l : List Mv) (w : World) (hs : Bk.Src w A (n * 2) (mvV l)) (hm : n ≤ 140737488355328) : Calls Try.prog 22 #[.slice A n c] w (LeastPost l w) := by
  have hl : l.length = n := by have := hs.1; rw [mvV_len] at this; omega
  have HS := Lib.hid hs
  have HL := Lib.hid hl
  clear hs hl
  go_enter Try.func22, Try.ntmps22
  go_wp2_with fail
  refine (RRings_any A n c l _ HS.out (by omega)).mono ?_
  rintro e w1 ⟨r, rfl, _, hr2, hr3, hb1⟩
  have HR := Lib.hid hr2
  have HB1 := Lib.hid hb1
  clear hr2 hb1
  go_wp2
  go_loopw [3, 4] (fun v i wr => ∃ k : Nat, k ≤ n ∧ i = .int .i64 k ∧ v = .int .i64 ((r + (nontriv (l.take k)).length : Nat) : Int) ∧ Hid (Below w.heap.size w wr)) (fun _ i _ => n - (intOf i).toNat)
  case atStart => exact ⟨0, by omega, rfl, by simp [nontriv], HB1⟩
  case round =>
    obtain ⟨k, hk, rfl, rfl, IB⟩ := hrel
    by_cases hlt : k < n
    · have hlt' : decide ((k : Int) < n) = true := by simp; omega
      have hlt2 : (k : Int) < n := by omega
      obtain ⟨ab, ao, rfl, hab⟩ := HS.out.addr (by omega)
      obtain ⟨p, hp'⟩ : ∃ p, l[k]? = some p := ⟨_, List.getElem?_eq_getElem (by rw [HL.out]; exact hlt)⟩
      obtain ⟨t, f⟩ := p
      obtain ⟨c0, c1⟩ := mv_cells (HS.out.below IB.out (Nat.le_refl _)) hp'
      have HP := Lib.hid hp'
      have hnl := nontriv_len l k
      rw [HL.out] at hnl
      obtain ⟨q, hq⟩ : ∃ q, r + (nontriv (l.take k)).length = q := ⟨_, rfl⟩
      have hqb : q ≤ 140737488355328 + 256 := by omega
      rw [hq]
      have HQ := Lib.hid hq
      clear hp' hq hnl
      by_cases he : t = f
      · have he' : (t != f) = false := by simp [he]
        have HN := Lib.hid (nontriv_no HP.out he)
        clear he
        go_wp2_with fail
        go_quiet (fail)
        go_wp2
        exact ⟨⟨k + 1, by omega, by simp, by rw [HN.out, HQ.out], Lib.hid (below_drewN IB.out _)⟩, by simp [intOf]; omega⟩
      · have he' : (t != f) = true := by simp [he]
        have HN := Lib.hid (nontriv_yes HP.out he)
        clear he
        go_wp2_with fail
        go_quiet (fail)
        go_wp2
        exact ⟨⟨k + 1, by omega, by simp, by rw [HN.out, List.length_append, ← Nat.add_assoc, HQ.out]; simp, Lib.hid (below_drewN IB.out _)⟩, by simp [intOf]; omega⟩
    · have hlt' : decide ((k : Int) < n) = false := by simp; omega
      have HN := Lib.hid (show nontriv (l.take k) = nontriv l by rw [List.take_of_length_le (by rw [HL.out]; omega)])
      go_wp2
      go_ret
      exact ⟨r, by rw [HN.out]; rfl, HR.out, IB.out⟩

/-- the two moves that alive tries -/
def twoL : List Mv := [(0, 1), (1, 0)]
theorem two_rc : RC twoL 1 := by
  have r0 : Mov.Reach twoL 0 0 := .step (b := 1) (by simp [twoL]) (.one (by simp [twoL]))
  have hk : ∀ {a b : Int}, Mov.Reach twoL a b → (a = 0 ∨ a = 1) ∧ (b = 0 ∨ b = 1) := by
    intro a b h
    obtain ⟨c, hc⟩ := h.key
    obtain ⟨d, hd⟩ := h.last
    simp [twoL] at hc hd
    omega
  refine ⟨[0], by simp, fun t => ?_, rfl⟩
  simp only [List.mem_singleton]
  constructor
  · rintro rfl
    exact ⟨r0, by simp [twoL], fun x hx => by have := (hk hx).2; omega⟩
  · rintro ⟨h1, h2, h3⟩
    have := (hk h1).1
    rcases this with e | e
    · exact e
    · subst e
      have := h3 0 (.one (by simp [twoL]))
      omega
theorem RowOk.rc {l k : List Mv} {spare : Int} (h : RowOk l spare k) : ∃ n, RC l n ∧ k.length = (nontriv l).length + n ∧ ∀ m, m ∈ k → Okp l spare n m.1 ∧ Okp l spare n m.2 := by
  obtain ⟨n, hI⟩ := h
  obtain ⟨j, k1, k2⟩ := hI.rc
  have h0 : RC [] 0 := ⟨[], by simp, fun t => ⟨fun h => by simp at h, fun h => by obtain ⟨c, hc⟩ := h.1.key; simp at hc⟩, rfl⟩
  have : j = 0 := k1.one h0
  subst this
  exact ⟨n, by simpa using k2, by have := hI.len; simpa using this, hI.ask⟩
theorem RowOk.len {l k : List Mv} {spare : Int} (h : RowOk l spare k) {r : Nat} (hr : RC l r) : k.length = (nontriv l).length + r := by
  obtain ⟨n, h1, h2, _⟩ := h.rc
  rw [hr.one h1]; exact h2
theorem src_lit2 {w : World} {N : Nat} (hN : w.heap.size = N) (x y : Nat) : Bk.Src (w.alloc (.cells #[.int .u64 (x : Int), .int .u64 (y : Int)] 34)) (some ⟨N, 0, none⟩) 2 (u64W [x, y]) :=
  (Blk.newAt w 34 #[.int .u64 (x : Int), .int .u64 (y : Int)] hN).srcAll rfl

set_option maxRecDepth 100000 in
set_option maxHeartbeats 4000000 in
theorem alive_any (w : World) : Calls Try.prog 14 #[] w fun e w' => e = .returned (.bool true) ∧ Below w.heap.size w w' := by
  have b0 := Lib.hid (show Below w.heap.size w (w.alloc (.cells #[.int .i64 0, .int .i64 1, .int .i64 1, .int .i64 0] 38)) from (Below.refl _ _).alloc (Nat.le_refl _) _)
  have HS0 := Lib.hid (show Bk.Src (w.alloc (.cells #[.int .i64 0, .int .i64 1, .int .i64 1, .int .i64 0] 38)) (some ⟨w.heap.size, 0, none⟩) (2 * 2) (mvV twoL) from (Blk.new w 38 #[.int .i64 0, .int .i64 1, .int .i64 1, .int .i64 0]).srcAll rfl)
  go_enter Try.func14, Try.ntmps14
  go_wp2_with fail
  refine (Row_any _ 2 2 twoL 9 _ HS0.out (by omega)).mono ?_
  rintro e w1 (⟨hf, _⟩ | ⟨hf, k, A1, c1, rfl, ho1, hk, hb1⟩)
  · exact absurd hf (by decide)
  have hkl : k.length = 3 := hk.len two_rc
  rw [hkl]
  have HB1 := Lib.hid (b0.out.trans (hb1.mono (by simp)))
  have HS1 := Lib.hid (HS0.out.below hb1 (Nat.le_refl _))
  clear hf ho1 hk hb1 hkl
  go_wp2_with fail
  refine (Rings_any _ 2 2 twoL _ HS1.out (by omega)).mono ?_
  rintro e w2 ⟨r, rfl, _, hr, hb2⟩
  have hr1 : r = 1 := (hr (by decide)).one two_rc
  subst hr1
  have HB2 := Lib.hid (HB1.out.trans (hb2.mono HB1.out.size))
  have HS2 := Lib.hid (HS1.out.below hb2 (Nat.le_refl _))
  clear hr hb2
  go_wp2_with fail
  refine (Right_any _ 2 2 twoL _ HS2.out (by omega)).mono ?_
  rintro e w3 ⟨rfl, hb3⟩
  rw [show rightB twoL = true by decide]
  have HB3 := Lib.hid (HB2.out.trans (hb3.mono HB2.out.size))
  have HS3 := Lib.hid (HS2.out.below hb3 (Nat.le_refl _))
  clear hb3
  go_wp2_with fail
  refine (AtOnce_any _ _ 2 2 2 2 twoL [5, 6] _ (HS3.out.alloc _) (by omega) (src_lit2 rfl 5 6) (by simp) (by omega)).mono ?_
  rintro e w4 ⟨A4, c4, rfl, ho4, hb4⟩
  have HB4 := Lib.hid ((HB3.out.alloc HB3.out.size (.cells #[.int .u64 5, .int .u64 6] 34)).trans (hb4.mono (by have := HB3.out.size; simp; omega)))
  have HS4 := Lib.hid ((HS3.out.alloc (.cells #[.int .u64 5, .int .u64 6] 34)).below hb4 (Nat.le_refl _))
  have HO4 := Lib.hid (Bk.Src.of_own ho4)
  clear ho4 hb4
  go_wp2_with fail
  refine (Words_eq _ _ 2 _ 2 [6, 5] _ (HO4.out.alloc _) (src_lit2 rfl 6 5) (by omega)).mono ?_
  rintro e w5 ⟨rfl, hb5⟩
  have HB5 := Lib.hid ((HB4.out.alloc HB4.out.size (.cells #[.int .u64 6, .int .u64 5] 34)).trans (hb5.mono (by have := HB4.out.size; simp; omega)))
  have HS5 := Lib.hid ((HS4.out.alloc (.cells #[.int .u64 6, .int .u64 5] 34)).below hb5 (Nat.le_refl _))
  clear hb5
  go_wp2_with fail
  refine (Do_any _ _ 2 2 2 2 twoL [5, 6] _ (HS5.out.alloc _) (by omega) (src_lit2 rfl 5 6) (by simp) (by omega)).mono ?_
  rintro e w6 ⟨A6, c6, rfl, ho6, hb6⟩
  have HB6 := Lib.hid ((HB5.out.alloc HB5.out.size (.cells #[.int .u64 5, .int .u64 6] 34)).trans (hb6.mono (by have := HB5.out.size; simp; omega)))
  have HO6 := Lib.hid (Bk.Src.of_own ho6)
  clear ho6 hb6
  go_wp2_with fail
  refine (Words_eq _ _ 2 _ 2 [6, 6] _ (HO6.out.alloc _) (src_lit2 rfl 6 6) (by omega)).mono ?_
  rintro e w7 ⟨rfl, hb7⟩
  have HB7 := Lib.hid ((HB6.out.alloc HB6.out.size (.cells #[.int .u64 6, .int .u64 6] 34)).trans (hb7.mono (by have := HB6.out.size; simp; omega)))
  clear hb7
  go_wp2
  go_ret
  exact ⟨rfl, HB7.out⟩
end Go.Proofs.Ytbnfhcdodejmhaa

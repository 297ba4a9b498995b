/-
  Row: moves one behind the other; Rings: how many rings there are.
  Conditions: none but that the row's length is within a slice's.
-/
import Derived.Test.YtbnfhcdodejmhaaMovRg
import Derived.Test.YtbnfhcdodejmhaaMovRight
namespace Go.Bk.Mov
open Go
def hitB (spare : Int) (p : Mv) : Bool := (p.1 == spare) || (p.2 == spare)
theorem any_take {l : List Mv} {k : Nat} {p : Mv} {q : Mv → Bool} (h : l[k]? = some p) (h1 : (l.take k).any q = false) (h2 : q p = false) : (l.take (k + 1)).any q = false := by
  obtain ⟨hk', e⟩ := List.getElem?_eq_some_iff.1 h
  rw [List.take_succ_eq_append_getElem hk', e, List.any_append, h1]
  simp [h2]
theorem any_hit {l : List Mv} {k : Nat} {p : Mv} {q : Mv → Bool} (h : l[k]? = some p) (h2 : q p = true) : l.any q = true := List.any_eq_true.2 ⟨p, List.mem_of_getElem? h, h2⟩
end Go.Bk.Mov
namespace Go.Proofs.Ytbnfhcdodejmhaa
open Go.RowKit Go.Bk Go.Bk.Mov
set_option linter.unusedVariables false
set_option linter.unusedSimpArgs false

theorem row1_any (t f spare : Int) (bs : Nat) (w : World) (hc : w.cell? ⟨bs, 0, none⟩ = some (.int .i64 spare)) (hb : bs < w.heap.size) :
    Calls Try.prog 32 #[.agg #[.int .i64 t, .int .i64 f], .pointer (some ⟨bs, 0, none⟩)] w fun e w' => e = .returned (.bool (hitB spare (t, f))) ∧ Below w.heap.size w w' := by
  cases h1 : (t == spare) with
  | true =>
    have HE := Lib.hid (show hitB spare (t, f) = true by simp [hitB, h1])
    go_enter Try.func32, Try.ntmps32
    go_wp2
    go_ret
    exact ⟨by rw [HE.out]; rfl, (Below.refl _ _).alloc (Nat.le_refl _) _⟩
  | false =>
    cases h2 : (f == spare) with
    | true =>
      have HE := Lib.hid (show hitB spare (t, f) = true by simp [hitB, h1, h2])
      go_enter Try.func32, Try.ntmps32
      go_wp2
      go_ret
      exact ⟨by rw [HE.out]; rfl, (Below.refl _ _).alloc (Nat.le_refl _) _⟩
    | false =>
      have HE := Lib.hid (show hitB spare (t, f) = false by simp [hitB, h1, h2])
      go_enter Try.func32, Try.ntmps32
      go_wp2
      go_ret
      exact ⟨by rw [HE.out]; rfl, (Below.refl _ _).alloc (Nat.le_refl _) _⟩

def IxPost (l : List Mv) (spare : Int) (w : World) (e : Ending) (w' : World) : Prop := ∃ r : Int, e = .returned (.int .i64 r) ∧ decide (0 ≤ r) = l.any (hitB spare) ∧ Below w.heap.size w w'
set_option maxRecDepth 100000 in
set_option maxHeartbeats 2000000 in
theorem index_any (A : Option Addr) (n c : Nat) (l : List Mv) (spare : Int) (bs : Nat) (w : World) (hs : Bk.Src w A (n * 2) (mvV l)) (hm : n ≤ 9223372036854775807) (hc : w.cell? ⟨bs, 0, none⟩ = some (.int .i64 spare)) (hb : bs < w.heap.size) :
    Calls Try.prog 36 #[.slice A n c, .func (.func 32) #[] #[.pointer (some ⟨bs, 0, none⟩)]] w (IxPost l spare w) := by
  have hl : l.length = n := by have := hs.1; rw [mvV_len] at this; omega
  have HS := Lib.hid hs
  have HL := Lib.hid hl
  clear hs hl
  go_enter Try.func36, Try.ntmps36
  go_wp2
  go_loopw [8] (fun i wr => ∃ k : Nat, k ≤ n ∧ i = .int .i64 k ∧ Hid ((l.take k).any (hitB spare) = false) ∧ Hid (Below w.heap.size w wr)) (fun i _ => n - (intOf i).toNat)
  case atStart => exact ⟨0, by omega, rfl, Lib.hid rfl, Lib.hid (Below.refl _ _)⟩
  case round =>
    obtain ⟨k, hk, rfl, IA, IB⟩ := hrel
    by_cases hlt : k < n
    · have hlt' : decide ((k : Int) < n) = true := by simp; omega
      have hlt2 : (k : Int) < n := by omega
      obtain ⟨ab, ao, rfl, hab⟩ := HS.out.addr (by omega)
      obtain ⟨p, hp⟩ : ∃ p, l[k]? = some p := ⟨_, List.getElem?_eq_getElem (by rw [HL.out]; exact hlt)⟩
      obtain ⟨t, f⟩ := p
      obtain ⟨c0, c1⟩ := mv_cells (HS.out.below IB.out (Nat.le_refl _)) hp
      have HP := Lib.hid hp
      have HC := Lib.hid ((IB.out.cell (p := ⟨bs, 0, none⟩) hb).trans hc)
      have hbz := IB.out.size
      clear hp
      cases hh : hitB spare (t, f) with
      | true =>
        have HH := Lib.hid hh
        clear hh
        go_wp2_with fail
        refine (row1_any t f spare bs _ HC.out (by omega)).mono ?_
        rintro e w1 ⟨rfl, hb1⟩
        rw [HH.out]
        have IB1 := Lib.hid (IB.out.trans (hb1.mono hbz))
        clear hb1
        go_wp2
        go_ret
        exact ⟨k, rfl, by rw [any_hit HP.out HH.out]; simp, IB1.out⟩
      | false =>
        have HH := Lib.hid hh
        clear hh
        go_wp2_with fail
        refine (row1_any t f spare bs _ HC.out (by omega)).mono ?_
        rintro e w1 ⟨rfl, hb1⟩
        rw [HH.out]
        have IB1 := Lib.hid (IB.out.trans (hb1.mono hbz))
        clear hb1
        go_wp2
        exact ⟨⟨k + 1, by omega, by simp, Lib.hid (any_take HP.out IA.out HH.out), IB1⟩, by simp [intOf]; omega⟩
    · have hlt' : decide ((k : Int) < n) = false := by simp; omega
      go_wp2
      go_ret
      refine ⟨-1, rfl, ?_, IB.out⟩
      have := IA.out
      rw [List.take_of_length_le (by rw [HL.out]; omega)] at this
      rw [this]; rfl

theorem contains_any (A : Option Addr) (n c : Nat) (l : List Mv) (spare : Int) (bs : Nat) (w : World) (hs : Bk.Src w A (n * 2) (mvV l)) (hm : n ≤ 9223372036854775807) (hc : w.cell? ⟨bs, 0, none⟩ = some (.int .i64 spare)) (hb : bs < w.heap.size) :
    Calls Try.prog 31 #[.slice A n c, .func (.func 32) #[] #[.pointer (some ⟨bs, 0, none⟩)]] w fun e w' => e = .returned (.bool (l.any (hitB spare))) ∧ Below w.heap.size w w' := by
  have HS := Lib.hid hs
  have HC := Lib.hid hc
  clear hs hc
  go_enter Try.func31, Try.ntmps31
  go_wp2_with fail
  refine (index_any A n c l spare bs _ HS.out hm HC.out hb).mono ?_
  rintro e w1 ⟨r, rfl, hr, hb1⟩
  have HR := Lib.hid hr
  have HB := Lib.hid hb1
  clear hr hb1
  go_wp2
  go_ret
  exact ⟨by rw [← HR.out]; rfl, HB.out⟩

/-- may moves be laid one behind the other, with this spare place? -/
def fitsB (l : List Mv) (spare : Int) : Bool := rightB l && (isPlB spare && !l.any (hitB spare))
theorem fits_spare {l : List Mv} {spare : Int} (h : fitsB l spare = true) : RightP l ∧ spare ∉ tos l ∧ spare ∉ froms l ∧ isPlB spare = true := by
  simp only [fitsB, Bool.and_eq_true, Bool.not_eq_true', List.any_eq_false] at h
  obtain ⟨h1, h2, h3⟩ := h
  refine ⟨of_decide_eq_true h1, fun hh => ?_, fun hh => ?_, h2⟩
  · obtain ⟨f, hf⟩ := of_tos hh
    exact h3 _ hf (by simp [hitB])
  · obtain ⟨f, hf⟩ := of_froms hh
    exact h3 _ hf (by simp [hitB])

/-- what Row answers: moves that do what moves at once do, one for each, and one more for each ring -/
def RowOk (l : List Mv) (spare : Int) (k : List Mv) : Prop := ∃ n, SInv l [] k spare n
def RowPost (l : List Mv) (spare : Int) (w : World) (e : Ending) (w' : World) : Prop :=
  (fitsB l spare = false ∧ e = .returned (.tuple #[.slice none 0 0, .int .i64 1]) ∧ Below w.heap.size w w') ∨
  (fitsB l spare = true ∧ ∃ (k : List Mv) (A : Option Addr) (c : Nat), e = .returned (.tuple #[.slice A k.length c, .int .i64 0]) ∧ w'.ownsRow w.heap.size 38 2 (.slice A k.length c) k.length (mvV k) ∧ RowOk l spare k ∧ Below w.heap.size w w')

theorem srt_below {w w' : World} {base sb bf ba : Nat} {F Ak out : List Mv} {ov : Value} (h : Srt w base sb bf ba F Ak out ov) (hb : Below w.heap.size w w') : Srt w' base sb bf ba F Ak out ov :=
  { h with blk := h.blk.below hb h.blk.lt, f := h.f.below hb h.f.lt, a := h.a.below hb h.a.lt, out := own_below h.out hb (Nat.le_refl _) }
theorem fr_start {l F Ak : List Mv} {spare : Int} {w w' : World} {base sb bf ba : Nat} {ov : Value} {P : List Int} {A : Option Addr} {c : Nat} (hS : Srt w base sb bf ba F Ak [] ov) (hI : SInv l F [] spare 0) (hA : AskOk Ak F)
    (hP : w'.ownsRow w.heap.size 3 1 (.slice A P.length c) P.length (i64s P)) (hT : ∀ t, t ∈ P ↔ t ∈ tos F) (hl : P.length ≤ 256) (hb : Below w.heap.size w w') : FrRel l spare w' base sb bf ba (.slice A P.length c) w' := by
  have hz : base ≤ w.heap.size := Nat.le_trans hS.lsb (Nat.le_of_lt hS.blk.lt)
  have h1 := hS.blk.lt
  have h2 := hS.f.lt
  have h3 := hS.a.lt
  refine ⟨F, Ak, [], ov, P, A, c, rfl, srt_below hS hb, own_mono hP hz, ?_, ?_, ?_, fun g hg => ?_, ⟨hI, hA, fun t ht _ => (hT t).2 ht⟩, Below.refl _ _, Nat.le_trans hz hb.size, hl⟩
  · intro e; have := (hP.lt _ e).1; omega
  · intro e; have := (hP.lt _ e).1; omega
  · intro e; have := (hP.lt _ e).1; omega
  · intro e; have := (hP.lt _ hg).1; have := (hS.out.lt _ e).2; omega

set_option maxRecDepth 100000 in
set_option maxHeartbeats 4000000 in
theorem Row_any (A : Option Addr) (n c : Nat) (l : List Mv) (spare : Int) (w : World) (hs : Bk.Src w A (n * 2) (mvV l)) (hm : n ≤ 9223372036854775807) : Calls Try.prog 20 #[.slice A n c, .int .i64 spare] w (RowPost l spare w) := by
  have hl : l.length = n := by have := hs.1; rw [mvV_len] at this; omega
  have HL := Lib.hid hl
  have b0 := Lib.hid (show Below w.heap.size w (w.alloc (.cells #[.int .i64 spare] 3)) from (Below.refl _ _).alloc (Nat.le_refl _) _)
  have HS0 := Lib.hid (hs.below b0.out (Nat.le_refl _))
  have hx0 : (w.alloc (.cells #[.int .i64 spare] 3)).cell? ⟨w.heap.size, 0, none⟩ = some (.int .i64 spare) := by simp
  have HX0 := Lib.hid hx0
  clear hs hl hx0
  cases hr : rightB l with
  | false =>
    have HR := Lib.hid hr
    have HF := Lib.hid (show fitsB l spare = false by simp [fitsB, hr])
    clear hr
    go_enter Try.func20, Try.ntmps20
    go_wp2_with fail
    refine (Right_any A n c l _ HS0.out hm).mono ?_
    rintro e w1 ⟨rfl, hb1⟩
    rw [HR.out]
    have HB := Lib.hid (b0.out.trans (hb1.mono (by simp)))
    clear hb1
    go_wp2
    go_ret2
    exact .inl ⟨HF.out, rfl, HB.out⟩
  | true =>
    have HR := Lib.hid hr
    clear hr
    cases hp : isPlB spare with
    | false =>
      have HF := Lib.hid (show fitsB l spare = false by simp [fitsB, hp])
      go_enter Try.func20, Try.ntmps20
      go_wp2_with fail
      refine (Right_any A n c l _ HS0.out hm).mono ?_
      rintro e w1 ⟨rfl, hb1⟩
      rw [HR.out]
      have HB := Lib.hid (b0.out.trans (hb1.mono (by simp)))
      have hx := (hb1.cell (p := ⟨w.heap.size, 0, none⟩) (by simp)).trans HX0.out
      clear hb1
      go_wp2_with (go_at_call 23; refine (isPlace_any _ _).mono ?_; rintro e w1 ⟨rfl, rfl⟩)
      go_ret2
      exact .inl ⟨HF.out, rfl, HB.out⟩
    | true =>
      cases hh : l.any (hitB spare) with
      | true =>
        have HH := Lib.hid hh
        have HF := Lib.hid (show fitsB l spare = false by simp only [fitsB, hh, hp]; simp)
        clear hh
        go_enter Try.func20, Try.ntmps20
        go_wp2_with fail
        refine (Right_any A n c l _ HS0.out hm).mono ?_
        rintro e w1 ⟨rfl, hb1⟩
        rw [HR.out]
        have HB := Lib.hid (b0.out.trans (hb1.mono (by simp)))
        have HS1 := Lib.hid (HS0.out.below hb1 (Nat.le_refl _))
        have hx := (hb1.cell (p := ⟨w.heap.size, 0, none⟩) (by simp)).trans HX0.out
        have hxz : w.heap.size < w1.heap.size := by have := hb1.size; simp at this; omega
        clear hb1
        go_wp2_with (go_at_call 23; refine (isPlace_any _ _).mono ?_; rintro e w1 ⟨rfl, rfl⟩)
        refine (contains_any A n c l spare w.heap.size _ HS1.out hm hx hxz).mono ?_
        rintro e w2 ⟨rfl, hb2⟩
        rw [HH.out]
        have HB2 := Lib.hid (HB.out.trans (hb2.mono HB.out.size))
        clear hb2
        go_wp2
        go_ret2
        exact .inl ⟨HF.out, rfl, HB2.out⟩
      | false =>
        have HH := Lib.hid hh
        have HF := Lib.hid (show fitsB l spare = true by simp only [fitsB, hh, hp, HR.out]; rfl)
        have HRP := Lib.hid (show RightP l from of_decide_eq_true HR.out)
        have hn2 : n ≤ 256 := by have := HRP.out.1; rw [HL.out] at this; exact this
        obtain ⟨kc, hkc⟩ := rc_exists HRP.out.fn
        have HI0 := Lib.hid (SInv.start HRP.out.fn (spare := spare) hkc)
        clear hh hkc
        go_enter Try.func20, Try.ntmps20
        go_wp2_with fail
        refine (Right_any A n c l _ HS0.out hm).mono ?_
        rintro e w1 ⟨rfl, hb1⟩
        rw [HR.out]
        have HB := Lib.hid (b0.out.trans (hb1.mono (by simp)))
        have HS1 := Lib.hid (HS0.out.below hb1 (Nat.le_refl _))
        have hx := (hb1.cell (p := ⟨w.heap.size, 0, none⟩) (by simp)).trans HX0.out
        have hxz : w.heap.size < w1.heap.size := by have := hb1.size; simp at this; omega
        clear hb1
        go_wp2_with (go_at_call 23; refine (isPlace_any _ _).mono ?_; rintro e w1 ⟨rfl, rfl⟩)
        refine (contains_any A n c l spare w.heap.size _ HS1.out hm hx hxz).mono ?_
        rintro e w2 ⟨rfl, hb2⟩
        rw [HH.out]
        have HB2 := Lib.hid (HB.out.trans (hb2.mono HB.out.size))
        have HS2 := Lib.hid (HS1.out.below hb2 (Nat.le_refl _))
        have HX2 := Lib.hid ((hb2.cell (p := ⟨w.heap.size, 0, none⟩) hxz).trans hx)
        have hz2 := hb2.size
        clear hb2 hx
        go_wp2_with fail
        refine (begin_any A n c l _ HS2.out HRP.out.fn hn2).mono ?_
        rintro e w3 ⟨sb, bf, ba, Ak, rfl, hS3, hA3, hb3⟩
        have HS3 := Lib.hid hS3
        have HA3 := Lib.hid hA3
        have HB3 := Lib.hid hb3
        have hz3 := hb3.size
        clear hS3 hA3 hb3
        have hnl := nt_len l
        have hll := HRP.out.1
        go_wp2_with fail
        refine (places_any sb bf ba (nontriv l) _ _ HS3.out.blk HS3.out.f (by omega)).mono ?_
        rintro e w4 ⟨P, A4, c4, rfl, hP4, hT4, hw4, hl4, hb4⟩
        have hF4 := fr_start HS3.out HI0.out HA3.out hP4 hT4 (by omega) hb4
        have HF4 := Lib.hid hF4
        have HB4 := Lib.hid (HB3.out.trans (hb4.mono HB3.out.size))
        clear hP4 hT4 hw4 hl4 hb4 hF4
        go_wp2_with fail
        refine (free_any l spare w2.heap.size sb bf ba A4 P.length c4 _ HRP.out.fn hll HF4.out).mono ?_
        rintro e w5 ⟨F5, Ak5, out5, ov5, rfl, hS5, hI5, hR5, hb5⟩
        have HS5 := Lib.hid hS5
        have HI5 := Lib.hid hI5
        have HR5 := Lib.hid hR5
        have HB5 := Lib.hid (HB4.out.trans hb5)
        have hx5 := (HB5.out.cell (p := ⟨w.heap.size, 0, none⟩) (show w.heap.size < w2.heap.size by omega)).trans HX2.out
        clear hS5 hI5 hR5 hb5
        go_wp2_with fail
        refine (rings_any l spare w2.heap.size sb bf ba F5 Ak5 out5 ov5 _ HRP.out.fn hll HS5.out HI5.out HR5.out).mono ?_
        rintro e w6 ⟨n6, Ak6, out6, ov6, rfl, hS6, hI6, hb6⟩
        obtain ⟨A6, c6, hov, _⟩ := own_shape hS6.out
        subst hov
        have s2 := hS6.cells.2.2
        have HS6 := Lib.hid hS6
        have HI6 := Lib.hid hI6
        have HB6 := Lib.hid (HB2.out.trans ((HB5.out.trans hb6).mono HB2.out.size))
        clear hS6 hI6 hb6 hx5
        go_wp2
        go_ret2
        exact .inr ⟨HF.out, out6, A6, c6, rfl, own_mono HS6.out.out (by omega), ⟨n6, HI6.out⟩, HB6.out⟩

def RingsPost (l : List Mv) (w : World) (e : Ending) (w' : World) : Prop := ∃ k : Nat, e = .returned (.int .i64 k) ∧ (rightB l = false → k = 0) ∧ (rightB l = true → RC l k) ∧ Below w.heap.size w w'
set_option maxRecDepth 100000 in
set_option maxHeartbeats 4000000 in
theorem Rings_any (A : Option Addr) (n c : Nat) (l : List Mv) (w : World) (hs : Bk.Src w A (n * 2) (mvV l)) (hm : n ≤ 9223372036854775807) : Calls Try.prog 12 #[.slice A n c] w (RingsPost l w) := by
  have hl : l.length = n := by have := hs.1; rw [mvV_len] at this; omega
  have HL := Lib.hid hl
  have HS0 := Lib.hid hs
  clear hs hl
  cases hr : rightB l with
  | false =>
    have HR := Lib.hid hr
    clear hr
    go_enter Try.func12, Try.ntmps12
    go_wp2_with fail
    refine (Right_any A n c l _ HS0.out hm).mono ?_
    rintro e w1 ⟨rfl, hb1⟩
    rw [HR.out]
    have HB := Lib.hid hb1
    clear hb1
    go_wp2
    go_ret
    exact ⟨0, rfl, fun _ => rfl, (fun h => by rw [HR.out] at h; cases h), HB.out⟩
  | true =>
    have HR := Lib.hid hr
    clear hr
    have HRP := Lib.hid (show RightP l from of_decide_eq_true HR.out)
    have hn2 : n ≤ 256 := by have := HRP.out.1; rw [HL.out] at this; exact this
    obtain ⟨kc, hkc⟩ := rc_exists HRP.out.fn
    have HI0 := Lib.hid (SInv.start HRP.out.fn (spare := 0) hkc)
    clear hkc
    go_enter Try.func12, Try.ntmps12
    go_wp2_with fail
    refine (Right_any A n c l _ HS0.out hm).mono ?_
    rintro e w2 ⟨rfl, hb1⟩
    rw [HR.out]
    have HB2 := Lib.hid hb1
    have HS2 := Lib.hid (HS0.out.below hb1 (Nat.le_refl _))
    clear hb1
    go_wp2_with fail
    refine (begin_any A n c l _ HS2.out HRP.out.fn hn2).mono ?_
    rintro e w3 ⟨sb, bf, ba, Ak, rfl, hS3, hA3, hb3⟩
    have HS3 := Lib.hid hS3
    have HA3 := Lib.hid hA3
    have HB3 := Lib.hid hb3
    clear hS3 hA3 hb3
    have hnl := nt_len l
    have hll := HRP.out.1
    go_wp2_with fail
    refine (places_any sb bf ba (nontriv l) _ _ HS3.out.blk HS3.out.f (by omega)).mono ?_
    rintro e w4 ⟨P, A4, c4, rfl, hP4, hT4, hw4, hl4, hb4⟩
    have hF4 := fr_start HS3.out HI0.out HA3.out hP4 hT4 (by omega) hb4
    have HF4 := Lib.hid hF4
    have HB4 := Lib.hid (HB3.out.trans (hb4.mono HB3.out.size))
    clear hP4 hT4 hw4 hl4 hb4 hF4
    go_wp2_with fail
    refine (free_any l 0 w2.heap.size sb bf ba A4 P.length c4 _ HRP.out.fn hll HF4.out).mono ?_
    rintro e w5 ⟨F5, Ak5, out5, ov5, rfl, hS5, hI5, hR5, hb5⟩
    have HS5 := Lib.hid hS5
    have HI5 := Lib.hid hI5
    have HR5 := Lib.hid hR5
    have HB5 := Lib.hid (HB4.out.trans hb5)
    clear hS5 hI5 hR5 hb5
    go_wp2_with fail
    refine (rings_any l 0 w2.heap.size sb bf ba F5 Ak5 out5 ov5 _ HRP.out.fn hll HS5.out HI5.out HR5.out).mono ?_
    rintro e w6 ⟨n6, Ak6, out6, ov6, rfl, hS6, hI6, hb6⟩
    have HI6 := Lib.hid hI6
    have HB6 := Lib.hid (HB2.out.trans ((HB5.out.trans hb6).mono HB2.out.size))
    clear hS6 hI6 hb6
    go_wp2
    go_ret
    refine ⟨n6, rfl, (fun h => by rw [HR.out] at h; cases h), fun _ => ?_, HB6.out⟩
    obtain ⟨k, k1, k2⟩ := HI6.out.rc
    have h0 : RC [] 0 := ⟨[], by simp, fun t => ⟨fun h => by simp at h, fun h => by obtain ⟨c, hc⟩ := h.1.key; simp at hc⟩, rfl⟩
    have : k = 0 := k1.one h0
    subst this
    simpa using k2
end Go.Proofs.Ytbnfhcdodejmhaa

/-
  What moves leave: the program's Do and AtOnce; and whether two rows of numbers are the same.
  Conditions: the rows are within a slice's reach.
-/
import Derived.Test.YtbnfhcdodejmhaaMovDo
namespace Go.Proofs.Ytbnfhcdodejmhaa
open Go.RowKit Go.Bk Go.Bk.Mov
set_option linter.unusedVariables false
set_option linter.unusedSimpArgs false

set_option maxHeartbeats 800000 in
theorem clone_u64 (A : Option Addr) (n c : Nat) (h : List Nat) (w : World) (hs : Bk.Src w A n (u64W h)) (hA : A = none → n = 0 ∧ c = 0) (hn : n * 8 ≤ 140737488355328) :
    Calls Try.prog 34 #[.slice A n c] w fun e w' => ∃ v, e = .returned v ∧ w'.ownsRow w.heap.size 34 1 v n (u64W h) ∧ Below w.heap.size w w' := by
  have q22 : ∀ (w : World) (a : Option Addr) (n c n' c' : Nat), (binOp .eql 26 (.slice a n c) (.slice none n' c')).run Try.prog w = .ok (.bool a.isNone) w := fun w a n c n' c' => Lib.run_eql_slice_nil w 26 34 a n c n' c' Try.underlying26
  rcases A with _ | ⟨b, o, sp⟩
  · obtain ⟨rfl, rfl⟩ := hA rfl
    have hm : h = [] := by have := hs.1; simpa [u64W] using this
    subst hm
    clear hA hs
    go_enter Try.func34, Try.ntmps34
    go_wp2
    go_ret
    exact ⟨_, rfl, World.ownsRow_nil _ _ _ _, Below.refl _ _⟩
  · have HS := Lib.hid (hs.below (w' := w.alloc (.cells #[] 34)) ((Below.refl _ _).alloc (Nat.le_refl _) _) (Nat.le_refl _))
    clear hs hA
    go_enter Try.func34, Try.ntmps34
    go_wp2_with (at_builtin; refine append_own _ rfl _ (.tmp 6) 26 rfl w.heap.size 34 (.int .u64 0) 8 Try.underlying26 info_u64 rfl _ 0 [] rfl (World.ownsRow_lit w #[] 0 (Nat.le_refl _) (by unfold maxLen; omega) rfl) _ n c (u64W h) rfl HS.out (u64W_one _) (by unfold maxLen; omega) (by omega) (by simp) ?_)
    rintro v' w' ho hb
    have HO := Lib.hid ho
    have HB := Lib.hid hb
    clear ho hb
    go_wp2
    go_ret
    refine ⟨_, rfl, ?_, ((Below.refl _ _).alloc (Nat.le_refl _) _).trans HB.out⟩
    have := HO.out
    simpa using this

def thereB (m : Nat) (x : Int) : Bool := decide (0 ≤ x ∧ x < m)
theorem does1_any (x : Int) (bh : Nat) (B : Option Addr) (m d : Nat) (w : World) (hc : w.cell? ⟨bh, 0, none⟩ = some (.slice B m d)) (hb : bh < w.heap.size) (hm : m ≤ 9223372036854775807) :
    Calls Try.prog 35 #[.int .i64 x, .pointer (some ⟨bh, 0, none⟩)] w fun e w' => e = .returned (.bool (thereB m x)) ∧ w = w' := by
  by_cases h1 : 0 ≤ x
  · obtain ⟨xn, rfl⟩ := Int.eq_ofNat_of_zero_le h1
    by_cases h2 : xn < m
    · have HE := Lib.hid (show thereB m xn = true by simp [thereB]; omega)
      go_enter Try.func35, Try.ntmps35
      go_wp2
      go_ret
      refine ⟨?_, rfl⟩
      rw [HE.out]
      first | rfl | simp [h2]
    · have HE := Lib.hid (show thereB m xn = false by simp [thereB]; omega)
      go_enter Try.func35, Try.ntmps35
      go_wp2
      go_ret
      refine ⟨?_, rfl⟩
      rw [HE.out]
      first | rfl | simp [h2]
  · have HE := Lib.hid (show thereB m x = false by simp [thereB]; omega)
    have h1' : decide (0 ≤ x) = false := by simpa using h1
    go_enter Try.func35, Try.ntmps35
    go_wp2
    go_ret
    refine ⟨?_, rfl⟩
    rw [HE.out]
    rfl
-- does
theorem there_in {m : Nat} {t f : Int} : (thereB m t && thereB m f) = inR m (t, f) := by
  rw [Bool.eq_iff_iff]
  simp [thereB, inR]
  omega
set_option maxRecDepth 100000 in
set_option maxHeartbeats 8000000 in
theorem doesF_any (A B : Option Addr) (n c m d : Nat) (l : List Mv) (h : List Nat) (w : World) (hs : Bk.Src w A (n * 2) (mvV l)) (hn : n ≤ 9223372036854775807) (hh : Bk.Src w B m (u64W h)) (hB : B = none → m = 0 ∧ d = 0) (hm : m * 8 ≤ 140737488355328) :
    Calls Try.prog 30 #[.slice A n c, .slice B m d, .bool false] w (WPost (doL l h) w) := by
  have hl : l.length = n := by have := hs.1; rw [mvV_len] at this; omega
  have hhl : h.length = m := by have := hh.1; rw [u64W_len] at this; exact this
  have HS := Lib.hid hs
  have HH := Lib.hid (hh.alloc (.cells #[.slice B m d] 26))
  have HL := Lib.hid hl
  have HHL := Lib.hid hhl
  have b0 := Lib.hid (show Below w.heap.size w (w.alloc (.cells #[.slice B m d] 26)) from (Below.refl _ _).alloc (Nat.le_refl _) _)
  have HBX := Lib.hid (Blk.new w 26 #[.slice B m d])
  have HBN := Lib.hid hB
  have HSB := Lib.hid (show ∀ bb bo, B = some ⟨bb, bo, none⟩ → 0 < m → bb < w.heap.size from fun bb bo e h0 => by
    obtain ⟨b', o', e', h1⟩ := hh.addr h0
    rw [e] at e'; injection e' with e'; injection e' with e'; subst e'; exact h1)
  clear hs hh hl hhl hB
  go_enter Try.func30, Try.ntmps30
  go_wp2_with fail
  refine (clone_u64 B m d h _ HH.out HBN.out hm).mono ?_
  rintro e w0 ⟨v0, rfl, ho0, hb0⟩
  obtain ⟨A0, c0, hv0, _⟩ := own_shape ho0
  subst hv0
  have HO0 := Lib.hid (own_mono ho0 (show w.heap.size + 1 ≤ (w.alloc (.cells #[.slice B m d] 26)).heap.size by simp))
  have HBX0 := Lib.hid (HBX.out.below hb0 (by simp))
  have HH0 := Lib.hid (HH.out.below hb0 (Nat.le_refl _))
  have hz0 : w.heap.size + 1 ≤ w0.heap.size := by have := hb0.size; simpa using this
  have HB0 := Lib.hid (b0.out.trans (hb0.mono (by simp)))
  have y0 : w0.cell? ⟨w.heap.size, 0, none⟩ = some (.slice B m d) := by have := HBX0.out.cell 0; simpa using this
  clear ho0 hb0
  go_wp2
  go_loopw [20] (fun i wr => ∃ k : Nat, k ≤ n ∧ i = .int .i64 k ∧ Hid (wr.ownsRow (w.heap.size + 1) 34 1 (.slice A0 m c0) m (u64W (doL (l.take k) h))) ∧ Hid (Blk wr w.heap.size 26 #[.slice B m d]) ∧ Hid (Bk.Src wr B m (u64W h)) ∧ Hid (Below w.heap.size w wr)) (fun i _ => n - (intOf i).toNat)
  case atStart => exact ⟨0, by omega, rfl, HO0, HBX0, HH0, HB0⟩
  case round =>
    obtain ⟨k, hk, rfl, iO, IX, IH, IB⟩ := hrel
    clear HO0 HB0 HBX0 HH0 y0 HH HBX b0
    by_cases hlt : k < n
    · have hlt' : decide ((k : Int) < n) = true := by simp; omega
      have hlt2 : (k : Int) < n := by omega
      obtain ⟨ab, ao, rfl, hab⟩ := HS.out.addr (by omega)
      obtain ⟨p, hp⟩ : ∃ p, l[k]? = some p := ⟨_, List.getElem?_eq_getElem (by rw [HL.out]; exact hlt)⟩
      obtain ⟨t, f⟩ := p
      obtain ⟨c0', c1'⟩ := mv_cells (HS.out.below IB.out (Nat.le_refl _)) hp
      have hbz := IB.out.size
      have hxz := IX.out.lt
      have HP := Lib.hid hp
      have HLN := Lib.hid (show (doL (l.take k) h).length = m by rw [doL_len]; exact HHL.out)
      have HST := Lib.hid (show doL (l.take (k + 1)) h = do1 (doL (l.take k) h) (t, f) from foldl_take hp)
      have HC := Lib.hid (show (wr.alloc (.cells #[.int .i64 t, .int .i64 f] 38)).cell? ⟨w.heap.size, 0, none⟩ = some (.slice B m d) by have := (IX.out.alloc (.cells #[.int .i64 t, .int .i64 f] 38)).cell 0; simpa using this)
      have hmb : m ≤ 9223372036854775807 := by omega
      clear hp
      by_cases hgo : inR m (t, f) = true
      · have h12 := there_in (m := m) (t := t) (f := f)
        rw [hgo, Bool.and_eq_true] at h12
        obtain ⟨H1, H2⟩ := h12
        have hin := of_decide_eq_true hgo
        obtain ⟨tn, htn⟩ := Int.eq_ofNat_of_zero_le hin.1
        obtain ⟨fn, hfn⟩ := Int.eq_ofNat_of_zero_le hin.2.2.1
        simp only at htn hfn
        subst htn
        subst hfn
        have ht : tn < m := by have := hin.2.1; simp at this; omega
        have hf : fn < m := by have := hin.2.2.2; simp at this; omega
        have H1' := Lib.hid H1
        have H2' := Lib.hid H2
        have HEQ := Lib.hid (show doL (l.take (k + 1)) h = (doL (l.take k) h).set tn ((doL (l.take k) h).getD fn 0) by rw [HST.out]; exact at1_yes (by rw [HLN.out]; exact hgo))
        clear hgo hin H1 H2
        obtain ⟨g, cc, e, hgl, hge, _⟩ := own_at iO.out (by omega)
        injection e with e1 e2 e3
        subst e1
        subst e3
        obtain ⟨bb, bo, rfl, hbb⟩ := IH.out.addr (by omega)
        have ht2 : (tn : Int) < m := by omega
        have hf2 : (fn : Int) < m := by omega
        go_wp2_with fail
        refine (does1_any (tn : Int) w.heap.size _ m d _ HC.out (by simp; omega) hmb).mono ?_
        rintro e w2 ⟨rfl, rfl⟩
        rw [H1'.out]
        go_wp2_with fail
        refine (does1_any (fn : Int) w.heap.size _ m d _ HC.out (by simp; omega) hmb).mono ?_
        rintro e w2 ⟨rfl, rfl⟩
        rw [H2'.out]
        have JO := Lib.hid (own_alloc iO.out (.cells #[.int .i64 (tn : Int), .int .i64 (fn : Int)] 38))
        have JX := Lib.hid (IX.out.alloc (.cells #[.int .i64 (tn : Int), .int .i64 (fn : Int)] 38))
        have JH := Lib.hid (IH.out.alloc (.cells #[.int .i64 (tn : Int), .int .i64 (fn : Int)] 38))
        have JB := Lib.hid (IB.out.alloc hbz (.cells #[.int .i64 (tn : Int), .int .i64 (fn : Int)] 38))
        have JM := Lib.hid (Blk.new wr 38 #[.int .i64 (tn : Int), .int .i64 (fn : Int)])
        clear c0' c1' HC
        go_wp2
        generalize wr.alloc (.cells #[.int .i64 (tn : Int), .int .i64 (fn : Int)] 38) = W1 at JO JX JH JB JM ⊢
        have z0 := JM.out.cell 0
        have z1 := JM.out.cell 1
        simp at z0 z1
        have x0 := (Bk.Src.of_own JO.out).at_ (k := fn) hf
        rw [u64W_at (by rw [HLN.out]; exact hf)] at x0
        simp only [Nat.zero_add] at x0
        have x1 := (Bk.Src.of_own JO.out).at_ (k := tn) ht
        rw [u64W_at (by rw [HLN.out]; exact ht)] at x1
        simp only [Nat.zero_add] at x1
        have x2 : W1.frozen? ⟨g, tn, none⟩ = false := own_frozen JO.out
        obtain ⟨v, hv⟩ : ∃ v, (doL (l.take k) h).getD fn 0 = v := ⟨_, rfl⟩
        rw [hv] at x0
        have HV := Lib.hid hv
        clear hv
        go_still_tail 9, (by kernel_rfl)
        change wpList _ _ _ _ _ W1.drew
        have IO2 := Lib.hid (own_store (k := tn) (own_drew JO.out) v)
        rw [← HV.out, ← HEQ.out] at IO2
        rw [HV.out] at IO2
        have IX2 := Lib.hid (blk_other (k := tn) (u := .int .u64 (v : Int)) JX.out.drew (show w.heap.size ≠ g by omega))
        have IH2 := Lib.hid (Bk.Src.setCell (p := ⟨g, tn, none⟩) JH.out.drew (.int .u64 (v : Int)) (fun a ha => by injection ha with ha; subst ha; show bb ≠ g; have := HSB.out bb bo rfl (by omega); omega))
        have IB2 := Lib.hid (JB.out.drew.setCell (p := ⟨g, tn, none⟩) (show w.heap.size ≤ g by omega) (.int .u64 (v : Int)))
        clear HST
        go_wp2
        exact ⟨⟨k + 1, by omega, by simp, IO2, IX2, IH2, IB2⟩, by simp [intOf]; omega⟩
      · have hgo' : inR m (t, f) = false := by simpa using hgo
        have h12 := there_in (m := m) (t := t) (f := f)
        rw [hgo'] at h12
        have HEQ := Lib.hid (show doL (l.take (k + 1)) h = doL (l.take k) h by rw [HST.out]; exact at1_no (by rw [HLN.out]; exact hgo'))
        clear hgo hgo'
        cases hA1 : thereB m t with
        | false =>
          have H1' := Lib.hid hA1
          clear hA1 h12
          go_wp2_with fail
          refine (does1_any t w.heap.size _ m d _ HC.out (by simp; omega) hmb).mono ?_
          rintro e w2 ⟨rfl, rfl⟩
          rw [H1'.out]
          go_wp2
          exact ⟨⟨k + 1, by omega, by simp, by rw [HEQ.out]; exact Lib.hid (own_alloc iO.out _), Lib.hid (IX.out.alloc _), Lib.hid (IH.out.alloc _), Lib.hid (IB.out.alloc hbz _)⟩, by simp [intOf]; omega⟩
        | true =>
          rw [hA1, Bool.true_and] at h12
          have H1' := Lib.hid hA1
          have H2' := Lib.hid h12
          clear hA1 h12
          go_wp2_with fail
          refine (does1_any t w.heap.size _ m d _ HC.out (by simp; omega) hmb).mono ?_
          rintro e w2 ⟨rfl, rfl⟩
          rw [H1'.out]
          go_wp2_with fail
          refine (does1_any f w.heap.size _ m d _ HC.out (by simp; omega) hmb).mono ?_
          rintro e w2 ⟨rfl, rfl⟩
          rw [H2'.out]
          go_wp2
          exact ⟨⟨k + 1, by omega, by simp, by rw [HEQ.out]; exact Lib.hid (own_alloc iO.out _), Lib.hid (IX.out.alloc _), Lib.hid (IH.out.alloc _), Lib.hid (IB.out.alloc hbz _)⟩, by simp [intOf]; omega⟩
    · have hlt' : decide ((k : Int) < n) = false := by simp; omega
      have HEQ := Lib.hid (show doL (l.take k) h = doL l h by rw [List.take_of_length_le (by rw [HL.out]; omega)])
      have HLN := Lib.hid (show (doL l h).length = m by rw [doL_len]; exact HHL.out)
      go_wp2
      go_ret
      have h1 := iO.out
      rw [HEQ.out] at h1
      exact ⟨A0, c0, by rw [HLN.out]; rfl, by rw [HLN.out]; exact own_mono h1 (by omega), IB.out⟩
set_option maxRecDepth 100000 in
set_option maxHeartbeats 8000000 in
theorem doesT_any (A B : Option Addr) (n c m d : Nat) (l : List Mv) (h : List Nat) (w : World) (hs : Bk.Src w A (n * 2) (mvV l)) (hn : n ≤ 9223372036854775807) (hh : Bk.Src w B m (u64W h)) (hB : B = none → m = 0 ∧ d = 0) (hm : m * 8 ≤ 140737488355328) :
    Calls Try.prog 30 #[.slice A n c, .slice B m d, .bool true] w (WPost (atL l h) w) := by
  have hl : l.length = n := by have := hs.1; rw [mvV_len] at this; omega
  have hhl : h.length = m := by have := hh.1; rw [u64W_len] at this; exact this
  have HS := Lib.hid hs
  have HH := Lib.hid (hh.alloc (.cells #[.slice B m d] 26))
  have HL := Lib.hid hl
  have HHL := Lib.hid hhl
  have b0 := Lib.hid (show Below w.heap.size w (w.alloc (.cells #[.slice B m d] 26)) from (Below.refl _ _).alloc (Nat.le_refl _) _)
  have HBX := Lib.hid (Blk.new w 26 #[.slice B m d])
  have HBN := Lib.hid hB
  have HSB := Lib.hid (show ∀ bb bo, B = some ⟨bb, bo, none⟩ → 0 < m → bb < w.heap.size from fun bb bo e h0 => by
    obtain ⟨b', o', e', h1⟩ := hh.addr h0
    rw [e] at e'; injection e' with e'; injection e' with e'; subst e'; exact h1)
  clear hs hh hl hhl hB
  go_enter Try.func30, Try.ntmps30
  go_wp2_with fail
  refine (clone_u64 B m d h _ HH.out HBN.out hm).mono ?_
  rintro e w0 ⟨v0, rfl, ho0, hb0⟩
  obtain ⟨A0, c0, hv0, _⟩ := own_shape ho0
  subst hv0
  have HO0 := Lib.hid (own_mono ho0 (show w.heap.size + 1 ≤ (w.alloc (.cells #[.slice B m d] 26)).heap.size by simp))
  have HBX0 := Lib.hid (HBX.out.below hb0 (by simp))
  have HH0 := Lib.hid (HH.out.below hb0 (Nat.le_refl _))
  have hz0 : w.heap.size + 1 ≤ w0.heap.size := by have := hb0.size; simpa using this
  have HB0 := Lib.hid (b0.out.trans (hb0.mono (by simp)))
  have y0 : w0.cell? ⟨w.heap.size, 0, none⟩ = some (.slice B m d) := by have := HBX0.out.cell 0; simpa using this
  clear ho0 hb0
  go_wp2
  go_loopw [20] (fun i wr => ∃ k : Nat, k ≤ n ∧ i = .int .i64 k ∧ Hid (wr.ownsRow (w.heap.size + 1) 34 1 (.slice A0 m c0) m (u64W (atL (l.take k) h))) ∧ Hid (Blk wr w.heap.size 26 #[.slice B m d]) ∧ Hid (Bk.Src wr B m (u64W h)) ∧ Hid (Below w.heap.size w wr)) (fun i _ => n - (intOf i).toNat)
  case atStart => exact ⟨0, by omega, rfl, HO0, HBX0, HH0, HB0⟩
  case round =>
    obtain ⟨k, hk, rfl, iO, IX, IH, IB⟩ := hrel
    clear HO0 HB0 HBX0 HH0 y0 HH HBX b0
    by_cases hlt : k < n
    · have hlt' : decide ((k : Int) < n) = true := by simp; omega
      have hlt2 : (k : Int) < n := by omega
      obtain ⟨ab, ao, rfl, hab⟩ := HS.out.addr (by omega)
      obtain ⟨p, hp⟩ : ∃ p, l[k]? = some p := ⟨_, List.getElem?_eq_getElem (by rw [HL.out]; exact hlt)⟩
      obtain ⟨t, f⟩ := p
      obtain ⟨c0', c1'⟩ := mv_cells (HS.out.below IB.out (Nat.le_refl _)) hp
      have hbz := IB.out.size
      have hxz := IX.out.lt
      have HP := Lib.hid hp
      have HLN := Lib.hid (show (atL (l.take k) h).length = m by rw [atL_len]; exact HHL.out)
      have HST := Lib.hid (show atL (l.take (k + 1)) h = at1 h (atL (l.take k) h) (t, f) from foldl_take hp)
      have HC := Lib.hid (show (wr.alloc (.cells #[.int .i64 t, .int .i64 f] 38)).cell? ⟨w.heap.size, 0, none⟩ = some (.slice B m d) by have := (IX.out.alloc (.cells #[.int .i64 t, .int .i64 f] 38)).cell 0; simpa using this)
      have hmb : m ≤ 9223372036854775807 := by omega
      clear hp
      by_cases hgo : inR m (t, f) = true
      · have h12 := there_in (m := m) (t := t) (f := f)
        rw [hgo, Bool.and_eq_true] at h12
        obtain ⟨H1, H2⟩ := h12
        have hin := of_decide_eq_true hgo
        obtain ⟨tn, htn⟩ := Int.eq_ofNat_of_zero_le hin.1
        obtain ⟨fn, hfn⟩ := Int.eq_ofNat_of_zero_le hin.2.2.1
        simp only at htn hfn
        subst htn
        subst hfn
        have ht : tn < m := by have := hin.2.1; simp at this; omega
        have hf : fn < m := by have := hin.2.2.2; simp at this; omega
        have H1' := Lib.hid H1
        have H2' := Lib.hid H2
        have HEQ := Lib.hid (show atL (l.take (k + 1)) h = (atL (l.take k) h).set tn (h.getD fn 0) by rw [HST.out]; exact at1_yes (by rw [HLN.out]; exact hgo))
        clear hgo hin H1 H2
        obtain ⟨g, cc, e, hgl, hge, _⟩ := own_at iO.out (by omega)
        injection e with e1 e2 e3
        subst e1
        subst e3
        obtain ⟨bb, bo, rfl, hbb⟩ := IH.out.addr (by omega)
        have ht2 : (tn : Int) < m := by omega
        have hf2 : (fn : Int) < m := by omega
        go_wp2_with fail
        refine (does1_any (tn : Int) w.heap.size _ m d _ HC.out (by simp; omega) hmb).mono ?_
        rintro e w2 ⟨rfl, rfl⟩
        rw [H1'.out]
        go_wp2_with fail
        refine (does1_any (fn : Int) w.heap.size _ m d _ HC.out (by simp; omega) hmb).mono ?_
        rintro e w2 ⟨rfl, rfl⟩
        rw [H2'.out]
        have JO := Lib.hid (own_alloc iO.out (.cells #[.int .i64 (tn : Int), .int .i64 (fn : Int)] 38))
        have JX := Lib.hid (IX.out.alloc (.cells #[.int .i64 (tn : Int), .int .i64 (fn : Int)] 38))
        have JH := Lib.hid (IH.out.alloc (.cells #[.int .i64 (tn : Int), .int .i64 (fn : Int)] 38))
        have JB := Lib.hid (IB.out.alloc hbz (.cells #[.int .i64 (tn : Int), .int .i64 (fn : Int)] 38))
        have JM := Lib.hid (Blk.new wr 38 #[.int .i64 (tn : Int), .int .i64 (fn : Int)])
        clear c0' c1' HC
        go_wp2
        generalize wr.alloc (.cells #[.int .i64 (tn : Int), .int .i64 (fn : Int)] 38) = W1 at JO JX JH JB JM ⊢
        have z0 := JM.out.cell 0
        have z1 := JM.out.cell 1
        simp at z0 z1
        have x0 := JH.out.at_ (k := fn) hf
        rw [u64W_at (by rw [HHL.out]; exact hf)] at x0
        have x1 := (Bk.Src.of_own JO.out).at_ (k := tn) ht
        rw [u64W_at (by rw [HLN.out]; exact ht)] at x1
        simp only [Nat.zero_add] at x1
        have x2 : W1.frozen? ⟨g, tn, none⟩ = false := own_frozen JO.out
        obtain ⟨v, hv⟩ : ∃ v, h.getD fn 0 = v := ⟨_, rfl⟩
        rw [hv] at x0
        have HV := Lib.hid hv
        clear hv
        go_still_tail 9, (by kernel_rfl)
        change wpList _ _ _ _ _ W1.drew
        have IO2 := Lib.hid (own_store (k := tn) (own_drew JO.out) v)
        rw [← HV.out, ← HEQ.out] at IO2
        rw [HV.out] at IO2
        have IX2 := Lib.hid (blk_other (k := tn) (u := .int .u64 (v : Int)) JX.out.drew (show w.heap.size ≠ g by omega))
        have IH2 := Lib.hid (Bk.Src.setCell (p := ⟨g, tn, none⟩) JH.out.drew (.int .u64 (v : Int)) (fun a ha => by injection ha with ha; subst ha; show bb ≠ g; have := HSB.out bb bo rfl (by omega); omega))
        have IB2 := Lib.hid (JB.out.drew.setCell (p := ⟨g, tn, none⟩) (show w.heap.size ≤ g by omega) (.int .u64 (v : Int)))
        clear HST
        go_wp2
        exact ⟨⟨k + 1, by omega, by simp, IO2, IX2, IH2, IB2⟩, by simp [intOf]; omega⟩
      · have hgo' : inR m (t, f) = false := by simpa using hgo
        have h12 := there_in (m := m) (t := t) (f := f)
        rw [hgo'] at h12
        have HEQ := Lib.hid (show atL (l.take (k + 1)) h = atL (l.take k) h by rw [HST.out]; exact at1_no (by rw [HLN.out]; exact hgo'))
        clear hgo hgo'
        cases hA1 : thereB m t with
        | false =>
          have H1' := Lib.hid hA1
          clear hA1 h12
          go_wp2_with fail
          refine (does1_any t w.heap.size _ m d _ HC.out (by simp; omega) hmb).mono ?_
          rintro e w2 ⟨rfl, rfl⟩
          rw [H1'.out]
          go_wp2
          exact ⟨⟨k + 1, by omega, by simp, by rw [HEQ.out]; exact Lib.hid (own_alloc iO.out _), Lib.hid (IX.out.alloc _), Lib.hid (IH.out.alloc _), Lib.hid (IB.out.alloc hbz _)⟩, by simp [intOf]; omega⟩
        | true =>
          rw [hA1, Bool.true_and] at h12
          have H1' := Lib.hid hA1
          have H2' := Lib.hid h12
          clear hA1 h12
          go_wp2_with fail
          refine (does1_any t w.heap.size _ m d _ HC.out (by simp; omega) hmb).mono ?_
          rintro e w2 ⟨rfl, rfl⟩
          rw [H1'.out]
          go_wp2_with fail
          refine (does1_any f w.heap.size _ m d _ HC.out (by simp; omega) hmb).mono ?_
          rintro e w2 ⟨rfl, rfl⟩
          rw [H2'.out]
          go_wp2
          exact ⟨⟨k + 1, by omega, by simp, by rw [HEQ.out]; exact Lib.hid (own_alloc iO.out _), Lib.hid (IX.out.alloc _), Lib.hid (IH.out.alloc _), Lib.hid (IB.out.alloc hbz _)⟩, by simp [intOf]; omega⟩
    · have hlt' : decide ((k : Int) < n) = false := by simp; omega
      have HEQ := Lib.hid (show atL (l.take k) h = atL l h by rw [List.take_of_length_le (by rw [HL.out]; omega)])
      have HLN := Lib.hid (show (atL l h).length = m by rw [atL_len]; exact HHL.out)
      go_wp2
      go_ret
      have h1 := iO.out
      rw [HEQ.out] at h1
      exact ⟨A0, c0, by rw [HLN.out]; rfl, by rw [HLN.out]; exact own_mono h1 (by omega), IB.out⟩
theorem Do_any (A B : Option Addr) (n c m d : Nat) (l : List Mv) (h : List Nat) (w : World) (hs : Bk.Src w A (n * 2) (mvV l)) (hn : n ≤ 9223372036854775807) (hh : Bk.Src w B m (u64W h)) (hB : B = none → m = 0 ∧ d = 0) (hm : m * 8 ≤ 140737488355328) :
    Calls Try.prog 16 #[.slice A n c, .slice B m d] w (WPost (doL l h) w) := by
  have H := Lib.hid (doesF_any A B n c m d l h w hs hn hh hB hm)
  clear hs hh hB hn hm
  go_enter Try.func16, Try.ntmps16
  go_wp2_with fail
  refine H.out.mono ?_
  rintro e w1 ⟨A1, c1, rfl, ho, hb⟩
  have HO := Lib.hid ho
  have HB := Lib.hid hb
  clear ho hb
  go_wp2
  go_ret
  exact ⟨A1, c1, rfl, HO.out, HB.out⟩
theorem AtOnce_any (A B : Option Addr) (n c m d : Nat) (l : List Mv) (h : List Nat) (w : World) (hs : Bk.Src w A (n * 2) (mvV l)) (hn : n ≤ 9223372036854775807) (hh : Bk.Src w B m (u64W h)) (hB : B = none → m = 0 ∧ d = 0) (hm : m * 8 ≤ 140737488355328) :
    Calls Try.prog 18 #[.slice A n c, .slice B m d] w (WPost (atL l h) w) := by
  have H := Lib.hid (doesT_any A B n c m d l h w hs hn hh hB hm)
  clear hs hh hB hn hm
  go_enter Try.func18, Try.ntmps18
  go_wp2_with fail
  refine H.out.mono ?_
  rintro e w1 ⟨A1, c1, rfl, ho, hb⟩
  have HO := Lib.hid ho
  have HB := Lib.hid hb
  clear ho hb
  go_wp2
  go_ret
  exact ⟨A1, c1, rfl, HO.out, HB.out⟩

set_option maxRecDepth 100000 in
set_option maxHeartbeats 2000000 in
theorem Words_eq (A B : Option Addr) (n c d : Nat) (l : List Nat) (w : World) (ha : Bk.Src w A n (u64W l)) (hb : Bk.Src w B n (u64W l)) (hm : n ≤ 9223372036854775807) :
    Calls Try.prog 15 #[.slice A n c, .slice B n d] w fun e w' => e = .returned (.bool true) ∧ Below w.heap.size w w' := by
  have hl : l.length = n := by have := ha.1; rwa [u64W_len] at this
  have hnn : ((n : Int) != n) = false := by simp
  rcases Nat.eq_zero_or_pos n with h0 | h0
  · subst h0
    clear ha hb hl
    go_enter Try.func15, Try.ntmps15
    go_wp2_with fail
    go_loopw [5] (fun i wr => i = .int .i64 0 ∧ Below w.heap.size w wr) (fun _ _ => 0)
    case atStart => exact ⟨rfl, Below.refl _ _⟩
    case round =>
      obtain ⟨rfl, hbr⟩ := hrel
      go_wp2
      go_ret
      exact ⟨rfl, hbr⟩
  · obtain ⟨ab, ao, rfl, hab⟩ := ha.addr h0
    obtain ⟨bb, bo, rfl, hbb⟩ := hb.addr h0
    have HX := Lib.hid (show ∀ k, k < n → ∃ v : Int, w.cell? ⟨ab, ao + k, none⟩ = some (.int .u64 v) ∧ w.cell? ⟨bb, bo + k, none⟩ = some (.int .u64 v) from fun k hk => by
      have h1 := ha.at_ hk
      have h2 := hb.at_ hk
      rw [u64W_at (by omega)] at h1 h2
      exact ⟨_, h1, h2⟩)
    clear ha hb hl
    go_enter Try.func15, Try.ntmps15
    go_wp2_with fail
    go_loopw [5] (fun i wr => ∃ k : Nat, k ≤ n ∧ i = .int .i64 k ∧ Below w.heap.size w wr) (fun i _ => n + 1 - (intOf i).toNat)
    case atStart => exact ⟨0, by omega, rfl, Below.refl _ _⟩
    case round =>
      obtain ⟨k, hk, rfl, hbr⟩ := hrel
      have HB := Lib.hid hbr
      clear hbr
      by_cases hlt : k < n
      · have hlt' : decide ((k : Int) < n) = true := by simp; omega
        have hlt2 : (k : Int) < n := by omega
        obtain ⟨v, c1, c2⟩ := HX.out k hlt
        have c1' := (HB.out.cell (p := ⟨ab, ao + k, none⟩) hab).trans c1
        have c2' := (HB.out.cell (p := ⟨bb, bo + k, none⟩) hbb).trans c2
        have hvv : (v != v) = false := by simp
        clear c1 c2
        go_wp2_with fail
        go_quiet (fail)
        go_wp2
        exact ⟨⟨k + 1, by omega, by simp, below_drewN HB.out _⟩, by simp [intOf]; omega⟩
      · have hlt' : decide ((k : Int) < n) = false := by simp; omega
        go_wp2
        go_ret
        exact ⟨rfl, HB.out⟩
end Go.Proofs.Ytbnfhcdodejmhaa

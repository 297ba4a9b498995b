/-
  What moves leave, one behind the other and at once: the reference's Do and AtOnce.
  Conditions: the rows are within a slice's reach.
-/
import Derived.Test.YtbnfhcdodejmhaaMovSrt
namespace Go.Bk.Mov
open Go Go.Bk
def u64W (l : List Nat) : List Value := l.map fun c : Nat => .int .u64 (c : Int)
theorem u64W_len (l : List Nat) : (u64W l).length = l.length := by simp [u64W]
theorem u64W_one (l : List Nat) : ∀ u ∈ u64W l, u.oneCell' = true := by
  intro u hu
  obtain ⟨_, _, rfl⟩ := List.mem_map.1 hu
  rfl
theorem u64W_at {l : List Nat} {k : Nat} (h : k < l.length) : (u64W l)[k]'(by simpa [u64W] using h) = .int .u64 ((l.getD k 0 : Nat) : Int) := by simp [u64W, List.getD, List.getElem?_eq_getElem h]
theorem u64W_set (l : List Nat) (k v : Nat) : (u64W l).set k (.int .u64 (v : Int)) = u64W (l.set k v) := by
  unfold u64W
  rw [List.map_set]
/-- may a move be done over so many places? -/
def inR (m : Nat) (p : Mv) : Bool := decide (0 ≤ p.1 ∧ p.1 < m ∧ 0 ≤ p.2 ∧ p.2 < m)
def at1 (src h : List Nat) (p : Mv) : List Nat := if inR h.length p then h.set p.1.toNat (src.getD p.2.toNat 0) else h
def do1 (h : List Nat) (p : Mv) : List Nat := at1 h h p
def doL (l : List Mv) (h : List Nat) : List Nat := l.foldl do1 h
def atL (l : List Mv) (h : List Nat) : List Nat := l.foldl (at1 h) h
theorem at1_len (src h : List Nat) (p : Mv) : (at1 src h p).length = h.length := by unfold at1; split <;> simp
theorem doL_len : ∀ (l : List Mv) (h : List Nat), (doL l h).length = h.length
  | [], _ => rfl
  | p :: l, h => by
    show (doL l (do1 h p)).length = _
    rw [doL_len l]; exact at1_len h h p
theorem atF_len (src : List Nat) : ∀ (l : List Mv) (h : List Nat), (l.foldl (at1 src) h).length = h.length
  | [], _ => rfl
  | p :: l, h => by
    show (l.foldl (at1 src) (at1 src h p)).length = _
    rw [atF_len src l]; exact at1_len src h p
theorem atL_len (l : List Mv) (h : List Nat) : (atL l h).length = h.length := atF_len h l h
theorem foldl_take {α β : Type} {f : β → α → β} {l : List α} {k : Nat} {p : α} {b : β} (h : l[k]? = some p) : (l.take (k + 1)).foldl f b = f ((l.take k).foldl f b) p := by
  obtain ⟨hk, e⟩ := List.getElem?_eq_some_iff.1 h
  rw [List.take_succ_eq_append_getElem hk, List.foldl_append, e]
  rfl
theorem inR_no {m : Nat} {t f : Int} (h : t < 0 ∨ (m : Int) ≤ t ∨ f < 0 ∨ (m : Int) ≤ f) : inR m (t, f) = false := by
  simp [inR]; omega
theorem inR_yes {m t f : Nat} (h1 : t < m) (h2 : f < m) : inR m ((t : Int), (f : Int)) = true := by
  simp [inR]; omega
theorem at1_no {src h : List Nat} {p : Mv} (hn : inR h.length p = false) : at1 src h p = h := by simp [at1, hn]
theorem at1_yes {src h : List Nat} {t f : Nat} (hn : inR h.length ((t : Int), (f : Int)) = true) : at1 src h ((t : Int), (f : Int)) = h.set t (src.getD f 0) := by simp [at1, hn]
end Go.Bk.Mov
namespace Go.Proofs.Ytbnfhcdodejmhaa
open Go.RowKit Go.Bk Go.Bk.Mov
set_option linter.unusedVariables false
set_option linter.unusedSimpArgs false
theorem info_u64 : (Try.prog.info? 34).map (fun i => (i.zero, i.size, i.bytes)) = some (some (.int .u64 0), 1, 8) := by kernel_rfl

/-- a row of numbers of the call's own -/
def WPost (h : List Nat) (w : World) (e : Ending) (w' : World) : Prop := ∃ A c, e = .returned (.slice A h.length c) ∧ w'.ownsRow w.heap.size 34 1 (.slice A h.length c) h.length (u64W h) ∧ Below w.heap.size w w'
/-- after a store into a row of the call's own -/
theorem own_store {w : World} {base g n c k : Nat} {e : TypeId} {h : List Nat} (ho : w.ownsRow base e 1 (.slice (some ⟨g, 0, none⟩) n c) n (u64W h)) (v : Nat) : (w.setCell ⟨g, k, none⟩ (.int .u64 (v : Int))).ownsRow base e 1 (.slice (some ⟨g, 0, none⟩) n c) n (u64W (h.set k v)) := by
  have := (ho.stored k (.int .u64 (v : Int))).1
  rwa [u64W_set] at this
theorem own_frozen {w : World} {base g n c k : Nat} {e : TypeId} {xs : List Value} (ho : w.ownsRow base e 1 (.slice (some ⟨g, 0, none⟩) n c) n xs) : w.frozen? ⟨g, k, none⟩ = false := by
  rcases ho.2 with ⟨h1, _⟩ | ⟨g', cap, cur, h1, _, hg, _⟩
  · cases h1
  · injection h1 with h1 h2 h3
    injection h1 with h1
    injection h1 with h1
    subst h1
    exact frozen_of_row w g k _ _ hg


set_option maxRecDepth 100000 in
set_option maxHeartbeats 8000000 in
theorem RDo_any (A B : Option Addr) (n c m d : Nat) (l : List Mv) (h : List Nat) (w : World) (hs : Bk.Src w A (n * 2) (mvV l)) (hn : n ≤ 9223372036854775807) (hh : Bk.Src w B m (u64W h)) (hm : m * 8 ≤ 140737488355328) :
    Calls Try.prog 17 #[.slice A n c, .slice B m d] w (WPost (doL l h) w) := by
  have hl : l.length = n := by have := hs.1; rw [mvV_len] at this; omega
  have hhl : h.length = m := by have := hh.1; rw [u64W_len] at this; exact this
  have HS := Lib.hid hs
  have HH := Lib.hid hh
  have HL := Lib.hid hl
  have HHL := Lib.hid hhl
  clear hs hh hl hhl
  go_enter Try.func17, Try.ntmps17
  go_wp2_with (at_builtin; refine append_copy _ rfl _ _ 26 rfl 34 (.int .u64 0) 8 Try.underlying26 info_u64 rfl rfl B m d (u64W h) rfl HH.out (u64W_one h) (by unfold maxLen; omega) hm ?_)
  rintro v0 w0 ho0 hb0
  obtain ⟨A0, c0, hv0, _⟩ := own_shape ho0
  subst hv0
  have HO0 := Lib.hid ho0
  have HB0 := Lib.hid hb0
  clear ho0 hb0
  go_wp2
  go_loopw [6] (fun i wr => ∃ k : Nat, k ≤ n ∧ i = .int .i64 k ∧ Hid (wr.ownsRow w.heap.size 34 1 (.slice A0 m c0) m (u64W (doL (l.take k) h))) ∧ Hid (Below w.heap.size w wr)) (fun i _ => n - (intOf i).toNat)
  case atStart => exact ⟨0, by omega, rfl, HO0, HB0⟩
  case round =>
    obtain ⟨k, hk, rfl, iO, IB⟩ := hrel
    clear HO0 HB0
    by_cases hlt : k < n
    · have hlt' : decide ((k : Int) < n) = true := by simp; omega
      have hlt2 : (k : Int) < n := by omega
      obtain ⟨ab, ao, rfl, hab⟩ := HS.out.addr (by omega)
      obtain ⟨p, hp⟩ : ∃ p, l[k]? = some p := ⟨_, List.getElem?_eq_getElem (by rw [HL.out]; exact hlt)⟩
      obtain ⟨t, f⟩ := p
      obtain ⟨c0', c1'⟩ := mv_cells (HS.out.below IB.out (Nat.le_refl _)) hp
      have hbz := IB.out.size
      have HP := Lib.hid hp
      have HLN := Lib.hid (show (doL (l.take k) h).length = m by rw [doL_len]; exact HHL.out)
      have HST := Lib.hid (show doL (l.take (k + 1)) h = do1 (doL (l.take k) h) (t, f) from foldl_take hp)
      clear hp
      have hcase : (decide (0 ≤ t) = false ∨ (decide (0 ≤ t) = true ∧ decide (t < (m : Int)) = false) ∨ (decide (0 ≤ t) = true ∧ decide (t < (m : Int)) = true ∧ decide (0 ≤ f) = false) ∨ (decide (0 ≤ t) = true ∧ decide (t < (m : Int)) = true ∧ decide (0 ≤ f) = true ∧ decide (f < (m : Int)) = false)) ∨ (∃ tn fn : Nat, t = tn ∧ f = fn ∧ tn < m ∧ fn < m) := by
        by_cases e1 : 0 ≤ t
        · by_cases e2 : t < (m : Int)
          · by_cases e3 : 0 ≤ f
            · by_cases e4 : f < (m : Int)
              · exact .inr ⟨t.toNat, f.toNat, by omega, by omega, by omega, by omega⟩
              · exact .inl (.inr (.inr (.inr ⟨by simpa using e1, by simpa using e2, by simpa using e3, by simpa using e4⟩)))
            · exact .inl (.inr (.inr (.inl ⟨by simpa using e1, by simpa using e2, by simpa using e3⟩)))
          · exact .inl (.inr (.inl ⟨by simpa using e1, by simpa using e2⟩))
        · exact .inl (.inl (by simpa using e1))
      rcases hcase with hcase | ⟨tn, fn, rfl, rfl, ht, hf⟩
      · have HN := Lib.hid (show inR m (t, f) = false from inR_no (by
          rcases hcase with q | ⟨q1, q2⟩ | ⟨q1, q2, q3⟩ | ⟨q1, q2, q3, q4⟩
          · simp at q; omega
          · simp at q1 q2; omega
          · simp at q1 q2 q3; omega
          · simp at q1 q2 q3 q4; omega))
        have HEQ := Lib.hid (show doL (l.take (k + 1)) h = doL (l.take k) h by rw [HST.out]; exact at1_no (by rw [HLN.out]; exact HN.out))
        rcases hcase with q | ⟨q1, q2⟩ | ⟨q1, q2, q3⟩ | ⟨q1, q2, q3, q4⟩
        all_goals
          go_wp2
          exact ⟨⟨k + 1, by omega, by simp, by rw [HEQ.out]; exact iO, IB⟩, by simp [intOf]; omega⟩
      · have HEQ := Lib.hid (show doL (l.take (k + 1)) h = (doL (l.take k) h).set tn ((doL (l.take k) h).getD fn 0) by rw [HST.out]; exact at1_yes (by rw [HLN.out]; exact inR_yes ht hf))
        obtain ⟨g, cc, e, hgl, hge, _⟩ := own_at iO.out (by omega)
        injection e with e1 e2 e3
        subst e1
        subst e3
        have x0 := (Bk.Src.of_own iO.out).at_ (k := fn) hf
        rw [u64W_at (by rw [HLN.out]; exact hf)] at x0
        simp only [Nat.zero_add] at x0
        have x1 := (Bk.Src.of_own iO.out).at_ (k := tn) ht
        rw [u64W_at (by rw [HLN.out]; exact ht)] at x1
        simp only [Nat.zero_add] at x1
        have x2 : wr.frozen? ⟨g, tn, none⟩ = false := own_frozen iO.out
        have ht2 : (tn : Int) < m := by omega
        have hf2 : (fn : Int) < m := by omega
        obtain ⟨v, hv⟩ : ∃ v, (doL (l.take k) h).getD fn 0 = v := ⟨_, rfl⟩
        rw [hv] at x0
        have HV := Lib.hid hv
        clear hv
        go_wp2
        go_still_tail 15, (by kernel_rfl)
        change wpList _ _ _ _ _ wr.drew
        have IO2 := Lib.hid (own_store (k := tn) (own_drew iO.out) v)
        rw [← HV.out, ← HEQ.out] at IO2
        rw [HV.out] at IO2
        have IB2 := Lib.hid (IB.out.drew.setCell (p := ⟨g, tn, none⟩) hge (.int .u64 (v : Int)))
        clear HST
        go_wp2
        exact ⟨⟨k + 1, by omega, by simp, IO2, IB2⟩, by simp [intOf]; omega⟩
    · have hlt' : decide ((k : Int) < n) = false := by simp; omega
      have HEQ := Lib.hid (show doL (l.take k) h = doL l h by rw [List.take_of_length_le (by rw [HL.out]; omega)])
      have HLN := Lib.hid (show (doL l h).length = m by rw [doL_len]; exact HHL.out)
      go_wp2
      go_ret
      have h1 := iO.out
      rw [HEQ.out] at h1
      exact ⟨A0, c0, by rw [HLN.out]; rfl, by rw [HLN.out]; exact h1, IB.out⟩

set_option maxRecDepth 100000 in
set_option maxHeartbeats 8000000 in
theorem RAt_any (A B : Option Addr) (n c m d : Nat) (l : List Mv) (h : List Nat) (w : World) (hs : Bk.Src w A (n * 2) (mvV l)) (hn : n ≤ 9223372036854775807) (hh : Bk.Src w B m (u64W h)) (hm : m * 8 ≤ 140737488355328) :
    Calls Try.prog 19 #[.slice A n c, .slice B m d] w (WPost (atL l h) w) := by
  have hl : l.length = n := by have := hs.1; rw [mvV_len] at this; omega
  have hhl : h.length = m := by have := hh.1; rw [u64W_len] at this; exact this
  have HS := Lib.hid hs
  have HH := Lib.hid hh
  have HL := Lib.hid hl
  have HHL := Lib.hid hhl
  clear hs hh hl hhl
  go_enter Try.func19, Try.ntmps19
  go_wp2_with (at_builtin; refine append_copy _ rfl _ _ 26 rfl 34 (.int .u64 0) 8 Try.underlying26 info_u64 rfl rfl B m d (u64W h) rfl HH.out (u64W_one h) (by unfold maxLen; omega) hm ?_)
  rintro v0 w0 ho0 hb0
  obtain ⟨A0, c0, hv0, _⟩ := own_shape ho0
  subst hv0
  have HO0 := Lib.hid ho0
  have HB0 := Lib.hid hb0
  clear ho0 hb0
  go_wp2
  go_loopw [6] (fun i wr => ∃ k : Nat, k ≤ n ∧ i = .int .i64 k ∧ Hid (wr.ownsRow w.heap.size 34 1 (.slice A0 m c0) m (u64W (atL (l.take k) h))) ∧ Hid (Below w.heap.size w wr)) (fun i _ => n - (intOf i).toNat)
  case atStart => exact ⟨0, by omega, rfl, HO0, HB0⟩
  case round =>
    obtain ⟨k, hk, rfl, iO, IB⟩ := hrel
    clear HO0 HB0
    by_cases hlt : k < n
    · have hlt' : decide ((k : Int) < n) = true := by simp; omega
      have hlt2 : (k : Int) < n := by omega
      obtain ⟨ab, ao, rfl, hab⟩ := HS.out.addr (by omega)
      obtain ⟨p, hp⟩ : ∃ p, l[k]? = some p := ⟨_, List.getElem?_eq_getElem (by rw [HL.out]; exact hlt)⟩
      obtain ⟨t, f⟩ := p
      obtain ⟨c0', c1'⟩ := mv_cells (HS.out.below IB.out (Nat.le_refl _)) hp
      have hbz := IB.out.size
      have HP := Lib.hid hp
      have HLN := Lib.hid (show (atL (l.take k) h).length = m by rw [atL_len]; exact HHL.out)
      have HST := Lib.hid (show atL (l.take (k + 1)) h = at1 h (atL (l.take k) h) (t, f) from foldl_take hp)
      clear hp
      have hcase : (decide (0 ≤ t) = false ∨ (decide (0 ≤ t) = true ∧ decide (t < (m : Int)) = false) ∨ (decide (0 ≤ t) = true ∧ decide (t < (m : Int)) = true ∧ decide (0 ≤ f) = false) ∨ (decide (0 ≤ t) = true ∧ decide (t < (m : Int)) = true ∧ decide (0 ≤ f) = true ∧ decide (f < (m : Int)) = false)) ∨ (∃ tn fn : Nat, t = tn ∧ f = fn ∧ tn < m ∧ fn < m) := by
        by_cases e1 : 0 ≤ t
        · by_cases e2 : t < (m : Int)
          · by_cases e3 : 0 ≤ f
            · by_cases e4 : f < (m : Int)
              · exact .inr ⟨t.toNat, f.toNat, by omega, by omega, by omega, by omega⟩
              · exact .inl (.inr (.inr (.inr ⟨by simpa using e1, by simpa using e2, by simpa using e3, by simpa using e4⟩)))
            · exact .inl (.inr (.inr (.inl ⟨by simpa using e1, by simpa using e2, by simpa using e3⟩)))
          · exact .inl (.inr (.inl ⟨by simpa using e1, by simpa using e2⟩))
        · exact .inl (.inl (by simpa using e1))
      rcases hcase with hcase | ⟨tn, fn, rfl, rfl, ht, hf⟩
      · have HN := Lib.hid (show inR m (t, f) = false from inR_no (by
          rcases hcase with q | ⟨q1, q2⟩ | ⟨q1, q2, q3⟩ | ⟨q1, q2, q3, q4⟩
          · simp at q; omega
          · simp at q1 q2; omega
          · simp at q1 q2 q3; omega
          · simp at q1 q2 q3 q4; omega))
        have HEQ := Lib.hid (show atL (l.take (k + 1)) h = atL (l.take k) h by rw [HST.out]; exact at1_no (by rw [HLN.out]; exact HN.out))
        rcases hcase with q | ⟨q1, q2⟩ | ⟨q1, q2, q3⟩ | ⟨q1, q2, q3, q4⟩
        all_goals
          go_wp2
          exact ⟨⟨k + 1, by omega, by simp, by rw [HEQ.out]; exact iO, IB⟩, by simp [intOf]; omega⟩
      · have HEQ := Lib.hid (show atL (l.take (k + 1)) h = (atL (l.take k) h).set tn (h.getD fn 0) by rw [HST.out]; exact at1_yes (by rw [HLN.out]; exact inR_yes ht hf))
        obtain ⟨g, cc, e, hgl, hge, _⟩ := own_at iO.out (by omega)
        injection e with e1 e2 e3
        subst e1
        subst e3
        obtain ⟨bb, bo, rfl, hbb⟩ := HH.out.addr (by omega)
        have x0 := (HH.out.below IB.out (Nat.le_refl _)).at_ (k := fn) hf
        rw [u64W_at (by rw [HHL.out]; exact hf)] at x0
        have x1 := (Bk.Src.of_own iO.out).at_ (k := tn) ht
        rw [u64W_at (by rw [HLN.out]; exact ht)] at x1
        simp only [Nat.zero_add] at x1
        have x2 : wr.frozen? ⟨g, tn, none⟩ = false := own_frozen iO.out
        have ht2 : (tn : Int) < m := by omega
        have hf2 : (fn : Int) < m := by omega
        obtain ⟨v, hv⟩ : ∃ v, h.getD fn 0 = v := ⟨_, rfl⟩
        rw [hv] at x0
        have HV := Lib.hid hv
        clear hv
        go_wp2
        go_still_tail 15, (by kernel_rfl)
        change wpList _ _ _ _ _ wr.drew
        have IO2 := Lib.hid (own_store (k := tn) (own_drew iO.out) v)
        rw [← HV.out, ← HEQ.out] at IO2
        rw [HV.out] at IO2
        have IB2 := Lib.hid (IB.out.drew.setCell (p := ⟨g, tn, none⟩) hge (.int .u64 (v : Int)))
        clear HST
        go_wp2
        exact ⟨⟨k + 1, by omega, by simp, IO2, IB2⟩, by simp [intOf]; omega⟩
    · have hlt' : decide ((k : Int) < n) = false := by simp; omega
      have HEQ := Lib.hid (show atL (l.take k) h = atL l h by rw [List.take_of_length_le (by rw [HL.out]; omega)])
      have HLN := Lib.hid (show (atL l h).length = m by rw [atL_len]; exact HHL.out)
      go_wp2
      go_ret
      have h1 := iO.out
      rw [HEQ.out] at h1
      exact ⟨A0, c0, by rw [HLN.out]; rfl, by rw [HLN.out]; exact h1, IB.out⟩
end Go.Proofs.Ytbnfhcdodejmhaa

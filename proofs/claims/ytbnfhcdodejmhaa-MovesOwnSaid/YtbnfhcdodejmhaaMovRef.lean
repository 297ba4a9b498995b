/-
  The reference's place, from, Right and Rings.
  Conditions: none but that the row's length is within a slice's.
-/
import Derived.Test.YtbnfhcdodejmhaaMovRight
import Derived.Test.YtbnfhcdodejmhaaMovWalk
namespace Go.Proofs.Ytbnfhcdodejmhaa
open Go.RowKit Go.Bk Go.Bk.Mov
set_option linter.unusedVariables false
set_option linter.unusedSimpArgs false

theorem place_any (n : Int) (w : World) : Calls Try.prog 24 #[.int .i64 n] w fun e w' => e = .returned (.bool (isPlB n)) ∧ w = w' := by
  by_cases h1 : 0 ≤ n
  · by_cases h2 : n < 4096
    · have e : isPlB n = true := by simp [isPlB, h1, h2]
      have HE := Lib.hid e
      clear e
      go_enter Try.func24, Try.ntmps24
      go_wp2
      go_ret
      exact ⟨by rw [HE.out]; rfl, rfl⟩
    · have e : isPlB n = false := by simp [isPlB, h2]
      have HE := Lib.hid e
      have h2' : decide (n < 4096) = false := by simpa using h2
      clear e
      go_enter Try.func24, Try.ntmps24
      go_wp2
      go_ret
      exact ⟨by rw [HE.out]; rfl, rfl⟩
  · have e : isPlB n = false := by simp [isPlB, h1]
    have HE := Lib.hid e
    have h2' : decide (0 ≤ n) = false := by simpa using h1
    clear e
    go_enter Try.func24, Try.ntmps24
    go_wp2
    go_ret
    exact ⟨by rw [HE.out]; rfl, rfl⟩

/-- what a place becomes; -1: it stays -/
def fromV (l : List Mv) (to : Int) : Int := (getI l to).getD (-1)
theorem getI_take {l : List Mv} {k : Nat} {p : Mv} {to : Int} (h : l[k]? = some p) (h1 : getI (l.take k) to = none) (h2 : to = p.1) : getI l to = some p.2 := by
  revert k
  induction l with
  | nil => intro k h; simp at h
  | cons q r ih =>
    intro k h h1
    cases k with
    | zero => simp at h; subst h; simp [getI, h2]
    | succ k =>
      simp at h
      simp only [List.take_succ_cons, getI] at h1 ⊢
      by_cases e : to = q.1
      · simp [e] at h1
      · simp only [if_neg e] at h1 ⊢
        exact ih h h1
theorem getI_more {l : List Mv} {k : Nat} {p : Mv} {to : Int} (h : l[k]? = some p) (h1 : getI (l.take k) to = none) (h2 : to ≠ p.1) : getI (l.take (k + 1)) to = none := by
  obtain ⟨hk', e⟩ := List.getElem?_eq_some_iff.1 h
  rw [List.take_succ_eq_append_getElem hk', e]
  have h3 := getI_none h1
  apply getI_not
  simp only [tos, List.map_append, List.map_cons, List.map_nil, List.mem_append, List.mem_singleton, not_or]
  exact ⟨h3, h2⟩

set_option maxRecDepth 100000 in
set_option maxHeartbeats 2000000 in
theorem from_any (A : Option Addr) (n c : Nat) (l : List Mv) (to : Int) (w : World) (hs : Bk.Src w A (n * 2) (mvV l)) (hm : n ≤ 9223372036854775807) :
    Calls Try.prog 29 #[.slice A n c, .int .i64 to] w fun e w' => e = .returned (.int .i64 (fromV l to)) ∧ w = w' := by
  have hl : l.length = n := by have := hs.1; rw [mvV_len] at this; omega
  have HS := Lib.hid hs
  have HL := Lib.hid hl
  clear hs hl
  go_enter Try.func29, Try.ntmps29
  go_wp2
  go_loop [5] (fun i => ∃ k : Nat, k ≤ n ∧ i = .int .i64 k ∧ Hid (getI (l.take k) to = none)) (fun i => n - (intOf i).toNat)
  case atStart => exact ⟨0, by omega, rfl, Lib.hid rfl⟩
  case round =>
    obtain ⟨k, hk, rfl, IA⟩ := hrel
    by_cases hlt : k < n
    · have hlt' : decide ((k : Int) < n) = true := by simp; omega
      have hlt2 : (k : Int) < n := by omega
      obtain ⟨ab, ao, rfl, hab⟩ := HS.out.addr (by omega)
      obtain ⟨p, hp⟩ : ∃ p, l[k]? = some p := ⟨_, List.getElem?_eq_getElem (by rw [HL.out]; exact hlt)⟩
      obtain ⟨t, f⟩ := p
      obtain ⟨c0, c1⟩ := mv_cells HS.out hp
      have HP := Lib.hid hp
      clear hp
      by_cases he : t = to
      · have he' : (t == to) = true := by simp [he]
        have HE := Lib.hid (show fromV l to = f by unfold fromV; rw [getI_take HP.out IA.out he.symm]; rfl)
        clear he
        go_wp2
        go_ret
        exact ⟨by rw [HE.out]; rfl, rfl⟩
      · have he' : (t == to) = false := by simp [he]
        have HN := Lib.hid he
        clear he
        go_wp2
        exact ⟨⟨k + 1, by omega, by simp, Lib.hid (getI_more HP.out IA.out (fun e => HN.out e.symm))⟩, by simp [intOf]; omega⟩
    · have hlt' : decide ((k : Int) < n) = false := by simp; omega
      have HE := Lib.hid (show fromV l to = -1 by have := IA.out; rw [List.take_of_length_le (by rw [HL.out]; omega)] at this; unfold fromV; rw [this]; rfl)
      go_wp2
      go_ret
      exact ⟨by rw [HE.out]; rfl, rfl⟩

theorem tos_not {l : List Mv} {t : Int} (h : ∀ (j : Nat) (p : Mv), l[j]? = some p → p.1 ≠ t) : t ∉ tos l := by
  intro hh
  obtain ⟨f, hf⟩ := of_tos hh
  obtain ⟨j, hj⟩ := List.mem_iff_getElem?.1 hf
  exact h j _ hj rfl

set_option maxRecDepth 100000 in
set_option maxHeartbeats 4000000 in
theorem RRight_any (A : Option Addr) (n c : Nat) (l : List Mv) (w : World) (hs : Bk.Src w A (n * 2) (mvV l)) (hm : n ≤ 9223372036854775807) :
    Calls Try.prog 11 #[.slice A n c] w fun e w' => e = .returned (.bool (rightB l)) ∧ Below w.heap.size w w' := by
  have hl : l.length = n := by have := hs.1; rw [mvV_len] at this; omega
  have HS := Lib.hid hs
  have HL := Lib.hid hl
  clear hs hl
  by_cases hbig : 256 < n
  · have hbig' : decide ((256 : Int) < n) = true := by simp; omega
    have HE := Lib.hid (show rightB l = false from decide_eq_false (fun h => by have := h.1; rw [HL.out] at this; omega))
    go_enter Try.func11, Try.ntmps11
    go_wp2
    go_ret
    exact ⟨by rw [HE.out]; rfl, Below.refl _ _⟩
  · have hbig' : decide ((256 : Int) < n) = false := by simp; omega
    go_enter Try.func11, Try.ntmps11
    go_wp2
    go_loopw [3] (fun i wr => ∃ k : Nat, k ≤ n ∧ i = .int .i64 k ∧ Hid (RightP (l.take k)) ∧ Hid (Below w.heap.size w wr)) (fun i _ => n - (intOf i).toNat)
    case atStart => exact ⟨0, by omega, rfl, Lib.hid ⟨by simp, by simp, by simp [tos]⟩, Lib.hid (Below.refl _ _)⟩
    case round =>
      obtain ⟨wo, rfl⟩ : ∃ wo : World, wo = wr := ⟨_, rfl⟩
      obtain ⟨k, hk, rfl, IR, IB⟩ := hrel
      by_cases hlt : k < n
      · have hlt' : decide ((k : Int) < n) = true := by simp; omega
        have hlt2 : (k : Int) < n := by omega
        obtain ⟨ab, ao, rfl, hab⟩ := HS.out.addr (by omega)
        obtain ⟨p, hp⟩ : ∃ p, l[k]? = some p := ⟨_, List.getElem?_eq_getElem (by rw [HL.out]; exact hlt)⟩
        obtain ⟨t, f⟩ := p
        obtain ⟨c0, c1⟩ := mv_cells (HS.out.below IB.out (Nat.le_refl _)) hp
        have HP := Lib.hid hp
        have hbz := IB.out.size
        clear hp
        cases h1 : isPlB t with
        | false =>
          have HE := Lib.hid (right_not HP.out (.inl h1))
          go_wp2_with (go_at_call 24; refine (place_any _ _).mono ?_; rintro e w1 ⟨rfl, rfl⟩)
          go_ret
          exact ⟨by rw [HE.out]; rfl, IB.out⟩
        | true =>
          cases h2 : isPlB f with
          | false =>
            have HE := Lib.hid (right_not HP.out (.inr (.inl h2)))
            go_wp2_with (go_at_call 24; refine (place_any _ _).mono ?_; rintro e w1 ⟨rfl, rfl⟩)
            go_ret
            exact ⟨by rw [HE.out]; rfl, IB.out⟩
          | true =>
            go_wp2_with (go_at_call 24; refine (place_any _ _).mono ?_; rintro e w1 ⟨rfl, rfl⟩)
            go_loopw [4] (fun i wi => ∃ j : Nat, j ≤ k ∧ i = .int .i64 j ∧ Hid (∀ m p, m < j → l[m]? = some p → p.1 ≠ t) ∧ Hid (Below w.heap.size w wi)) (fun i _ => k - (intOf i).toNat)
            case atStart => exact ⟨0, by omega, rfl, Lib.hid (fun m p h => by omega), IB⟩
            case round =>
              obtain ⟨wi, rfl⟩ : ∃ wi : World, wi = wr := ⟨_, rfl⟩
              obtain ⟨j, hj, rfl, IN, IBI⟩ := hrel
              by_cases hjk : j < k
              · have hjk' : decide ((j : Int) < k) = true := by simp; omega
                have hjk2 : (j : Int) < n := by omega
                obtain ⟨q, hq⟩ : ∃ q, l[j]? = some q := ⟨_, List.getElem?_eq_getElem (by rw [HL.out]; omega)⟩
                obtain ⟨t2, f2⟩ := q
                have hcc := mv_cells (HS.out.below IBI.out (Nat.le_refl _)) hq
                have hcd := mv_cells (HS.out.below IBI.out (Nat.le_refl _)) HP.out
                obtain ⟨d0, d1⟩ := hcc
                obtain ⟨d2, d3⟩ := hcd
                have HQ := Lib.hid hq
                clear hq c0 c1
                by_cases he : t2 = t
                · have he' : (t2 == t) = true := by simp [he]
                  have HE := Lib.hid (right_not HP.out (.inr (.inr (by
                    show t ∈ tos (l.take k)
                    rw [← he]
                    exact mem_tos (f := f2) (List.mem_iff_getElem?.2 ⟨j, by rw [List.getElem?_take, if_pos hjk]; exact HQ.out⟩)))))
                  clear he
                  go_wp2_with fail
                  go_quiet (fail)
                  go_wp2
                  go_ret
                  exact ⟨by rw [HE.out]; rfl, below_drewN IBI.out _⟩
                · have he' : (t2 == t) = false := by simp [he]
                  have HN := Lib.hid he
                  clear he
                  go_wp2_with fail
                  go_quiet (fail)
                  go_wp2
                  refine ⟨⟨j + 1, by omega, by simp, Lib.hid (fun m p hm hp => ?_), Lib.hid (below_drewN IBI.out _)⟩, by simp [intOf]; omega⟩
                  by_cases e : m = j
                  · subst e; rw [HQ.out] at hp; injection hp with hp; rw [← hp]; exact HN.out
                  · exact IN.out m p (by omega) hp
              · have hjk' : decide ((j : Int) < k) = false := by simp; omega
                have HR := Lib.hid (right_next HP.out (by rw [HL.out]; omega) IR.out h1 h2 (tos_not fun m p hp => by
                  rw [List.getElem?_take] at hp
                  by_cases hmk : m < k
                  · rw [if_pos hmk] at hp; exact IN.out m p (by omega) hp
                  · rw [if_neg hmk] at hp; cases hp))
                go_wp2
                exact ⟨⟨k + 1, by omega, by simp, HR, IBI⟩, by simp [intOf]; omega⟩
      · have hlt' : decide ((k : Int) < n) = false := by simp; omega
        have HE := Lib.hid (show rightB l = true from decide_eq_true (by have := IR.out; rwa [List.take_of_length_le (by rw [HL.out]; omega)] at this))
        go_wp2
        go_ret
        exact ⟨by rw [HE.out]; rfl, IB.out⟩

/-- how many of the first moves are to a ring's least place -/
def RcTo (l : List Mv) (k n : Nat) : Prop := ∃ S : List Int, S.Nodup ∧ (∀ t, t ∈ S ↔ t ∈ tos (l.take k) ∧ MinC l t) ∧ S.length = n
theorem rc_yes {l : List Mv} (hf : Mov.Fn l) {k n : Nat} {p : Mv} (h : l[k]? = some p) (hr : RcTo l k n) (hm : MinC l p.1) : RcTo l (k + 1) (n + 1) := by
  obtain ⟨S, s1, s2, s3⟩ := hr
  have hnew : p.1 ∉ tos (l.take k) := by
    obtain ⟨hk, e⟩ := List.getElem?_eq_some_iff.1 h
    have hnd : (tos (l.take k ++ l.drop k)).Nodup := by rw [List.take_append_drop]; exact hf
    unfold tos at hnd ⊢
    rw [List.map_append, List.nodup_append] at hnd
    intro hin
    have hd : p ∈ l.drop k := by rw [List.drop_eq_getElem_cons hk, e]; simp
    exact hnd.2.2 p.1 hin p.1 (List.mem_map.2 ⟨_, hd, rfl⟩) rfl
  refine ⟨p.1 :: S, List.nodup_cons.2 ⟨fun hin => hnew ((s2 _).1 hin).1, s1⟩, fun t => ?_, by simp [s3]⟩
  rw [tos_take h, List.mem_cons, s2 t, List.mem_append, List.mem_singleton]
  constructor
  · rintro (e | ⟨h1, h2⟩)
    · exact ⟨.inr e, e ▸ hm⟩
    · exact ⟨.inl h1, h2⟩
  · rintro ⟨h1 | h1, h2⟩
    · exact .inr ⟨h1, h2⟩
    · exact .inl h1
theorem rc_no {l : List Mv} {k n : Nat} {p : Mv} (h : l[k]? = some p) (hr : RcTo l k n) (hm : ¬ MinC l p.1) : RcTo l (k + 1) n := by
  obtain ⟨S, s1, s2, s3⟩ := hr
  refine ⟨S, s1, fun t => ?_, s3⟩
  rw [tos_take h, s2 t, List.mem_append, List.mem_singleton]
  constructor
  · rintro ⟨h1, h2⟩
    exact ⟨.inl h1, h2⟩
  · rintro ⟨h1 | h1, h2⟩
    · exact ⟨h1, h2⟩
    · exact absurd (h1 ▸ h2) hm
theorem rc_all {l : List Mv} {k n : Nat} (hk : l.length ≤ k) (h : RcTo l k n) : RC l n := by
  obtain ⟨S, s1, s2, s3⟩ := h
  rw [List.take_of_length_le hk] at s2
  exact ⟨S, s1, fun t => (s2 t).trans ⟨fun h => h.2, fun h => ⟨by obtain ⟨c, hc⟩ := h.1.key; exact mem_tos hc, h⟩⟩, s3⟩
theorem from_next {l : List Mv} (at_ : Int) : (fromV l at_ = -1 ∧ at_ ∉ tos l) ∨ (at_, fromV l at_) ∈ l := by
  unfold fromV
  cases h : getI l at_ with
  | none => exact .inl ⟨rfl, getI_none h⟩
  | some f => exact .inr (getI_some h)
theorem pl_nonneg {t : Int} (h : isPlB t = true) : 0 ≤ t := (of_decide_eq_true h).1

def RRPost (l : List Mv) (w : World) (e : Ending) (w' : World) : Prop := ∃ k : Nat, e = .returned (.int .i64 k) ∧ (rightB l = false → k = 0) ∧ (rightB l = true → RC l k) ∧ k ≤ 256 ∧ Below w.heap.size w w'
set_option maxRecDepth 100000 in
set_option maxHeartbeats 8000000 in
theorem RRings_any (A : Option Addr) (n c : Nat) (l : List Mv) (w : World) (hs : Bk.Src w A (n * 2) (mvV l)) (hm : n ≤ 9223372036854775807) : Calls Try.prog 13 #[.slice A n c] w (RRPost l w) := by
  have hl : l.length = n := by have := hs.1; rw [mvV_len] at this; omega
  have HL := Lib.hid hl
  have HS := Lib.hid hs
  clear hs hl
  cases hr : rightB l with
  | false =>
    have HR := Lib.hid hr
    clear hr
    go_enter Try.func13, Try.ntmps13
    go_wp2_with fail
    refine (RRight_any A n c l _ HS.out hm).mono ?_
    rintro e w1 ⟨rfl, hb1⟩
    rw [HR.out]
    have HB := Lib.hid hb1
    clear hb1
    go_wp2
    go_ret
    exact ⟨0, rfl, fun _ => rfl, (fun h => by rw [HR.out] at h; cases h), by omega, HB.out⟩
  | true =>
    have HR := Lib.hid hr
    clear hr
    have HRP := Lib.hid (show RightP l from of_decide_eq_true HR.out)
    have hn2 : n ≤ 256 := by have := HRP.out.1; rw [HL.out] at this; exact this
    go_enter Try.func13, Try.ntmps13
    go_wp2_with fail
    refine (RRight_any A n c l _ HS.out hm).mono ?_
    rintro e w1 ⟨rfl, hb1⟩
    rw [HR.out]
    have HB1 := Lib.hid hb1
    clear hb1
    go_wp2
    go_loopw [3, 4] (fun nv i wr => ∃ k m : Nat, k ≤ n ∧ m ≤ k ∧ i = .int .i64 k ∧ nv = .int .i64 m ∧ Hid (RcTo l k m) ∧ Hid (Below w.heap.size w wr)) (fun _ i _ => n - (intOf i).toNat)
    case atStart => exact ⟨0, 0, by omega, by omega, rfl, rfl, Lib.hid ⟨[], by simp, by simp [tos], rfl⟩, HB1⟩
    case round =>
      clear HB1
      obtain ⟨wo, rfl⟩ : ∃ wo : World, wo = wr := ⟨_, rfl⟩
      obtain ⟨k, m, hk, hmk, rfl, rfl, IC, IB⟩ := hrel
      by_cases hlt : k < n
      · have hlt' : decide ((k : Int) < n) = true := by simp; omega
        have hlt2 : (k : Int) < n := by omega
        obtain ⟨ab, ao, rfl, hab⟩ := HS.out.addr (by omega)
        obtain ⟨p, hp⟩ : ∃ p, l[k]? = some p := ⟨_, List.getElem?_eq_getElem (by rw [HL.out]; exact hlt)⟩
        obtain ⟨t, f⟩ := p
        obtain ⟨c0, c1⟩ := mv_cells (HS.out.below IB.out (Nat.le_refl _)) hp
        have HP := Lib.hid hp
        have HIN := Lib.hid (List.mem_of_getElem? hp)
        have ht0 : 0 ≤ t := pl_nonneg (HRP.out.2.1 _ HIN.out).1
        clear hp
        go_wp2_with fail
        go_quiet (fail)
        go_wp2
        go_loopw [5, 6, 7] (fun av lv jv wi => ∃ (at_ least : Int) (V : List Int), V.length ≤ n ∧ av = .int .i64 at_ ∧ lv = .int .i64 least ∧ jv = .int .i64 (V.length : Nat) ∧ Hid (WInv l t f V at_ least) ∧ Hid (Below w.heap.size w wi)) (fun _ _ jv _ => n - (intOf jv).toNat)
        case atStart => exact ⟨f, t, [], by simp, rfl, rfl, rfl, Lib.hid (WInv.start HIN.out), Lib.hid (below_drewN IB.out _)⟩
        case round =>
          obtain ⟨wi, rfl⟩ : ∃ wi : World, wi = wr := ⟨_, rfl⟩
          obtain ⟨at_, least, V, hVn, rfl, rfl, rfl, IW, IBI⟩ := hrel
          obtain ⟨d0, d1⟩ := mv_cells (HS.out.below IBI.out (Nat.le_refl _)) HP.out
          clear c0 c1
          obtain ⟨j, hj⟩ : ∃ j, V.length = j := ⟨_, rfl⟩
          rw [hj] at hVn ⊢
          have HJ := Lib.hid hj
          clear hj
          by_cases hgo : j < n ∧ 0 ≤ at_ ∧ at_ ≠ t
          · obtain ⟨g1, g2, g3⟩ := hgo
            have g1' : decide ((j : Int) < n) = true := by simp; omega
            have g2' : decide (0 ≤ at_) = true := by simpa using g2
            have g3' : (at_ != t) = true := by simpa using g3
            have HSI := Lib.hid (HS.out.below IBI.out (Nat.le_refl _))
            have HWN := Lib.hid (IW.out.next HRP.out.fn g2 g3 (from_next at_))
            clear g3
            go_wp2_with (go_at_call 29; refine (from_any _ n c l at_ _ HSI.out hm).mono ?_; rintro e w3 ⟨rfl, rfl⟩)
            all_goals exact ⟨⟨fromV l at_, min least at_, at_ :: V, by simp [HJ.out]; omega, rfl, by congr 1; omega, by simp [HJ.out], HWN, IBI⟩, by simp [intOf]; omega⟩
          · have hend : V.length = l.length ∨ at_ < 0 ∨ at_ = t := by
              rw [HJ.out, HL.out]
              by_cases e1 : j < n
              · by_cases e2 : 0 ≤ at_
                · by_cases e3 : at_ = t
                  · exact .inr (.inr e3)
                  · exact absurd ⟨e1, e2, e3⟩ hgo
                · exact .inr (.inl (by omega))
              · exact .inl (by omega)
            have HD := Lib.hid (IW.out.done HRP.out.fn HIN.out ht0 hend)
            have hfin : ((at_ == t) = true ∧ (least == t) = true ∧ (f != t) = true ∧ MinC l t) ∨ (((at_ == t) = false ∨ ((at_ == t) = true ∧ (least == t) = false) ∨ ((at_ == t) = true ∧ (least == t) = true ∧ (f != t) = false)) ∧ ¬ MinC l t) := by
              by_cases e1 : at_ = t
              · by_cases e2 : least = t
                · by_cases e3 : f = t
                  · exact .inr ⟨.inr (.inr ⟨by simp [e1], by simp [e2], by simp [e3]⟩), fun h => (HD.out.2 h).2.2 e3⟩
                  · exact .inl ⟨by simp [e1], by simp [e2], by simp [e3], HD.out.1 ⟨e1, e2, e3⟩⟩
                · exact .inr ⟨.inr (.inl ⟨by simp [e1], by simp [e2]⟩), fun h => e2 (HD.out.2 h).2.1⟩
              · exact .inr ⟨.inl (by simp [e1]), fun h => e1 (HD.out.2 h).1⟩
            have hgo3 : (decide ((j : Int) < n) = false) ∨ (decide ((j : Int) < n) = true ∧ decide (0 ≤ at_) = false) ∨ (decide ((j : Int) < n) = true ∧ decide (0 ≤ at_) = true ∧ (at_ != t) = false) := by
              by_cases e1 : j < n
              · by_cases e2 : 0 ≤ at_
                · by_cases e3 : at_ = t
                  · exact .inr (.inr ⟨by simp; omega, by simpa using e2, by simp [e3]⟩)
                  · exact absurd ⟨e1, e2, e3⟩ hgo
                · exact .inr (.inl ⟨by simp; omega, by simpa using e2⟩)
              · exact .inl (by simp; omega)
            clear hend hgo HD
            rcases hgo3 with q1 | ⟨q1, q2⟩ | ⟨q1, q2, q3⟩
            · have q0 : ¬ j < n := by simp at q1; omega
              rcases hfin with ⟨z1, z2, z3, z4⟩ | ⟨(z1 | ⟨z1, z2⟩ | ⟨z1, z2, z3⟩), z4⟩
              all_goals
                have HZ := Lib.hid z4
                clear z4
                go_wp2_with fail
                go_quiet (fail)
                go_wp2
                first
                  | exact ⟨⟨k + 1, m + 1, by omega, by omega, by simp, by simp, Lib.hid (rc_yes HRP.out.fn HP.out IC.out HZ.out), Lib.hid (below_drewN IBI.out _)⟩, by simp [intOf]; omega⟩
                  | exact ⟨⟨k + 1, m, by omega, by omega, by simp, rfl, Lib.hid (rc_no HP.out IC.out HZ.out), Lib.hid (below_drewN IBI.out _)⟩, by simp [intOf]; omega⟩
            · have q0 : j < n := by simp at q1; omega
              have z1 : (at_ == t) = false := by simp at q2; simp; omega
              have z4 : ¬ MinC l t := by
                rcases hfin with ⟨y1, _⟩ | ⟨_, y⟩
                · rw [z1] at y1; cases y1
                · exact y
              have HZ := Lib.hid z4
              clear z4 hfin
              go_wp2_with fail
              go_quiet (fail)
              go_wp2
              first
                | exact ⟨⟨k + 1, m + 1, by omega, by omega, by simp, by simp, Lib.hid (rc_yes HRP.out.fn HP.out IC.out HZ.out), Lib.hid (below_drewN IBI.out _)⟩, by simp [intOf]; omega⟩
                | exact ⟨⟨k + 1, m, by omega, by omega, by simp, rfl, Lib.hid (rc_no HP.out IC.out HZ.out), Lib.hid (below_drewN IBI.out _)⟩, by simp [intOf]; omega⟩
            · have q0 : j < n := by simp at q1; omega
              have e : at_ = t := by simpa using q3
              subst e
              have z1 : (at_ == at_) = true := by simp
              have hf2 : ((least == at_) = true ∧ (f != at_) = true ∧ MinC l at_) ∨ ((least == at_) = false ∧ ¬ MinC l at_) ∨ ((least == at_) = true ∧ (f != at_) = false ∧ ¬ MinC l at_) := by
                rcases hfin with ⟨_, y2, y3, y4⟩ | ⟨(y1 | ⟨_, y2⟩ | ⟨_, y2, y3⟩), y4⟩
                · exact .inl ⟨y2, y3, y4⟩
                · rw [z1] at y1; cases y1
                · exact .inr (.inl ⟨y2, y4⟩)
                · exact .inr (.inr ⟨y2, y3, y4⟩)
              clear hfin
              rcases hf2 with ⟨z2, z3, z4⟩ | ⟨z2, z4⟩ | ⟨z2, z3, z4⟩
              all_goals
                have HZ := Lib.hid z4
                clear z4
                go_wp2_with fail
                go_quiet (fail)
                go_wp2
                first
                  | exact ⟨⟨k + 1, m + 1, by omega, by omega, by simp, by simp, Lib.hid (rc_yes HRP.out.fn HP.out IC.out HZ.out), Lib.hid (below_drewN IBI.out _)⟩, by simp [intOf]; omega⟩
                  | exact ⟨⟨k + 1, m, by omega, by omega, by simp, rfl, Lib.hid (rc_no HP.out IC.out HZ.out), Lib.hid (below_drewN IBI.out _)⟩, by simp [intOf]; omega⟩
      · have hlt' : decide ((k : Int) < n) = false := by simp; omega
        go_wp2
        go_ret
        exact ⟨m, rfl, (fun h => by rw [HR.out] at h; cases h), fun _ => rc_all (by rw [HL.out]; omega) IC.out, by omega, IB.out⟩
end Go.Proofs.Ytbnfhcdodejmhaa

/-
  The law's alive: what is live in the small row, and that its places do not clash.
  Conditions: none.
-/
import Derived.Test.YtkfnnmdghibjbaaLivLs
namespace Go.Proofs.Ytkfnnmdghibjbaa
open Go.RowKit Go.Bk Go.Bk.Liv
set_option linter.unusedVariables false
set_option linter.unusedSimpArgs false
def noE : EnvD := ⟨[], 0, [], [], false⟩
theorem noE_v (w : World) : EnvV w (.agg #[.slice none 0 0, .int .i64 0, .slice none 0 0, .slice none 0 0, .bool false]) noE :=
  ⟨_, _, _, rfl, ⟨none, 0, [], rfl, Nat.le_refl _, fun _ => rfl, by omega, rfl, by simp, fun i r x h => by simp at h, Src.nil _ _⟩, Ints.nil _, ⟨none, 0, rfl, Src.nil _ _, Nat.le_refl _, fun _ => rfl, by omega⟩⟩
theorem next_small {i : Nat} {c : CodeD} (h : smallD.code[i]? = some c) {x : Int} (hx : x ∈ nextOf c i) : x = (i : Int) + 1 ∧ i < 3 := by
  match i, h with
  | 0, h => injection h with h; subst h; simp [nextOf] at hx; exact ⟨hx, by omega⟩
  | 1, h => injection h with h; subst h; simp [nextOf] at hx; exact ⟨by omega, by omega⟩
  | 2, h => injection h with h; subst h; simp [nextOf] at hx; exact ⟨by omega, by omega⟩
  | 3, h => injection h with h; subst h; simp [nextOf] at hx
  | n + 4, h => simp [smallD] at h
theorem small_ok : CheckP noE smallD where
  env := by decide
  sig := by decide
  n1 := by decide
  n2 := by decide
  p1 := by decide
  p2 := by decide
  par := rfl
  pin := rfl
  pun := by simp [smallD]
  code c hc := by
    simp only [smallD, List.mem_cons, List.not_mem_nil, or_false] at hc
    rcases hc with rfl | rfl | rfl | rfl <;> rfl
  first c hc := by injection hc with hc; subst hc; rfl
  last c hc := by injection hc with hc; subst hc; decide
  rank := ⟨fun i => 4 - i, fun i c k hc _ hk => by
    obtain ⟨h1, h2⟩ := next_small hc hk
    show 4 - k < 4 - i
    omega⟩
def lA : List (List Int) := [[], [], [0], [1]]
def lB : List (List Int) := [[], [0], [1], []]
theorem live2 : Live smallD 2 0 := .arg (c := ⟨106, 0, [0, 0], [1], []⟩) rfl (by simp)
theorem live3 : Live smallD 3 1 := .arg (c := ⟨276, 0, [1], [], []⟩) rfl (by simp)
theorem small_snd : Snd smallD lA lB where
  lA := rfl
  lB := rfl
  nA s hs := by
    simp only [lA, List.mem_cons, List.not_mem_nil, or_false] at hs
    rcases hs with rfl | rfl | rfl | rfl <;> simp
  nB s hs := by
    simp only [lB, List.mem_cons, List.not_mem_nil, or_false] at hs
    rcases hs with rfl | rfl | rfl | rfl <;> simp
  sA i s x hi hx := by
    match i, hi with
    | 0, hi => injection hi with hi; subst hi; simp at hx
    | 1, hi => injection hi with hi; subst hi; simp at hx
    | 2, hi => injection hi with hi; subst hi; simp at hx; subst hx; exact live2
    | 3, hi => injection hi with hi; subst hi; simp at hx; subst hx; exact live3
    | n + 4, hi => simp [lA] at hi
  sB i s x hi hx := by
    match i, hi with
    | 0, hi => injection hi with hi; subst hi; simp at hx
    | 1, hi => injection hi with hi; subst hi; simp at hx; subst hx; exact ⟨⟨256, 1, [], [0], []⟩, rfl, 2, by simp [nextOf], live2⟩
    | 2, hi => injection hi with hi; subst hi; simp at hx; subst hx; exact ⟨⟨106, 0, [0, 0], [1], []⟩, rfl, 3, by simp [nextOf], live3⟩
    | 3, hi => injection hi with hi; subst hi; simp at hx
    | n + 4, hi => simp [lB] at hi
theorem small_stab (i : Nat) (hi : i < 4) : Stab smallD lA lB i := by
  intro c s t hc hs ht
  have hn := fun (k : Nat) (hk : (k : Int) ∈ nextOf c i) => next_small hc hk
  match i, hi, hc, hs, ht with
  | 0, _, hc, hs, ht =>
    injection hc with hc; injection hs with hs; injection ht with ht; subst hc; subst hs; subst ht
    refine ⟨by simp, fun k hk u hu x hx => ?_⟩
    have : k = 1 := by have := (hn k hk).1; omega
    subst this
    injection hu with hu; subst hu; simp at hx
  | 1, _, hc, hs, ht =>
    injection hc with hc; injection hs with hs; injection ht with ht; subst hc; subst hs; subst ht
    refine ⟨by simp, fun k hk u hu x hx => ?_⟩
    have : k = 2 := by have := (hn k hk).1; omega
    subst this
    injection hu with hu; subst hu; simp at hx; subst hx; simp
  | 2, _, hc, hs, ht =>
    injection hc with hc; injection hs with hs; injection ht with ht; subst hc; subst hs; subst ht
    refine ⟨by simp, fun k hk u hu x hx => ?_⟩
    have : k = 3 := by have := (hn k hk).1; omega
    subst this
    injection hu with hu; subst hu; simp at hx; subst hx; simp
  | 3, _, hc, hs, ht =>
    injection hc with hc; injection hs with hs; injection ht with ht; subst hc; subst hs; subst ht
    refine ⟨by simp, fun k hk u hu x hx => ?_⟩
    have := (hn k hk).2
    omega
theorem small_all : (∀ (i : Nat) s x, lA[i]? = some s → (x ∈ s ↔ Live smallD i x)) ∧ (∀ (i : Nat) s x, lB[i]? = some s → (x ∈ s ↔ LiveB smallD i x)) := all_stable small_ok.flow small_snd (fun i hi => small_stab i hi)
theorem small_ahead (i : Nat) (p : List Int) (h : lA[i]? = some p) : IsSet p (Live smallD i) := by
  refine ⟨?_, fun x => small_all.1 i p x h⟩
  have := List.mem_of_getElem? h
  simp only [lA, List.mem_cons, List.not_mem_nil, or_false] at this
  rcases this with rfl | rfl | rfl | rfl <;> simp
theorem small_behind (i : Nat) (p : List Int) (h : lB[i]? = some p) : IsSet p (LiveB smallD i) := by
  refine ⟨?_, fun x => small_all.2 i p x h⟩
  have := List.mem_of_getElem? h
  simp only [lB, List.mem_cons, List.not_mem_nil, or_false] at this
  rcases this with rfl | rfl | rfl | rfl <;> simp
theorem small_noout {o p : Int} (h : AtOut smallD o p) : o = p := by
  obtain ⟨i, c, hc, ho, hp⟩ := h
  match i, hc with
  | 0, hc => injection hc with hc; subst hc; simp at ho
  | 1, hc =>
    injection hc with hc; subst hc; simp at ho; subst ho
    rcases hp with ⟨hp, _⟩ | hp
    · have := (small_all.2 1 _ p rfl).2 hp
      simp at this; exact this.symm
    · simp at hp; exact hp.symm
  | 2, hc =>
    injection hc with hc; subst hc; simp at ho; subst ho
    rcases hp with ⟨hp, _⟩ | hp
    · have := (small_all.2 2 _ p rfl).2 hp
      simp at this; exact this.symm
    · simp at hp; exact hp.symm
  | 3, hc => injection hc with hc; subst hc; simp at ho
  | n + 4, hc => simp [smallD] at hc
theorem small_clash (i : Nat) (p : List Int) (h : [([] : List Int), []][i]? = some p) : IsSet p (Clashes smallD (i : Int)) := by
  have hp : p = [] := by
    have := List.mem_of_getElem? h
    simpa using this
  subst hp
  refine ⟨by simp, fun x => ⟨fun h => by simp at h, fun hx => ?_⟩⟩
  obtain ⟨hne, (h | h) | (h | h)⟩ := hx
  · exact absurd (small_noout h) hne
  · have := h.1; simp [smallD] at this
  · exact absurd (small_noout h).symm hne
  · have := h.1; simp [smallD] at this
theorem Told.ll {w : World} {base : Nat} {v : Value} {n : Nat} {Q : Nat → Int → Prop} (h : Told w base v n Q) {L : List (List Int)} (hl : L.length = n) (hL : ∀ (i : Nat) p, L[i]? = some p → IsSet p (Q i)) : LL w v L := by
  obtain ⟨vs, P, h1, h2, h3, h4⟩ := h
  have e : P = L := by
    apply List.ext_getElem?
    intro i
    by_cases hi : i < n
    · have a := List.getElem?_eq_getElem (show i < P.length by omega)
      have b := List.getElem?_eq_getElem (show i < L.length by omega)
      rw [a, b, (h4 i _ a).one (hL i _ b)]
    · rw [List.getElem?_eq_none (by omega), List.getElem?_eq_none (by omega)]
  subst e
  subst h3
  obtain ⟨A, c, rfl, _⟩ := own_shape h1
  refine ⟨A, c, vs, rfl, Bk.Src.of_own h1, fun i u p q1 q2 => ?_⟩
  have hu := h2.2 i u p q1 q2
  obtain ⟨B, k, rfl, _⟩ := own_shape hu
  exact ⟨B, k, rfl, Bk.Src.of_own hu⟩
def AlPost (w : World) (en : Ending) (w' : World) : Prop := en = .returned (.bool true) ∧ Below w.heap.size w w'
theorem ll_blk {w : World} {g n : Nat} {cs : Array Value} {L : List (List Int)} (h : Blk w g 23 cs) (hn : cs.size = n) (hl : L.length = n) (hr : ∀ (i : Nat) u p, cs.toList[i]? = some u → L[i]? = some p → IR w u p) : LL w (.slice (some ⟨g, 0, none⟩) n n) L := by
  subst hl
  exact ⟨_, _, cs.toList, rfl, Blk.srcAll h hn, hr⟩
set_option maxRecDepth 100000 in
set_option maxHeartbeats 4000000 in
theorem alive_any (w : World) : Calls Try.prog 14 #[] w (AlPost w) := by
  go_enter Try.func14, Try.ntmps14
  go_wp2_with fail
  refine (small_any _).mono ?_
  rintro en w1 ⟨v1, rfl, hr1, hb1⟩
  have HR1 := Lib.hid hr1
  have HB1 := Lib.hid hb1
  clear hr1 hb1
  go_wp2_with fail
  refine (Ahead_any noE smallD _ _ _ (noE_v _) HR1.out).mono ?_
  rintro en w2 (⟨hn, _, _⟩ | ⟨_, va, rfl, hT, hb⟩)
  · exact absurd small_ok hn
  have HTA := Lib.hid (hT.ll (L := lA) rfl small_ahead)
  have HB2 := Lib.hid (HB1.out.trans (hb.mono HB1.out.size))
  clear hT hb HR1
  go_wp2_with fail
  refine (small_any _).mono ?_
  rintro en w3 ⟨v3, rfl, hr1, hb1⟩
  have HR3 := Lib.hid hr1
  have HB3 := Lib.hid (HB2.out.trans (hb1.mono HB2.out.size))
  have HTA3 := Lib.hid (HTA.out.below hb1 (Nat.le_refl _))
  clear hr1 hb1 HTA
  go_wp2_with fail
  refine (Behind_any noE smallD _ _ _ (noE_v _) HR3.out).mono ?_
  rintro en w4 (⟨hn, _, _⟩ | ⟨_, vb, rfl, hT, hb⟩)
  · exact absurd small_ok hn
  have HTB := Lib.hid (hT.ll (L := lB) rfl small_behind)
  have HB4 := Lib.hid (HB3.out.trans (hb.mono HB3.out.size))
  have HTA4 := Lib.hid (HTA3.out.below hb (Nat.le_refl _))
  clear hT hb HR3 HTA3
  go_wp2_with fail
  refine (small_any _).mono ?_
  rintro en w5 ⟨v5, rfl, hr1, hb1⟩
  have HR5 := Lib.hid hr1
  have HB5 := Lib.hid (HB4.out.trans (hb1.mono HB4.out.size))
  have HTA5 := Lib.hid (HTA4.out.below hb1 (Nat.le_refl _))
  have HTB5 := Lib.hid (HTB.out.below hb1 (Nat.le_refl _))
  clear hr1 hb1 HTA4 HTB
  go_wp2_with fail
  refine (Clash_any noE smallD _ _ _ (noE_v _) HR5.out).mono ?_
  rintro en w6 (⟨hn, _, _⟩ | ⟨_, vc, rfl, hT, hb⟩)
  · exact absurd small_ok hn
  have HTC := Lib.hid (hT.ll (L := [[], []]) rfl small_clash)
  have HB6 := Lib.hid (HB5.out.trans (hb.mono HB5.out.size))
  have HTA6 := Lib.hid (HTA5.out.below hb (Nat.le_refl _))
  have HTB6 := Lib.hid (HTB5.out.below hb (Nat.le_refl _))
  clear hT hb HR5 HTA5 HTB5
  go_wp2_with fail
  have HBa := Lib.hid (al3 w6 (.cells #[.int .i64 0] 3) (.cells #[.int .i64 1] 3) (.cells #[.slice none 0 0, .slice none 0 0, .slice (some ⟨w6.heap.size, 0, none⟩) 1 1, .slice (some ⟨w6.heap.size + 1, 0, none⟩) 1 1] 23))
  refine (Lists_eq _ _ lA _ (HTA6.out.below HBa.out (Nat.le_refl _)) (ll_blk (cs := #[.slice none 0 0, .slice none 0 0, .slice (some ⟨w6.heap.size, 0, none⟩) 1 1, .slice (some ⟨w6.heap.size + 1, 0, none⟩) 1 1]) (Blk.newAt _ _ _ (by simp)) rfl rfl ?_) (by decide) (by decide)).mono ?_
  · intro i u p q1 q2
    match i, q1, q2 with
    | 0, q1, q2 => injection q1 with q1; injection q2 with q2; subst q1; subst q2; exact IR.nil _
    | 1, q1, q2 => injection q1 with q1; injection q2 with q2; subst q1; subst q2; exact IR.nil _
    | 2, q1, q2 => injection q1 with q1; injection q2 with q2; subst q1; subst q2; exact IR.one (Blk.alloc (Blk.alloc (Blk.new _ _ _) _) _)
    | 3, q1, q2 => injection q1 with q1; injection q2 with q2; subst q1; subst q2; exact IR.one (Blk.alloc (Blk.newAt _ _ _ (by simp)) _)
    | n + 4, q1, q2 => simp [lA] at q2
  rintro en w7 ⟨rfl, m7, rfl⟩
  have hB7 : Below w6.heap.size w6 ((((w6.alloc (.cells #[.int .i64 0] 3)).alloc (.cells #[.int .i64 1] 3)).alloc (.cells #[.slice none 0 0, .slice none 0 0, .slice (some ⟨w6.heap.size, 0, none⟩) 1 1, .slice (some ⟨w6.heap.size + 1, 0, none⟩) 1 1] 23)).drewN m7) := below_drewN HBa.out _
  obtain ⟨w7, hw7⟩ : ∃ w7, ((((w6.alloc (.cells #[.int .i64 0] 3)).alloc (.cells #[.int .i64 1] 3)).alloc (.cells #[.slice none 0 0, .slice none 0 0, .slice (some ⟨w6.heap.size, 0, none⟩) 1 1, .slice (some ⟨w6.heap.size + 1, 0, none⟩) 1 1] 23)).drewN m7) = w7 := ⟨_, rfl⟩
  rw [hw7] at hB7 ⊢
  have HB7 := Lib.hid (HB6.out.trans (hB7.mono HB6.out.size))
  have HTB7 := Lib.hid (HTB6.out.below hB7 (Nat.le_refl _))
  have HTC7 := Lib.hid (HTC.out.below hB7 (Nat.le_refl _))
  clear hB7 hw7 HTB6 HTC HTA6 HBa
  go_wp2_with fail
  have HBb := Lib.hid (al3 w7 (.cells #[.int .i64 0] 3) (.cells #[.int .i64 1] 3) (.cells #[.slice none 0 0, .slice (some ⟨w7.heap.size, 0, none⟩) 1 1, .slice (some ⟨w7.heap.size + 1, 0, none⟩) 1 1, .slice none 0 0] 23))
  refine (Lists_eq _ _ lB _ (HTB7.out.below HBb.out (Nat.le_refl _)) (ll_blk (cs := #[.slice none 0 0, .slice (some ⟨w7.heap.size, 0, none⟩) 1 1, .slice (some ⟨w7.heap.size + 1, 0, none⟩) 1 1, .slice none 0 0]) (Blk.newAt _ _ _ (by simp)) rfl rfl ?_) (by decide) (by decide)).mono ?_
  · intro i u p q1 q2
    match i, q1, q2 with
    | 0, q1, q2 => injection q1 with q1; injection q2 with q2; subst q1; subst q2; exact IR.nil _
    | 1, q1, q2 => injection q1 with q1; injection q2 with q2; subst q1; subst q2; exact IR.one (Blk.alloc (Blk.alloc (Blk.new _ _ _) _) _)
    | 2, q1, q2 => injection q1 with q1; injection q2 with q2; subst q1; subst q2; exact IR.one (Blk.alloc (Blk.newAt _ _ _ (by simp)) _)
    | 3, q1, q2 => injection q1 with q1; injection q2 with q2; subst q1; subst q2; exact IR.nil _
    | n + 4, q1, q2 => simp [lB] at q2
  rintro en w8' ⟨rfl, m8, rfl⟩
  have hB8 : Below w7.heap.size w7 ((((w7.alloc (.cells #[.int .i64 0] 3)).alloc (.cells #[.int .i64 1] 3)).alloc (.cells #[.slice none 0 0, .slice (some ⟨w7.heap.size, 0, none⟩) 1 1, .slice (some ⟨w7.heap.size + 1, 0, none⟩) 1 1, .slice none 0 0] 23)).drewN m8) := below_drewN HBb.out _
  obtain ⟨w8, hw8⟩ : ∃ w8, ((((w7.alloc (.cells #[.int .i64 0] 3)).alloc (.cells #[.int .i64 1] 3)).alloc (.cells #[.slice none 0 0, .slice (some ⟨w7.heap.size, 0, none⟩) 1 1, .slice (some ⟨w7.heap.size + 1, 0, none⟩) 1 1, .slice none 0 0] 23)).drewN m8) = w8 := ⟨_, rfl⟩
  rw [hw8] at hB8 ⊢
  have HB8 := Lib.hid (HB7.out.trans (hB8.mono HB7.out.size))
  have HTC8 := Lib.hid (HTC7.out.below hB8 (Nat.le_refl _))
  clear hB8 hw8 HTB7 HTC7 HBb
  go_wp2_with fail
  have HBc := Lib.hid (Below.alloc (Below.refl w8.heap.size w8) (Nat.le_refl _) (.cells #[.slice none 0 0, .slice none 0 0] 23))
  refine (Lists_eq _ _ [[], []] _ (HTC8.out.below HBc.out (Nat.le_refl _)) (ll_blk (cs := #[.slice none 0 0, .slice none 0 0]) (Blk.new _ _ _) rfl rfl ?_) (by decide) (by decide)).mono ?_
  · intro i u p q1 q2
    match i, q1, q2 with
    | 0, q1, q2 => injection q1 with q1; injection q2 with q2; subst q1; subst q2; exact IR.nil _
    | 1, q1, q2 => injection q1 with q1; injection q2 with q2; subst q1; subst q2; exact IR.nil _
    | n + 2, q1, q2 => simp at q2
  rintro en w9' ⟨rfl, m9, rfl⟩
  have HB9 := Lib.hid (HB8.out.trans ((below_drewN HBc.out m9).mono HB8.out.size))
  clear HBc HTC8
  go_wp2
  go_ret
  exact ⟨rfl, HB9.out⟩
set_option maxHeartbeats 1000000 in
theorem has_any (v : Value) (l : List Int) (x : Int) (w : World) (hs : IR w v l) (hm : l.length ≤ 9223372036854775806) :
    Calls Try.prog 17 #[v, .int .i64 x] w fun e w' => e = .returned (.bool (decide (x ∈ l))) ∧ w = w' := by
  obtain ⟨A, c, rfl⟩ := hs.shape
  have HS := Lib.hid hs
  obtain ⟨n, hn⟩ : ∃ n, l.length = n := ⟨_, rfl⟩
  rw [hn] at HS hm ⊢
  have HN := Lib.hid hn
  clear hs hn
  go_enter Try.func17, Try.ntmps17
  go_wp2
  go_loop [9] (fun i => ∃ k : Nat, k ≤ n ∧ i = .int .i64 k ∧ Hid (x ∉ l.take k)) (fun i => n - (intOf i).toNat)
  case atStart => exact ⟨0, by omega, rfl, Lib.hid (by simp)⟩
  case round =>
    obtain ⟨k, hk, rfl, IN⟩ := hrel
    by_cases hlt : k < n
    · have hlt' : decide ((k : Int) < n) = true := by simp; omega
      have hlt2 : (k : Int) < n := by omega
      obtain ⟨y, hy⟩ : ∃ y, l[k]? = some y := ⟨_, List.getElem?_eq_getElem (by rw [HN.out]; exact hlt)⟩
      obtain ⟨ab, ao, rfl, hab, hcl⟩ := HS.out.cell hy
      have HY := Lib.hid hy
      clear hy
      by_cases hxy : y = x
      · have q1 : (y == x) = true := by simp [hxy]
        have HX := Lib.hid (show decide (x ∈ l) = true by rw [decide_eq_true_eq, ← hxy]; exact List.mem_of_getElem? HY.out)
        clear hxy
        go_wp2
        go_ret
        exact ⟨by rw [HX.out]; rfl, rfl⟩
      · have q1 : (y == x) = false := by simp [hxy]
        have HX := Lib.hid (show x ∉ l.take (k + 1) by
          rw [take_step HY.out]
          rintro (h | h)
          · exact IN.out h
          · exact hxy h.symm)
        clear hxy IN
        go_wp2
        go_round
        case rel => exact ⟨k + 1, by omega, by simp, HX⟩
        case measure => simp [intOf]; omega
    · have hlt' : decide ((k : Int) < n) = false := by simp; omega
      have HX := Lib.hid (show decide (x ∈ l) = false by
        rw [decide_eq_false_iff_not]
        have := IN.out
        rwa [List.take_of_length_le (by rw [HN.out]; omega)] at this)
      go_wp2
      go_ret
      exact ⟨by rw [HX.out]; rfl, rfl⟩
end Go.Proofs.Ytkfnnmdghibjbaa

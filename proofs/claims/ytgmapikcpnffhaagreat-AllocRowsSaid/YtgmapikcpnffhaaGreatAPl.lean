/-
 Homes of places in plain words, and rows told by them.
 Conditions: none.
-/
import Derived.Test.YtgmapikcpnffhaaGreatLGen
import Derived.Test.YtgmapikcpnffhaaGreatLRx
namespace Go.Bk.Liv
open Go Go.Bk
set_option linter.unusedVariables false
set_option linter.unusedSimpArgs false
/-- the first home from one on that is not taken -/
def giveV (first : Nat) (tk : List Int) : Nat := ((List.range 2048).find? fun n => decide (first ≤ n ∧ n ≠ 15 ∧ (n : Int) ∉ tk)).getD 2048
theorem giveV_spec {first : Nat} {tk : List Int} {c : Nat} (hc : c < 2048) (h : first ≤ c ∧ c ≠ 15 ∧ (c : Int) ∉ tk) :
  giveV first tk ≤ c ∧ (first ≤ giveV first tk ∧ giveV first tk ≠ 15 ∧ ((giveV first tk : Nat) : Int) ∉ tk) ∧ ∀ n, n < giveV first tk → ¬ (first ≤ n ∧ n ≠ 15 ∧ (n : Int) ∉ tk) := by
 unfold giveV
 cases hf : (List.range 2048).find? fun n => decide (first ≤ n ∧ n ≠ 15 ∧ (n : Int) ∉ tk) with
 | none =>
  rw [List.find?_eq_none] at hf
  have := hf c (List.mem_range.2 hc)
  exact absurd (decide_eq_true h) this
 | some x =>
  have hx := List.find?_some hf
  simp only [decide_eq_true_eq] at hx
  rw [List.find?_range_eq_some] at hf
  have hmin : ∀ n, n < x → ¬ (first ≤ n ∧ n ≠ 15 ∧ (n : Int) ∉ tk) := fun n hn => by
   have := hf.2.2 n hn
   simp only [decide_eq_true_eq, Bool.not_eq_true, decide_eq_false_iff_not, Bool.not_eq_eq_eq_not, Bool.not_true] at this
   exact this
  simp only [Option.getD_some]
  refine ⟨?_, hx, hmin⟩
  rcases Nat.lt_or_ge c x with hlt | hge
  ·exact absurd h (hmin c hlt)
  ·exact hge
theorem giveV_at {first n : Nat} {tk : List Int} (hn : n < 2048) (h : first ≤ n ∧ n ≠ 15 ∧ (n : Int) ∉ tk) (hm : ∀ m, m < n → ¬ (first ≤ m ∧ m ≠ 15 ∧ (m : Int) ∉ tk)) : giveV first tk = n := by
 obtain ⟨g1, g2, g3⟩ := giveV_spec hn h
 rcases Nat.lt_or_ge (giveV first tk) n with hlt | hge
 ·exact absurd g2 (hm _ hlt)
 ·omega
theorem giveV_none {first : Nat} {tk : List Int} (hm : ∀ m, m < 2048 → ¬ (first ≤ m ∧ m ≠ 15 ∧ (m : Int) ∉ tk)) : giveV first tk = 2048 := by
 unfold giveV
 rw [List.find?_eq_none.2 (fun x hx => by have := hm x (List.mem_range.1 hx); simpa using this)]
 rfl
theorem giveV_congr {first : Nat} {a b : List Int} (h : ∀ x, x ∈ a ↔ x ∈ b) : giveV first a = giveV first b := by
 unfold giveV
 simp only [h]
end Go.Bk.Liv
namespace Go.Bk.Liv
open Go Go.Bk
/-- homes that may be, as the document asks -/
structure RightP (r : RowD) (P : Nat) (hs : List Int) : Prop where
 len : hs.length = P
 ok : ∀ h ∈ hs, 0 ≤ h ∧ h ≠ 15 ∧ h < 16 + (P : Int) ∧ (P ≤ 7 → h < 16)
 gap : ∀ s h : Int, 16 ≤ s → h ∈ hs → s ≤ h → s ∈ hs
 cl : ∀ (i j : Nat) hi hj, hs[i]? = some hi → hs[j]? = some hj → Clashes r i j → hi ≠ hj
 ac : ∀ (i : Nat) hi, hs[i]? = some hi → AcrossP r i → 8 ≤ hi
/-- homes given so far: of the places in D -/
structure GrInv (r : RowD) (P : Nat) (D : List Nat) (H : Nat → Int) : Prop where
 un : ∀ p, p ∉ D → H p = -1
 ok : ∀ p ∈ D, 0 ≤ H p ∧ H p ≠ 15 ∧ H p < 16 + (P : Int) ∧ (P ≤ 7 → H p < 16) ∧ (AcrossP r p → 8 ≤ H p)
 cl : ∀ p ∈ D, ∀ q ∈ D, Clashes r p q → H p ≠ H q
 gap : ∀ p ∈ D, 17 ≤ H p → ∃ q ∈ D, H q = H p - 1
theorem GrInv.start (r : RowD) (P : Nat) : GrInv r P [] (fun _ => -1) := ⟨fun _ _ => rfl, fun p h => by simp at h, fun p h => by simp at h, fun p h => by simp at h⟩
theorem GrInv.step {e : EnvD} {r : RowD} {P : Nat} {D : List Nat} {H : Nat → Int} {p : Nat} {cl : List Int} {first : Nat} (h : GrInv r P D H) (hc : CheckP e r) (hP : r.places = P) (hP2 : P ≤ 2032) (hp : p < P) (hnp : p ∉ D) (hcl : IsSet cl (Clashes r p)) (hfirst : (first = 8 ∧ AcrossP r p) ∨ (first = 0 ∧ ¬ AcrossP r p)) :
  GrInv r P (D ++ [p]) (fun q => if q = p then ((giveV first (cl.map fun x => H x.toNat) : Nat) : Int) else H q) := by
 obtain ⟨tk, htk⟩ : ∃ tk, cl.map (fun x => H x.toNat) = tk := ⟨_, rfl⟩
 rw [htk]
 have hclr : ∀ x ∈ cl, 0 ≤ x ∧ x < (P : Int) ∧ x ≠ (p : Int) := fun x hx => by
  have hx := (hcl.2 x).1 hx
  have := hx.range hc
  have hne := hx.1
  omega
 have hlen : cl.length ≤ P - 1 := by
  have h1 : (cl.map Int.toNat).Nodup := by
   rw [List.Nodup, List.pairwise_map]
   exact (List.Pairwise.and_mem.1 hcl.1).imp (fun {a b} h => by
    have ha := hclr a h.1
    have hb := hclr b h.2.1
    have := h.2.2
    omega)
  have h2 : (cl.map Int.toNat).length ≤ ((List.range P).erase p).length := List.Nodup.length_le_of_subset h1 fun y hy => by
   obtain ⟨x, hx, rfl⟩ := List.mem_map.1 hy
   have := hclr x hx
   rw [List.Nodup.mem_erase_iff List.nodup_range]
   exact ⟨by omega, List.mem_range.2 (by omega)⟩
  rw [List.length_map, List.length_erase_of_mem (List.mem_range.2 hp), List.length_range] at h2
  exact h2
 have pigeon : ∀ C : List Nat, C.Nodup → P - 1 < C.length → ∃ c ∈ C, (c : Int) ∉ tk := by
  intro C hC hlt
  refine Classical.byContradiction fun hn => ?_
  have h1 : (C.map fun c : Nat => (c : Int)).Nodup := by
   rw [List.Nodup, List.pairwise_map]
   exact hC.imp (fun h => by omega)
  have h2 : (C.map fun c : Nat => (c : Int)).length ≤ tk.length := List.Nodup.length_le_of_subset h1 fun y hy => by
   obtain ⟨c, hcc, rfl⟩ := List.mem_map.1 hy
   exact Classical.byContradiction fun h => hn ⟨c, hcc, h⟩
  rw [← htk] at h2
  simp only [List.length_map] at h2
  omega
 have f8 : first ≤ 8 := by omega
 obtain ⟨c, hcm, hct⟩ := pigeon ((List.range P).map fun i => 16 + i) (by
  rw [List.Nodup, List.pairwise_map]
  exact List.nodup_range.imp (fun h => by omega)) (by simp; omega)
 obtain ⟨i, hi, rfl⟩ := List.mem_map.1 hcm
 have hi := List.mem_range.1 hi
 have g := giveV_spec (first := first) (c := 16 + i) (by omega) ⟨by omega, by omega, hct⟩
 obtain ⟨g1, ⟨g2, g3, g4⟩, g5⟩ := g
 have g6 : P ≤ 7 → giveV first tk < 16 := by
  intro h7
  obtain ⟨c, hcm, hct⟩ := pigeon ((List.range 7).map fun i => 8 + i) (by
   rw [List.Nodup, List.pairwise_map]
   exact List.nodup_range.imp (fun h => by omega)) (by simp; omega)
  obtain ⟨i, hi, rfl⟩ := List.mem_map.1 hcm
  have hi := List.mem_range.1 hi
  have := (giveV_spec (first := first) (c := 8 + i) (by omega) ⟨by omega, by omega, hct⟩).1
  omega
 obtain ⟨gv, hgv⟩ : ∃ gv, giveV first tk = gv := ⟨_, rfl⟩
 rw [hgv] at g1 g2 g3 g4 g5 g6 ⊢
 have old : ∀ q, q ∈ D → q ≠ p := fun q hq e => hnp (e ▸ hq)
 have mem : ∀ q, q ∈ D ++ [p] ↔ q ∈ D ∨ q = p := fun q => by simp
 have taken : ∀ q, q ∈ D → Clashes r p q → H q ∈ tk := fun q hq hx => by
  rw [← htk]
  exact List.mem_map.2 ⟨(q : Int), (hcl.2 _).2 hx, by simp⟩
 refine ⟨fun q hq => ?_, fun q hq => ?_, fun a ha b hb hab => ?_, fun q hq h17 => ?_⟩
 ·rw [mem] at hq
  rw [if_neg (fun e => hq (.inr e))]
  exact h.un q (fun e => hq (.inl e))
 ·rcases (mem q).1 hq with hq | hq
  ·rw [if_neg (old q hq)]; exact h.ok q hq
  ·subst hq
   rw [if_pos rfl]
   refine ⟨by omega, by omega, by omega, fun h7 => by have := g6 h7; omega, fun hac => ?_⟩
   rcases hfirst with ⟨e, _⟩ | ⟨_, hn⟩
   ·omega
   ·exact absurd hac hn
 ·rcases (mem a).1 ha with ha1 | ha1
  ·rcases (mem b).1 hb with hb1 | hb1
   ·rw [if_neg (old a ha1), if_neg (old b hb1)]; exact h.cl a ha1 b hb1 hab
   ·rw [if_neg (old a ha1), if_pos hb1]
    intro e
    rw [hb1] at hab
    exact g4 (e ▸ taken a ha1 hab.symm)
  ·rcases (mem b).1 hb with hb1 | hb1
   ·rw [if_pos ha1, if_neg (old b hb1)]
    intro e
    rw [ha1] at hab
    exact g4 (e ▸ taken b hb1 hab)
   ·rw [ha1, hb1] at hab
    exact absurd rfl hab.1
 ·rcases (mem q).1 hq with hq | hq
  ·rw [if_neg (old q hq)] at h17 ⊢
   obtain ⟨q2, h1, h2⟩ := h.gap q hq h17
   exact ⟨q2, by simp [h1], by rw [if_neg (old q2 h1)]; exact h2⟩
  ·subst hq
   rw [if_pos rfl] at h17 ⊢
   have hno := g5 (gv - 1) (by omega)
   have hin : ((gv - 1 : Nat) : Int) ∈ tk := Classical.byContradiction fun hn => hno ⟨by omega, by omega, hn⟩
   rw [← htk] at hin
   obtain ⟨x, hx, he⟩ := List.mem_map.1 hin
   have hxD : x.toNat ∈ D := Classical.byContradiction fun hn => by
    have := h.un _ hn
    omega
   exact ⟨x.toNat, by simp [hxD], by rw [if_neg (old _ hxD), he]; omega⟩
/-- all places have homes: such ones as may be -/
theorem GrInv.done {r : RowD} {P : Nat} {D : List Nat} {H : Nat → Int} (h : GrInv r P D H) (hD : ∀ p, p < P → p ∈ D) (hD2 : ∀ p ∈ D, p < P) : RightP r P ((List.range P).map H) := by
 have get : ∀ (i : Nat) x, ((List.range P).map H)[i]? = some x → i < P ∧ x = H i := by
  intro i x hx
  by_cases hi : i < P
  ·simp [hi] at hx
   exact ⟨hi, hx.symm⟩
  ·rw [List.getElem?_eq_none (by simp; omega)] at hx
   cases hx
 have mem : ∀ x, x ∈ (List.range P).map H ↔ ∃ i, i < P ∧ H i = x := fun x => by simp
 have down : ∀ (k : Nat) (p : Nat), p < P → 16 ≤ H p - (k : Int) → ∃ q, q < P ∧ H q = H p - (k : Int) := by
  intro k
  induction k with
  | zero => intro p hp _; exact ⟨p, hp, by simp⟩
  | succ k ih =>
   intro p hp hk
   obtain ⟨q, hq, e⟩ := ih p hp (by omega)
   obtain ⟨q2, h1, h2⟩ := h.gap q (hD q hq) (by omega)
   exact ⟨q2, hD2 q2 h1, by omega⟩
 refine ⟨by simp, fun x hx => ?_, fun s x hs hx hle => ?_, fun i j a b ha hb hab => ?_, fun i a ha hac => ?_⟩
 ·obtain ⟨i, hi, rfl⟩ := (mem x).1 hx
  have := h.ok i (hD i hi)
  exact ⟨this.1, this.2.1, this.2.2.1, this.2.2.2.1⟩
 ·obtain ⟨i, hi, rfl⟩ := (mem x).1 hx
  obtain ⟨q, hq, e⟩ := down (H i - s).toNat i hi (by omega)
  exact (mem s).2 ⟨q, hq, by omega⟩
 ·obtain ⟨hi, rfl⟩ := get i a ha
  obtain ⟨hj, rfl⟩ := get j b hb
  exact h.cl i (hD i hi) j (hD j hj) hab
 ·obtain ⟨hi, rfl⟩ := get i a ha
  exact (h.ok i (hD i hi)).2.2.2.2 hac
end Go.Bk.Liv
namespace Go.Bk.Liv
open Go Go.Bk
set_option linter.unusedVariables false
set_option linter.unusedSimpArgs false
/-- a place's home -/
def homeOf (hs : List Int) (p : Int) : Int := hs.getD p.toNat 0
def toldL (hs l : List Int) : List Int := l.map (homeOf hs)
def topFrom (m : Int) (l : List Int) : Int := l.foldl (fun m h => max m (h + 1)) m
def topOf (hs : List Int) : Int := topFrom 16 hs
def toldC (hs : List Int) (c : CodeD) : CodeD := { c with args := toldL hs c.args, outs := toldL hs c.outs }
def toldR (r : RowD) (hs : List Int) : RowD := { r with places := topOf hs, params := toldL hs r.params, code := r.code.map (toldC hs) }
theorem topFrom_ge : ∀ (l : List Int) (m : Int), m ≤ topFrom m l
 | [], m => Int.le_refl m
 | h :: l, m => by
  have := topFrom_ge l (max m (h + 1))
  show m ≤ topFrom (max m (h + 1)) l
  omega
theorem topFrom_mem : ∀ (l : List Int) (m : Int), ∀ h ∈ l, h + 1 ≤ topFrom m l
 | [], m, h, hh => by simp at hh
 | a :: l, m, h, hh => by
  show h + 1 ≤ topFrom (max m (a + 1)) l
  rcases List.mem_cons.1 hh with e | hh
  ·have := topFrom_ge l (max m (a + 1))
   omega
  ·exact topFrom_mem l _ h hh
theorem topFrom_le : ∀ (l : List Int) (m b : Int), m ≤ b → (∀ h ∈ l, h + 1 ≤ b) → topFrom m l ≤ b
 | [], m, b, hm, _ => hm
 | a :: l, m, b, hm, hl => by
  show topFrom (max m (a + 1)) l ≤ b
  exact topFrom_le l _ b (by have := hl a (by simp); omega) (fun h hh => hl h (by simp [hh]))
theorem topFrom_snoc (l : List Int) (m h : Int) : topFrom m (l ++ [h]) = max (topFrom m l) (h + 1) := by simp [topFrom]
theorem toldL_len (hs l : List Int) : (toldL hs l).length = l.length := by simp [toldL]
theorem toldL_mem {hs l : List Int} {x : Int} : x ∈ toldL hs l ↔ ∃ p ∈ l, homeOf hs p = x := by simp [toldL]
theorem RightP.get {r : RowD} {P : Nat} {hs : List Int} (h : RightP r P hs) {p : Int} (h0 : 0 ≤ p) (h1 : p < P) : hs[p.toNat]? = some (homeOf hs p) := by
 have hl := h.len
 have hlt : p.toNat < hs.length := by omega
 unfold homeOf
 rw [List.getD_eq_getElem?_getD, List.getElem?_eq_getElem hlt]
 rfl
theorem RightP.mem {r : RowD} {P : Nat} {hs : List Int} (h : RightP r P hs) {p : Int} (h0 : 0 ≤ p) (h1 : p < P) : homeOf hs p ∈ hs := List.mem_of_getElem? (h.get h0 h1)
theorem RightP.ne {r : RowD} {P : Nat} {hs : List Int} (h : RightP r P hs) {p q : Int} (hp : 0 ≤ p ∧ p < P) (hq : 0 ≤ q ∧ q < P) (hc : Clashes r p q) : homeOf hs p ≠ homeOf hs q := by
 refine h.cl p.toNat q.toNat _ _ (h.get hp.1 hp.2) (h.get hq.1 hq.2) ?_
 rw [show ((p.toNat : Nat) : Int) = p by omega, show ((q.toNat : Nat) : Int) = q by omega]
 exact hc
theorem RightP.top {r : RowD} {P : Nat} {hs : List Int} (h : RightP r P hs) : 16 ≤ topOf hs ∧ topOf hs ≤ 16 + P :=
 ⟨topFrom_ge _ _, topFrom_le _ _ _ (by omega) (fun x hx => by have := h.ok x hx; omega)⟩
theorem RightP.lt {r : RowD} {P : Nat} {hs : List Int} (h : RightP r P hs) {p : Int} (h0 : 0 ≤ p) (h1 : p < P) : 0 ≤ homeOf hs p ∧ homeOf hs p < topOf hs := by
 have hm := h.mem h0 h1
 have h2 := h.ok _ hm
 have h3 := topFrom_mem hs 16 _ hm
 unfold topOf
 omega
theorem toldL_within {r : RowD} {P : Nat} {hs l : List Int} (h : RightP r P hs) (hl : ∀ x ∈ l, 0 ≤ x ∧ x < (P : Int)) : within (topOf hs) (toldL hs l) = true := by
 unfold within
 rw [List.all_eq_true]
 intro x hx
 obtain ⟨p, hp, rfl⟩ := toldL_mem.1 hx
 have := hl p hp
 have := h.lt this.1 this.2
 simpa using this
theorem toldL_nodup {r : RowD} {P : Nat} {hs l : List Int} (h : RightP r P hs) (hl : ∀ x ∈ l, 0 ≤ x ∧ x < (P : Int)) (hn : l.Nodup) (hc : ∀ x ∈ l, ∀ y ∈ l, x ≠ y → Clashes r x y) : (toldL hs l).Nodup := by
 unfold toldL
 rw [List.Nodup, List.pairwise_map]
 exact (List.Pairwise.and_mem.1 hn).imp (fun {a b} q => h.ne (hl a q.1) (hl b q.2.1) (hc a q.1 b q.2.1 q.2.2))
/-- a row so told may be -/
theorem told_check {e : EnvD} {r : RowD} {P : Nat} {hs : List Int} (hc : CheckP e r) (hP : r.places = P) (hP2 : P ≤ 2032) (h : RightP r P hs) : CheckP e (toldR r hs) where
 env := hc.env
 sig := hc.sig
 n1 := by simpa [toldR] using hc.n1
 n2 := by simpa [toldR] using hc.n2
 p1 := by have := h.top; show 0 ≤ topOf hs; omega
 p2 := by have := h.top; show topOf hs ≤ 4096; omega
 par := by
  show (toldL hs r.params).length = _
  rw [toldL_len]
  exact hc.par
 pin := toldL_within h (fun x hx => by have := within_mem hc.pin hx; omega)
 pun := toldL_nodup h (fun x hx => by have := within_mem hc.pin hx; omega) hc.pun (fun x hx y hy hne => ⟨hne, .inl (.inr ⟨hx, .inl hy⟩)⟩)
 code := by
  intro c hcm
  obtain ⟨c0, hc0, rfl⟩ := List.mem_map.1 (show c ∈ r.code.map (toldC hs) from hcm)
  obtain ⟨i, hi⟩ := List.mem_iff_getElem?.1 hc0
  have hk := hc.code c0 hc0
  have hpl := codeOk_places hk
  rw [hP] at hpl
  unfold codeOk at hk ⊢
  show (match formV e r.sig c0.op c0.n with
   | none => false
   | some (i, o) => decide ((toldL hs c0.args).length = i.length ∧ (toldL hs c0.outs).length = o.length ∧ toLo c0.op ≤ c0.to.length ∧ (c0.to.length : Int) ≤ toHi c0.op) && (within (topOf hs) (toldL hs c0.args) && (within (topOf hs) (toldL hs c0.outs) && (decide (toldL hs c0.outs).Nodup && within (r.code.map (toldC hs)).length c0.to)))) = true
  cases hf : formV e r.sig c0.op c0.n with
  | none => rw [hf] at hk; cases hk
  | some io =>
   obtain ⟨i1, o1⟩ := io
   rw [hf] at hk
   simp only [Bool.and_eq_true, decide_eq_true_eq] at hk ⊢
   obtain ⟨k1, k2, k3, k4, k5⟩ := hk
   refine ⟨by rw [toldL_len, toldL_len]; exact k1, toldL_within h hpl.1, toldL_within h hpl.2.1, toldL_nodup h hpl.2.1 hpl.2.2 (fun x hx y hy hne => ⟨hne, .inl (.inl ⟨i, c0, hi, hx, .inr hy⟩)⟩), by rw [List.length_map]; exact k5⟩
 first := by
  intro c hcm
  have hcm : (r.code.map (toldC hs))[0]? = some c := hcm
  rw [List.getElem?_map] at hcm
  cases h0 : r.code[0]? with
  | none => rw [h0] at hcm; cases hcm
  | some c0 =>
   rw [h0] at hcm
   injection hcm with hcm
   subst hcm
   exact hc.first c0 h0
 last := by
  intro c hcm
  have hcm : (r.code.map (toldC hs))[(r.code.map (toldC hs)).length - 1]? = some c := hcm
  rw [List.length_map, List.getElem?_map] at hcm
  cases h0 : r.code[r.code.length - 1]? with
  | none => rw [h0] at hcm; cases hcm
  | some c0 =>
   rw [h0] at hcm
   injection hcm with hcm
   subst hcm
   exact hc.last c0 h0
 rank := by
  obtain ⟨rk, hrk⟩ := hc.rank
  refine ⟨rk, fun i c k hcm hop hk => ?_⟩
  have hcm : (r.code.map (toldC hs))[i]? = some c := hcm
  rw [List.getElem?_map] at hcm
  cases h0 : r.code[i]? with
  | none => rw [h0] at hcm; cases hcm
  | some c0 =>
   rw [h0] at hcm
   injection hcm with hcm
   subst hcm
   exact hrk i c0 k h0 hop hk
end Go.Bk.Liv
namespace Go.Proofs.YtgmapikcpnffhaaGreat
open Go.RowKit Go.Bk Go.Bk.Liv
set_option linter.unusedVariables false
set_option linter.unusedSimpArgs false
/-- what is told: a list of one's own -/
def TlPost (hs l : List Int) (w : World) (en : Ending) (w' : World) : Prop := ∃ v, en = .returned v ∧ w'.ownsRow w.heap.size 3 1 v l.length (i64s (toldL hs l)) ∧ Below w.heap.size w w'
theorem told_snoc {hs l : List Int} {k : Nat} {x y : Int} (h : l[k]? = some x) (hy : homeOf hs x = y) : i64s (toldL hs (l.take k)) ++ [.int .i64 y] = i64s (toldL hs (l.take (k + 1))) := by
 obtain ⟨h1, h2⟩ := List.getElem?_eq_some_iff.1 h
 rw [List.take_succ_eq_append_getElem h1, h2, ← hy]
 simp [i64s, toldL]
theorem home_at {hs : List Int} {z : Nat} (h : z < hs.length) : hs[z]? = some (homeOf hs (z : Int)) := by
 unfold homeOf
 rw [Int.toNat_natCast, List.getD_eq_getElem?_getD, List.getElem?_eq_getElem h]
 rfl
theorem one_i64 (x : Int) : ∀ u ∈ [Value.int .i64 x], u.oneCell' = true := by
 intro u hu
 obtain rfl := List.mem_singleton.1 hu
 rfl
set_option maxRecDepth 100000 in
set_option maxHeartbeats 4000000 in
theorem told_any (vl vh : Value) (l hs : List Int) (w : World) (hl : IR w vl l) (hh : IR w vh hs) (hr : ∀ x ∈ l, 0 ≤ x ∧ x < hs.length) (hz : l.length ≤ 100000) (hz2 : hs.length ≤ 100000) :
  Calls Tryz.prog 41 #[vl, vh] w (TlPost hs l w) := by
 have HLI := Lib.hid hl
 have HHI := Lib.hid hh
 have HRG := Lib.hid hr
 obtain ⟨Al, cl, rfl, _⟩ := hl
 obtain ⟨Ah, ch, rfl, _⟩ := hh
 obtain ⟨n, hn⟩ : ∃ n, l.length = n := ⟨_, rfl⟩
 obtain ⟨P, hP⟩ : ∃ n, hs.length = n := ⟨_, rfl⟩
 have HN := Lib.hid hn
 have HP := Lib.hid hP
 unfold TlPost
 rw [hn] at HLI hz ⊢
 rw [hP] at HHI hz2 ⊢
 have hr2 : ∀ x ∈ l, 0 ≤ x ∧ x < (P : Int) := fun x hx => by have := hr x hx; omega
 have HRG := Lib.hid hr2
 clear hn hP hr hr2
 go_enter Tryz.func41, Tryz.ntmps41
 go_wp2_with fail
 go_loopw [5, 10] (fun v i wr => ∃ k : Nat, k ≤ n ∧ i = .int .i64 k ∧ Hid (wr.ownsRow w.heap.size 3 1 v k (i64s (toldL hs (l.take k)))) ∧ Hid (Below w.heap.size w wr)) (fun _ i _ => n - (intOf i).toNat)
 case atStart => exact ⟨0, by omega, rfl, Lib.hid (World.ownsRow_nil _ _ _ _), Lib.hid (Below.refl _ _)⟩
 case round =>
  obtain ⟨k, hk, rfl, iO, IB⟩ := hrel
  obtain ⟨Av, cv, hv, _⟩ := own_shape iO.out
  subst hv
  by_cases hkn : k < n
  ·have t1 : decide ((k : Int) < n) = true := by simp; omega
   have t2 : (k : Int) < n := by omega
   obtain ⟨x, hx⟩ : ∃ x, l[k]? = some x := ⟨_, List.getElem?_eq_getElem (by rw [HN.out]; exact hkn)⟩
   have hxr := HRG.out x (List.mem_of_getElem? hx)
   obtain ⟨zx, rfl⟩ : ∃ z : Nat, x = z := ⟨x.toNat, by omega⟩
   have hzx : zx < P := by omega
   have hzi : (zx : Int) < P := by omega
   obtain ⟨y, hy⟩ : ∃ y, homeOf hs (zx : Int) = y := ⟨_, rfl⟩
   have hyh := home_at (hs := hs) (z := zx) (by rw [HP.out]; exact hzx)
   rw [hy] at hyh
   obtain ⟨xb, xo, rfl, hxb, hcx⟩ := (HLI.out.below IB.out (Nat.le_refl _)).cell hx
   obtain ⟨yb, yo, rfl, hyb, hcy⟩ := (HHI.out.below IB.out (Nat.le_refl _)).cell hyh
   have HSN := Lib.hid (told_snoc hx hy)
   have hsz := IB.out.size
   have IO2 := Lib.hid (own_alloc iO.out (.cells #[.int .i64 y] 3))
   have IB2 := Lib.hid (IB.out.alloc IB.out.size (.cells #[.int .i64 y] 3))
   clear hx hxr hy hyh
   go_wp2_with (at_builtin; refine append_at _ rfl (.tmp 14) (.tmp 19) 23 rfl w.heap.size 3 (.int .i64 0) 1 8 Tryz.underlying23 info_int rfl (by omega) (.slice Av k cv) k (i64s (toldL hs (l.take k))) rfl IO2.out (some ⟨wr.heap.size, 0, none⟩) 1 1 [.int .i64 y] rfl (Blk.srcAll (cs := #[.int .i64 y]) (Blk.newAt _ _ _ rfl) rfl) (one_i64 _) (by unfold maxLen; omega) (by omega) (by simp; omega) ?_)
   rintro v' w' g1 g2 g3 _
   rw [HSN.out] at g1
   have IO3 := Lib.hid g1
   have IB3 := Lib.hid (below_grown IB2.out g2 (by simp; omega) (fun j hj => (IO2.out.lt j hj).1))
   clear g1 g2 g3
   go_wp2
   exact ⟨⟨k + 1, by omega, by simp, IO3, IB3⟩, by simp [intOf]; omega⟩
  ·have t1 : decide ((k : Int) < n) = false := by simp; omega
   have hkn2 : n = k := by omega
   subst hkn2
   have HTK := Lib.hid (show l.take n = l from List.take_of_length_le (by rw [HN.out]; exact Nat.le_refl _))
   go_wp2
   go_ret
   exact ⟨_, rfl, by have := iO.out; rw [HTK.out] at this; exact this, IB.out⟩
set_option maxRecDepth 100000 in
set_option maxHeartbeats 4000000 in
theorem named_any (vl vh : Value) (l hs : List Int) (w : World) (hl : IR w vl l) (hh : IR w vh hs) (hr : ∀ x ∈ l, 0 ≤ x ∧ x < hs.length) (hz : l.length ≤ 100000) (hz2 : hs.length ≤ 100000) :
  Calls Tryz.prog 43 #[vl, vh] w (TlPost hs l w) := by
 have HLI := Lib.hid hl
 have HHI := Lib.hid hh
 have HRG := Lib.hid hr
 obtain ⟨Al, cl, rfl, _⟩ := hl
 obtain ⟨Ah, ch, rfl, _⟩ := hh
 obtain ⟨n, hn⟩ : ∃ n, l.length = n := ⟨_, rfl⟩
 obtain ⟨P, hP⟩ : ∃ n, hs.length = n := ⟨_, rfl⟩
 have HN := Lib.hid hn
 have HP := Lib.hid hP
 unfold TlPost
 rw [hn] at HLI hz ⊢
 rw [hP] at HHI hz2 ⊢
 have hr2 : ∀ x ∈ l, 0 ≤ x ∧ x < (P : Int) := fun x hx => by have := hr x hx; omega
 have HRG := Lib.hid hr2
 clear hn hP hr hr2
 go_enter Tryz.func43, Tryz.ntmps43
 go_wp2_with fail
 go_loopw [5, 6] (fun v i wr => ∃ k : Nat, k ≤ n ∧ i = .int .i64 k ∧ Hid (wr.ownsRow w.heap.size 3 1 v k (i64s (toldL hs (l.take k)))) ∧ Hid (Below w.heap.size w wr)) (fun _ i _ => n - (intOf i).toNat)
 case atStart => exact ⟨0, by omega, rfl, Lib.hid (World.ownsRow_nil _ _ _ _), Lib.hid (Below.refl _ _)⟩
 case round =>
  obtain ⟨k, hk, rfl, iO, IB⟩ := hrel
  obtain ⟨Av, cv, hv, _⟩ := own_shape iO.out
  subst hv
  by_cases hkn : k < n
  ·have t1 : decide ((k : Int) < n) = true := by simp; omega
   have t2 : (k : Int) < n := by omega
   obtain ⟨x, hx⟩ : ∃ x, l[k]? = some x := ⟨_, List.getElem?_eq_getElem (by rw [HN.out]; exact hkn)⟩
   have hxr := HRG.out x (List.mem_of_getElem? hx)
   obtain ⟨zx, rfl⟩ : ∃ z : Nat, x = z := ⟨x.toNat, by omega⟩
   have hzx : zx < P := by omega
   have hzi : (zx : Int) < P := by omega
   obtain ⟨y, hy⟩ : ∃ y, homeOf hs (zx : Int) = y := ⟨_, rfl⟩
   have hyh := home_at (hs := hs) (z := zx) (by rw [HP.out]; exact hzx)
   rw [hy] at hyh
   obtain ⟨xb, xo, rfl, hxb, hcx⟩ := (HLI.out.below IB.out (Nat.le_refl _)).cell hx
   obtain ⟨yb, yo, rfl, hyb, hcy⟩ := (HHI.out.below IB.out (Nat.le_refl _)).cell hyh
   have HSN := Lib.hid (told_snoc hx hy)
   have hsz := IB.out.size
   have IO2 := Lib.hid (own_alloc iO.out (.cells #[.int .i64 y] 3))
   have IB2 := Lib.hid (IB.out.alloc IB.out.size (.cells #[.int .i64 y] 3))
   clear hx hxr hy hyh
   go_wp2_with (at_builtin; refine append_at _ rfl (.tmp 13) (.tmp 21) 23 rfl w.heap.size 3 (.int .i64 0) 1 8 Tryz.underlying23 info_int rfl (by omega) (.slice Av k cv) k (i64s (toldL hs (l.take k))) rfl IO2.out (some ⟨wr.heap.size, 0, none⟩) 1 1 [.int .i64 y] rfl (Blk.srcAll (cs := #[.int .i64 y]) (Blk.newAt _ _ _ rfl) rfl) (one_i64 _) (by unfold maxLen; omega) (by omega) (by simp; omega) ?_)
   rintro v' w' g1 g2 g3 _
   rw [HSN.out] at g1
   have IO3 := Lib.hid g1
   have IB3 := Lib.hid (below_grown IB2.out g2 (by simp; omega) (fun j hj => (IO2.out.lt j hj).1))
   clear g1 g2 g3
   go_wp2
   exact ⟨⟨k + 1, by omega, by simp, IO3, IB3⟩, by simp [intOf]; omega⟩
  ·have t1 : decide ((k : Int) < n) = false := by simp; omega
   have hkn2 : n = k := by omega
   subst hkn2
   have HTK := Lib.hid (show l.take n = l from List.take_of_length_le (by rw [HN.out]; exact Nat.le_refl _))
   go_wp2
   go_ret
   exact ⟨_, rfl, by have := iO.out; rw [HTK.out] at this; exact this, IB.out⟩
end Go.Proofs.YtgmapikcpnffhaaGreat

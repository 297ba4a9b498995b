/-
 Tables of truth values, in plain words: what is gone, what is live, by going round until nothing turns.
 Conditions: what comes behind an instruction is one.
-/
import Derived.Test.YtgmapikcpnffhaaGreatLivRing4
import Derived.Test.YtgmapikcpnffhaaGreatLLk
namespace Go.Bk.Liv
open Go Go.Bk
set_option linter.unusedVariables false
set_option linter.unusedSimpArgs false
/-- a row of truth values that a function tells -/
def rowOf (n : Nat) (f : Nat → Bool) : List Bool := (List.range n).map f
theorem rowOf_len (n : Nat) (f : Nat → Bool) : (rowOf n f).length = n := by simp [rowOf]
theorem rowOf_get {n : Nat} {f : Nat → Bool} {i : Nat} (h : i < n) : (rowOf n f)[i]? = some (f i) := by simp [rowOf, h]
theorem rowOf_congr {n : Nat} {f g : Nat → Bool} (h : ∀ i, i < n → f i = g i) : rowOf n f = rowOf n g := by
 unfold rowOf
 exact List.map_congr_left fun i hi => h i (List.mem_range.1 hi)
theorem rowOf_set (n : Nat) (f : Nat → Bool) (j : Nat) (b : Bool) : (rowOf n f).set j b = rowOf n (fun i => if i = j then b else f i) := by
 apply List.ext_getElem?
 intro i
 by_cases hi : i < n
 ·rw [rowOf_get hi]
  by_cases e : j = i
  ·subst e
   rw [List.getElem?_set_self (by rw [rowOf_len]; exact hi), if_pos rfl]
  ·rw [List.getElem?_set_ne e, rowOf_get hi, if_neg (fun h => e h.symm)]
 ·rw [List.getElem?_eq_none (by rw [List.length_set, rowOf_len]; omega), List.getElem?_eq_none (by rw [rowOf_len]; omega)]
theorem rowOf_rep (n : Nat) (b : Bool) : List.replicate n b = rowOf n (fun _ => b) := by
 unfold rowOf
 rw [List.map_const']
 simp
theorem countP_lt {α : Type} {p q : α → Bool} : ∀ {l : List α}, (∀ x ∈ l, p x = true → q x = true) → (∃ x ∈ l, q x = true ∧ p x = false) → l.countP p < l.countP q
 | [], _, ⟨x, hx, _⟩ => by simp at hx
 | a :: l, h, ⟨x, hx, h1, h2⟩ => by
  have hle : l.countP p ≤ l.countP q := List.countP_mono_left fun y hy => h y (by simp [hy])
  rw [List.countP_cons, List.countP_cons]
  rcases List.mem_cons.1 hx with e | hx
  ·subst e
   rw [h1, h2]
   simp
   omega
  ·have ih := countP_lt (l := l) (fun y hy => h y (by simp [hy])) ⟨x, hx, h1, h2⟩
   have ha := h a (by simp)
   cases hp : p a
   ·simp
    split <;> omega
   ·rw [ha hp]
    simp
    omega

/-- how many are not so -/
def cnt1 (n : Nat) (g : Nat → Bool) : Nat := (List.range n).countP fun i => !g i
theorem cnt1_set {n : Nat} {g : Nat → Bool} {i : Nat} (hi : i < n) (h : g i = false) : cnt1 n (fun j => if j = i then true else g j) < cnt1 n g := by
 refine countP_lt (fun x _ hx => ?_) ⟨i, List.mem_range.2 hi, by simp [h], by simp⟩
 by_cases e : x = i
 ·simp [e] at hx
 ·simpa [e] using hx
/-- how many in a table are not so -/
def cnt2 (n P : Nat) (T : Nat → Nat → Bool) : Nat := (List.range (n * P)).countP fun q => !T (q / P) (q % P)
def upd (T : Nat → Nat → Bool) (i : Nat) (f : Nat → Bool) : Nat → Nat → Bool := fun j => if j = i then f else T j
theorem upd_same (T : Nat → Nat → Bool) (i : Nat) (f : Nat → Bool) : upd T i f i = f := by simp [upd]
theorem upd_other {T : Nat → Nat → Bool} {i j : Nat} {f : Nat → Bool} (h : j ≠ i) : upd T i f j = T j := by simp [upd, h]
theorem cnt2_le {n P : Nat} {T : Nat → Nat → Bool} {i : Nat} {f : Nat → Bool} (h : ∀ p, p < P → T i p = true → f p = true) : cnt2 n P (upd T i f) ≤ cnt2 n P T := by
 refine List.countP_mono_left fun q hq hx => ?_
 by_cases e : q / P = i
 ·rw [e, upd_same] at hx
  rw [e]
  have hP : 0 < P := by
   rcases Nat.eq_zero_or_pos P with h0 | h0
   ·subst h0; simp at hq
   ·exact h0
  cases ht : T i (q % P)
  ·rfl
  ·rw [h _ (Nat.mod_lt _ hP) ht] at hx; simp at hx
 ·rw [upd_other e] at hx
  exact hx
theorem cnt2_lt {n P : Nat} {T : Nat → Nat → Bool} {i p : Nat} {f : Nat → Bool} (h : ∀ p, p < P → T i p = true → f p = true) (hi : i < n) (hp : p < P) (hd : f p ≠ T i p) : cnt2 n P (upd T i f) < cnt2 n P T := by
 have hP : 0 < P := by omega
 have hf : T i p = false ∧ f p = true := by
  cases ht : T i p
  ·rw [ht] at hd
   exact ⟨rfl, by simpa using hd⟩
  ·exact absurd ((h p hp ht).trans ht.symm) hd
 have e1 : (i * P + p) / P = i := by rw [Nat.add_comm, Nat.add_mul_div_right _ _ hP, Nat.div_eq_of_lt hp]; omega
 have e2 : (i * P + p) % P = p := by rw [Nat.add_comm, Nat.add_mul_mod_self_right, Nat.mod_eq_of_lt hp]
 have e3 : i * P + p < n * P := by
  have := Nat.mul_le_mul_right P (show i + 1 ≤ n by omega)
  rw [Nat.add_mul] at this
  omega
 refine countP_lt (fun q _ hx => ?_) ⟨i * P + p, List.mem_range.2 e3, by rw [e1, e2, hf.1]; rfl, by rw [e1, e2, upd_same, hf.2]; rfl⟩
 by_cases e : q / P = i
 ·rw [e, upd_same] at hx
  rw [e]
  cases ht : T i (q % P)
  ·rfl
  ·rw [h _ (Nat.mod_lt _ hP) ht] at hx; simp at hx
 ·rw [upd_other e] at hx
  exact hx

/-- what is gone so far: some order shows it -/
def GInv (r : RowD) (g : Nat → Bool) : Prop := ∃ D, DoneL r D ∧ ∀ i : Nat, i < r.code.length → (g i = true ↔ i ∈ D)
/-- does one stay: something behind it is not gone -/
def staysB (g : Nat → Bool) (l : List Int) : Bool := l.any fun x => !g x.toNat
theorem GInv.start (r : RowD) : GInv r (fun _ => false) := ⟨[], DoneL.nil r, fun i _ => by simp⟩
theorem GInv.gone {r : RowD} {g : Nat → Bool} {i : Nat} (h : GInv r g) (hf : FlowOk r) (hs : staysB g (edges r i) = false) : GInv r (fun j => if j = i then true else g j) := by
 obtain ⟨D, h1, h2⟩ := h
 refine ⟨D ++ [i], h1.push fun k hk => ?_, fun j hj => ?_⟩
 ·obtain ⟨k', e, hk'⟩ := hf.edges hk
  have ek : k = k' := by omega
  subst ek
  refine (h2 k hk').1 ?_
  unfold staysB at hs
  rw [List.any_eq_false] at hs
  have := hs _ hk
  simpa using this
 ·rw [List.mem_append]
  show (if j = i then true else g j) = true ↔ _
  by_cases e : j = i
  ·subst e; simp
  ·rw [if_neg e, h2 j hj]
   simp [e]
theorem GInv.done {r : RowD} {g : Nat → Bool} (h : GInv r g) (hf : FlowOk r) (hst : ∀ i, i < r.code.length → g i = false → staysB g (edges r i) = true) : (∃ i, i < r.code.length ∧ g i = false) ↔ ¬ Ranked r := by
 obtain ⟨D, h1, h2⟩ := h
 constructor
 ·rintro ⟨i, hi, hg⟩
  refine not_ranked (S := fun i => i < r.code.length ∧ g i = false) ⟨i, hi, hg⟩ fun j ⟨hj, hgj⟩ => ?_
  have := hst j hj hgj
  unfold staysB at this
  rw [List.any_eq_true] at this
  obtain ⟨x, hx, h3⟩ := this
  obtain ⟨k, e, hk⟩ := hf.edges hx
  subst e
  exact ⟨k, hx, hk, by simpa using h3⟩
 ·intro hr
  refine Classical.byContradiction fun hn => hr (h1.ranked fun i hi => (h2 i hi).1 ?_)
  cases hg : g i
  ·exact absurd ⟨i, hi, hg⟩ hn
  ·rfl
/-- is a place so behind an instruction, as a table has it -/
def bh (l : List Int) (T : Nat → Nat → Bool) (p : Nat) : Bool := l.any fun x => T x.toNat p
/-- is it so ahead -/
def Fv (c : CodeD) (i : Nat) (T : Nat → Nat → Bool) (p : Nat) : Bool := decide ((p : Int) ∈ c.args) || (bh (nextOf c i) T p && !decide ((p : Int) ∈ c.outs))
theorem bh_mono {l : List Int} {T T' : Nat → Nat → Bool} {p : Nat} (h : ∀ j, T j p = true → T' j p = true) (hb : bh l T p = true) : bh l T' p = true := by
 unfold bh at hb ⊢
 rw [List.any_eq_true] at hb ⊢
 obtain ⟨x, hx, h1⟩ := hb
 exact ⟨x, hx, h _ h1⟩
theorem Fv_mono {c : CodeD} {i : Nat} {T T' : Nat → Nat → Bool} {p : Nat} (h : ∀ j, T j p = true → T' j p = true) (hb : Fv c i T p = true) : Fv c i T' p = true := by
 unfold Fv at hb ⊢
 simp only [Bool.or_eq_true, Bool.and_eq_true] at hb ⊢
 rcases hb with hb | ⟨hb, h2⟩
 ·exact .inl hb
 ·exact .inr ⟨bh_mono h hb, h2⟩
theorem bh_congr {l : List Int} {T T' : Nat → Nat → Bool} {p : Nat} (h : ∀ x ∈ l, T x.toNat p = T' x.toNat p) : bh l T p = bh l T' p := by
 unfold bh
 induction l with
 | nil => rfl
 | cons a l ih => rw [List.any_cons, List.any_cons, h a (by simp), ih (fun x hx => h x (by simp [hx]))]
theorem Fv_congr {r : RowD} (hf : FlowOk r) {c : CodeD} {i : Nat} (hc : r.code[i]? = some c) {T T' : Nat → Nat → Bool} {p : Nat} (h : ∀ j, j < r.code.length → T j p = T' j p) : Fv c i T p = Fv c i T' p := by
 unfold Fv
 rw [bh_congr fun x hx => h _ (by have := (hf.to i c hc).1 x hx; omega)]
/-- a table that holds nothing but what is live, and nothing that would not be held again -/
structure TInv (r : RowD) (P : Nat) (T : Nat → Nat → Bool) : Prop where
 snd : ∀ i p, i < r.code.length → p < P → T i p = true → Live r i p
 pre : ∀ i c p, r.code[i]? = some c → p < P → T i p = true → Fv c i T p = true
theorem TInv.start (r : RowD) (P : Nat) : TInv r P (fun _ _ => false) := ⟨fun i p _ _ h => (by cases h), fun i c p _ _ h => by cases h⟩
theorem TInv.step {r : RowD} {P : Nat} {T : Nat → Nat → Bool} (h : TInv r P T) (hf : FlowOk r) {i : Nat} {c : CodeD} (hc : r.code[i]? = some c) : TInv r P (upd T i (Fv c i T)) := by
 have hi := (List.getElem?_eq_some_iff.1 hc).1
 have mono : ∀ p, p < P → ∀ j, T j p = true → upd T i (Fv c i T) j p = true := by
  intro p hp j ht
  by_cases e : j = i
  ·subst e
   rw [upd_same]
   exact h.pre j c p hc hp ht
  ·rw [upd_other e]; exact ht
 refine ⟨fun j p hj hp ht => ?_, fun j cj p hcj hp ht => ?_⟩
 ·by_cases e : j = i
  ·subst e
   rw [upd_same] at ht
   unfold Fv at ht
   simp only [Bool.or_eq_true, Bool.and_eq_true, decide_eq_true_eq] at ht
   rcases ht with ht | ⟨ht, ho⟩
   ·exact .arg hc ht
   ·unfold bh at ht
    rw [List.any_eq_true] at ht
    obtain ⟨x, hx, hT⟩ := ht
    have hr := (hf.to j c hc).1 x hx
    obtain ⟨k, rfl⟩ : ∃ k : Nat, x = k := ⟨x.toNat, by omega⟩
    rw [Int.toNat_natCast] at hT
    exact .step hc hx (h.snd k p (by omega) hp hT) (by simpa using ho)
  ·rw [upd_other e] at ht
   exact h.snd j p hj hp ht
 ·by_cases e : j = i
  ·subst e
   rw [upd_same] at ht
   rw [hc] at hcj
   injection hcj with hcj
   subst hcj
   exact Fv_mono (mono p hp) ht
  ·rw [upd_other e] at ht
   exact Fv_mono (mono p hp) (h.pre j cj p hcj hp ht)
/-- where nothing turns any more, the table is what is live -/
theorem TInv.done {e : EnvD} {r : RowD} {P : Nat} {T : Nat → Nat → Bool} (h : TInv r P T) (hk : CheckP e r) (hP : r.places = P) (hst : ∀ i c p, r.code[i]? = some c → p < P → Fv c i T p = true → T i p = true) : ∀ i p, i < r.code.length → p < P → (T i p = true ↔ Live r i p) := by
 have hf := hk.flow
 have key : ∀ (i : Nat) (x : Int), Live r i x → T i x.toNat = true := by
  intro i x hl
  induction hl with
  | arg hc hx =>
   rename_i i c p
   have hr := Live.range hk (.arg hc hx)
   refine hst i c p.toNat hc (by omega) ?_
   unfold Fv
   rw [show ((p.toNat : Nat) : Int) = p by omega, decide_eq_true hx]
   rfl
  | step hc hkk hl ho ih =>
   rename_i i k c p
   have hr := hl.range hk
   refine hst i c p.toNat hc (by omega) ?_
   unfold Fv bh
   rw [show ((p.toNat : Nat) : Int) = p by omega, decide_eq_false ho]
   have : ((nextOf c i).any fun x => T x.toNat p.toNat) = true := by
    rw [List.any_eq_true]
    exact ⟨_, hkk, by simpa using ih⟩
   rw [this]
   simp
 intro i p hi hp
 refine ⟨h.snd i p hi hp, fun hl => ?_⟩
 have := key i p hl
 simpa using this
/-- behind an instruction, too -/
theorem bh_live {e : EnvD} {r : RowD} {P : Nat} {T : Nat → Nat → Bool} (hk : CheckP e r) (hT : ∀ i p, i < r.code.length → p < P → (T i p = true ↔ Live r i p)) {i : Nat} {c : CodeD} (hc : r.code[i]? = some c) {p : Nat} (hp : p < P) : bh (nextOf c i) T p = true ↔ LiveB r i p := by
 unfold bh
 rw [List.any_eq_true]
 constructor
 ·rintro ⟨x, hx, h⟩
  have hr := (hk.flow.to i c hc).1 x hx
  obtain ⟨k, rfl⟩ : ∃ k : Nat, x = k := ⟨x.toNat, by omega⟩
  rw [Int.toNat_natCast] at h
  exact ⟨c, hc, k, hx, (hT k p (by omega) hp).1 h⟩
 ·rintro ⟨c', hc', k, hkk, hl⟩
  rw [hc] at hc'
  injection hc' with hc'
  subst hc'
  have hr := (hk.flow.to i c hc).1 _ hkk
  exact ⟨_, hkk, by rw [Int.toNat_natCast]; exact (hT k p (by omega) hp).2 hl⟩
end Go.Bk.Liv

/-
 The document's test of an instruction and the program's are one.
 Conditions: the environment and the row's type may be.
-/
import Derived.Test.YtgmapikcpnffhaaGreatLivRFm3
namespace Go.Bk.Liv
open Go Go.RowKit Go.Bk Go.Bk.Num Go.Bk.Mem
/-- how many targets there are to be, as the document says it -/
def toTest (c : CodeD) : Bool := if c.op = 273 ∨ c.op = 274 then decide (c.to.length = 1) else if c.op = 275 then decide (1 ≤ c.to.length) else decide (c.to.length = 0)
theorem kinds_len {m : Nat} {l : List Int} (h : kindsOk m l = true) : l.length ≤ m := by
 unfold kindsOk at h
 simp only [Bool.and_eq_true, decide_eq_true_eq] at h
 exact h.1
theorem sig_len {s : SigD} (h : sigOk s = true) : s.inn.length ≤ 8 ∧ s.out.length ≤ 8 := by
 unfold sigOk at h
 simp only [Bool.and_eq_true] at h
 exact ⟨kinds_len h.1, kinds_len h.2⟩
theorem sigL_len (op : Int) : (sigL op).length ≤ 2 := by
 unfold sigL
 split <;> (try split) <;> simp
theorem formV_len {e : EnvD} {s : SigD} {op : Int} {n : Nat} {i o : List Int} (he : envOk e = true) (hs : sigOk s = true) (h : formV e s op n = some (i, o)) : i.length ≤ 8 ∧ o.length ≤ 8 := by
 have h1 := sig_len hs
 unfold formV at h
 split at h
 ·simp at h; obtain ⟨rfl, rfl⟩ := h; simp
 split at h
 ·split at h <;> simp at h; obtain ⟨rfl, rfl⟩ := h; simp
 split at h
 ·split at h <;> simp at h; obtain ⟨rfl, rfl⟩ := h; simp
 split at h
 ·split at h <;> simp at h; obtain ⟨rfl, rfl⟩ := h; simp
 split at h
 ·split at h <;> simp at h; obtain ⟨rfl, rfl⟩ := h; exact ⟨h1.2, by simp⟩
 split at h
 ·split at h <;> simp at h; obtain ⟨rfl, rfl⟩ := h; simp
 split at h
 ·obtain ⟨g, hg, h2⟩ := Option.map_eq_some_iff.1 h
  injection h2 with h2 h3
  subst h2; subst h3
  unfold envOk at he
  simp only [Bool.and_eq_true, List.all_eq_true] at he
  exact sig_len (he.2.2 g (List.mem_of_getElem? hg))
 split at h
 ·obtain ⟨g, hg, h2⟩ := Option.map_eq_some_iff.1 h
  injection h2 with h2 h3
  subst h2; subst h3
  simp
 split at h
 ·split at h
  ·simp at h; obtain ⟨rfl, rfl⟩ := h; simp
  ·cases h
 split at h
 ·split at h <;> simp at h
  obtain ⟨rfl, rfl⟩ := h
  have := sigL_len op
  exact ⟨by omega, by simp⟩
 ·unfold memF at h
  split at h
  ·cases h
  split at h
  ·split at h <;> simp at h; obtain ⟨rfl, rfl⟩ := h; simp
  split at h
  ·split at h
   ·simp at h
    split at h <;> (injection h with h2 h3; subst h2; subst h3; simp)
   ·cases h
  ·split at h
   ·split at h <;> simp at h; obtain ⟨rfl, rfl⟩ := h; simp
   split at h
   ·split at h <;> simp at h; obtain ⟨rfl, rfl⟩ := h; simp
   ·cases h
theorem code_iff {e : EnvD} {r : RowD} {c : CodeD} (he : envOk e = true) (hs : sigOk r.sig = true) : codeOk e r c = true ↔
  ((c.args.length ≤ 8 ∧ c.outs.length ≤ 8 ∧ c.to.length ≤ 65) ∧ ∃ i o, formV e r.sig c.op c.n = some (i, o) ∧ i.length = c.args.length ∧ o.length = c.outs.length ∧
   placesB r.places c.args false = true ∧ placesB r.places c.outs true = true ∧ placesB r.code.length c.to false = true ∧ toTest c = true) := by
 unfold codeOk
 cases hf : formV e r.sig c.op c.n with
 | none => simp
 | some x =>
  obtain ⟨i, o⟩ := x
  have hl := formV_len he hs hf
  simp only [Bool.and_eq_true, decide_eq_true_eq, placesB, Bool.not_false, Bool.true_or, Bool.and_true, Bool.not_true, Bool.false_or]
  have ht : (toLo c.op ≤ c.to.length ∧ (c.to.length : Int) ≤ toHi c.op) ↔ (c.to.length ≤ 65 ∧ toTest c = true) := by
   unfold toLo toHi toTest
   by_cases a1 : c.op = 273 ∨ c.op = 274
   ·have a2 : c.op = 273 ∨ c.op = 274 ∨ c.op = 275 := by omega
    rw [if_pos a2, if_pos a1, if_pos a1, decide_eq_true_eq]
    omega
   ·by_cases a3 : c.op = 275
    ·rw [if_pos (by omega), if_neg a1, if_pos a3, if_neg a1, if_pos a3, decide_eq_true_eq]
     omega
    ·rw [if_neg (by omega), if_neg a1, if_neg a3, if_neg a1, if_neg a3, decide_eq_true_eq]
     omega
  constructor
  ·rintro ⟨⟨h1, h2, h3, h4⟩, h5, h6, h7, h8⟩
   have h9 := ht.1 ⟨h3, h4⟩
   exact ⟨⟨by omega, by omega, h9.1⟩, i, o, rfl, h1.symm, h2.symm, h5, ⟨h6, h7⟩, h8, h9.2⟩
  ·rintro ⟨⟨h1, h2, h3⟩, i', o', hio, h4, h5, h6, ⟨h7, h8⟩, h9, h10⟩
   injection hio with hio
   injection hio with e1 e2
   subst e1
   subst e2
   have h11 := ht.2 ⟨h3, h10⟩
   exact ⟨⟨h4.symm, h5.symm, h11.1, h11.2⟩, h6, h7, h8, h9⟩
end Go.Bk.Liv

/-
 What an instruction takes and answers, by the document: both Forms, at any operator.
 Conditions: as each says.
-/
import Derived.Test.YtgmapikcpnffhaaGreatLivRFm
namespace Go.Proofs.YtgmapikcpnffhaaGreat
open Go.RowKit Go.Bk Go.Bk.Liv Go.Bk.Num Go.Bk.Mem
set_option linter.unusedVariables false
set_option linter.unusedSimpArgs false
theorem acc_range {op : Int} {x : Int × Int × Bool × Bool} (h : acc op = some x) : 40 ≤ op ∧ op ≤ 62 := by
 unfold acc at h
 obtain ⟨r, hr, _⟩ := Option.map_eq_some_iff.1 h
 have h1 := List.find?_some hr
 have h2 := List.mem_of_find?_eq_some hr
 have h3 : ∀ r ∈ rowsT, 40 ≤ r.1 ∧ r.1 ≤ 62 := by decide
 have h4 := h3 r h2
 simp at h1
 omega
theorem grp_range {op : Int} {g : Int × Int × Int × Int} (h : grpOf op = some g) : 69 ≤ op := by
 unfold grpOf at h
 have h1 := List.find?_some h
 have h2 := List.mem_of_find?_eq_some h
 have h3 : ∀ r ∈ grps, 69 ≤ r.1 := by decide
 have h4 := h3 g h2
 unfold inG at h1
 simp at h1
 omega
theorem acc_none_of {op : Int} (h : op < 40 ∨ 62 < op) : acc op = none := by
 cases ha : acc op with
 | none => rfl
 | some x => have := acc_range ha; omega
theorem grp_none_256 : ∀ op ∈ [(256 : Int), 257, 258], (grpOf op).isSome = false := by decide
theorem formV_mem {e : EnvD} {s : SigD} {op : Int} {n : Nat} (h1 : op ≠ 256) (h2 : op < 272 ∨ 277 < op) (h3 : op ≠ 258) (h4 : op ≠ 27) (h5 : op ≠ 16) (h6 : op ≠ 35) (h7 : op ≠ 36) (hg : (grpOf op).isSome = false) : formV e s op n = memF e.mem op n := by
 unfold formV
 simp only [show op ≠ 272 by omega, show op ≠ 273 by omega, show op ≠ 274 by omega, show op ≠ 275 by omega, show op ≠ 276 by omega, show op ≠ 277 by omega, h1, h3, h4, h5, h6, h7, hg, if_false, or_self, Bool.false_eq_true]
/-- ref08.Form, of any operator of its own -/
theorem fForm_any (e : EnvD) (s : SigD) (ve : Value) (op : Int) (n : Nat) (hn : n < 18446744073709551616) (w : World) (he : EnvV w ve e) (hmg : e.muts.length = e.globals.length) (o256 : op ≠ 256) (o27 : op ≠ 27) (hr : op < 272 ∨ 277 < op) :
  Calls Tryz.prog 114 #[ve, .agg #[.int .i64 op, .int .u64 (n : Int), .slice none 0 0, .slice none 0 0], .int .i64 0] w (FmP (formV e s op n) w) := by
 by_cases o258 : op = 258
 ·have h := fForm_tick e s ve op n hn w he o258 (by rw [o258]; exact grp_none_256 258 (by simp)) (acc_none_of (by omega))
  subst o258
  exact h
 cases hg : (grpOf op).isSome with
 | true =>
  obtain ⟨g, hgg⟩ := Option.isSome_iff_exists.1 hg
  have hge := grp_range hgg
  have h := fForm_num e s ve op n hn w he o256 o258 hg (acc_none_of (by omega))
  have e1 : formV e s op n = if n = 0 then some (sigL op, [sigO op]) else none := by
   unfold formV
   simp only [show op ≠ 272 by omega, show op ≠ 273 by omega, show op ≠ 274 by omega, show op ≠ 275 by omega, show op ≠ 276 by omega, show op ≠ 277 by omega, o256, o258, o27, show op ≠ 16 by omega, show op ≠ 35 by omega, show op ≠ 36 by omega, hg, if_false, or_self, if_true]
  rw [e1]
  exact h
 | false =>
  by_cases o35 : op = 35
  ·have h := fForm_35 e s ve op n hn w he o35 hg (acc_none_of (by omega)) hmg
   subst o35
   exact h
  by_cases o36 : op = 36
  ·have h := fForm_36 e s ve op n hn w he o36 hg (acc_none_of (by omega)) hmg
   subst o36
   exact h
  by_cases o16 : op = 16
  ·have h := fForm_16 e s ve op n hn w he o16 hg (acc_none_of (by omega))
   subst o16
   exact h
  rw [formV_mem o256 hr o258 o27 o16 o35 o36 hg]
  cases hm : e.mem with
  | false =>
   have e1 : memF false op n = none := by simp [memF]
   rw [e1]
   cases ha : acc op with
   | none => exact fForm_nomem_n e s ve op n hn w he o256 o258 o27 o35 o36 o16 hg hm ha
   | some x =>
    obtain ⟨k, wd, st, sg⟩ := x
    exact fForm_nomem_s e s ve op n hn w he o256 o258 o27 o35 o36 o16 hg hm k wd st sg ha
  | true =>
   by_cases o257 : op = 257
   ·have h := fForm_257 e s ve op n hn w he o257 hg hm (acc_none_of (by omega))
    have e1 : memF true op n = if n ≤ 8589934592 then some ([127], []) else none := by simp [memF, o257]
    rw [e1]
    exact h
   cases ha : acc op with
   | some x =>
    obtain ⟨k, wd, st, sg⟩ := x
    have e1 : memF true op n = if n ≤ 4294967295 then some (if st then ([127, k], []) else ([127], [k])) else none := by simp [memF, o257, ha]
    rw [e1]
    cases st with
    | true => exact fForm_acc_true e s ve op n hn w he o256 o258 o27 o35 o36 o16 o257 hg hm k wd sg ha
    | false => exact fForm_acc_false e s ve op n hn w he o256 o258 o27 o35 o36 o16 o257 hg hm k wd sg ha
   | none =>
    by_cases o63 : op = 63
    ·have h := fForm_63 e s ve op n hn w he o63 hg hm ha
     have e1 : memF true op n = if n = 0 then some ([], [127]) else none := by subst o63; simp [memF, ha]
     rw [e1]
     exact h
    by_cases o64 : op = 64
    ·have h := fForm_64 e s ve op n hn w he o64 hg hm ha
     have e1 : memF true op n = if n = 0 then some ([127], [127]) else none := by subst o64; simp [memF, ha]
     rw [e1]
     exact h
    have e1 : memF true op n = none := by simp [memF, o257, ha, o63, o64]
    rw [e1]
    exact fForm_none e s ve op n hn w he o256 o258 o27 o35 o36 o16 o257 o63 o64 hg hm ha
end Go.Proofs.YtgmapikcpnffhaaGreat

/-
  Nested data that came in, opened: rows of numbers, of truth values, of structures.
  Conditions: none.
-/
import Derived.Test.YtkfnnmdghibjbaaDat
import Derived.Deep.Slices
import Derived.ChangeSame
import Derived.SizedLaws
namespace Go.Bk
open Go Go.RowKit Go.ChangeShapes Go.WideShapes Go.Deep

section
variable {H : Type} {enc : TypeId × Value → H} {P : Program} {w : World}

/-- each slice within it takes few bytes -/
def Small (P : Program) (t : TypeId) (d : DataW H) : Prop := ∀ n ∈ d.weights P t, n ≤ reachBytes
/-- what reads at a type, reads so -/
def Reads (enc : TypeId × Value → H) (P : Program) (w : World) {α : Type} (t : TypeId) (R : World → List Value → α → Prop) : Prop :=
  ∀ fuel cs x, DataW.trod enc P w 0 (fun _ => true) true fuel t cs = some x → Small P t x.1 → ∃ a : α, R w cs a

theorem reads_int {t : TypeId} {k : IntKind} (ht : P.underlying t = some (.int k)) : Reads enc P w t (fun _ cs (a : Int) => cs = [.int k a] ∧ (Lit.int k a).wf = true) := by
  intro fuel cs x h _
  obtain ⟨n, e, _, hw⟩ := DataW.trod_int ht h
  exact ⟨n, e, hw⟩

theorem mem_weightsAll {t : TypeId} : ∀ {l : List (DataW H)} {d : DataW H}, d ∈ l → ∀ n ∈ d.weights P t, n ∈ DataW.weightsAll P t l
  | [], d, h, _, _ => by simp at h
  | e :: l, d, h, n, hn => by
    simp only [DataW.weightsAll, List.mem_append]
    rcases List.mem_cons.1 h with h | h
    · subst h; exact .inl hn
    · exact .inr (mem_weightsAll h n hn)

theorem cells_len {w : World} {a : Addr} {k : Nat} {cs : List Value} (h : w.cells? 0 a k = some cs) : cs.length = k ∧ ∀ j, j < k → w.cell? (a.add j) = cs[j]? := by
  obtain ⟨_, h1, h2⟩ := World.cells?_some h
  exact ⟨h1, h2⟩

/-- elements one by one: a list of them, and their cells -/
theorem structs_src {α : Type} {k : Nat} {R : World → List Value → α → Prop} {a : Addr} {m : Nat} (hk : 0 < k) (hc : ∀ i, i < m → ∃ (cs : List Value) (x : α), cs.length = k ∧ (∀ j, j < k → w.cell? (a.add (i * k + j)) = cs[j]?) ∧ R w cs x) :
    ∀ len, len ≤ m → ∃ (l : List α) (vs : List (List Value)), l.length = len ∧ vs.length = len ∧ (∀ r ∈ vs, r.length = k) ∧ (∀ (i : Nat) (r : List Value) (x : α), vs[i]? = some r → l[i]? = some x → R w r x) ∧ Src w (some a) (len * k) vs.flatten
  | 0, _ => ⟨[], [], rfl, rfl, by simp, by simp, by rw [Nat.zero_mul]; exact Src.nil _ _⟩
  | len + 1, h => by
    obtain ⟨l, vs, h1, h2, h3, h4, h5⟩ := structs_src hk hc len (by omega)
    obtain ⟨cs, x, c1, c2, c3⟩ := hc len (by omega)
    obtain ⟨cs0, x0, d1, d2, _⟩ := hc 0 (by omega)
    have c00 := d2 0 hk
    rw [show a.add (0 * k + 0) = a by simp [Addr.add], List.getElem?_eq_getElem (by omega)] at c00
    obtain ⟨hs, hb⟩ := cell_some c00
    obtain ⟨ab, ao, asp⟩ := a
    have hsp : asp = none := hs
    subst hsp
    have hfl : vs.flatten.length = len * k := by have := h5.1; exact this
    refine ⟨l ++ [x], vs ++ [cs], by simp [h1], by simp [h2], fun r hr => ?_, fun i r y q1 q2 => ?_, ?_⟩
    · rcases List.mem_append.1 hr with hr | hr
      · exact h3 r hr
      · simp at hr; rw [hr]; exact c1
    · by_cases hi : i < len
      · rw [List.getElem?_append_left (by omega)] at q1 q2
        exact h4 i r y q1 q2
      · have hi' : i = len := by
          have := (List.getElem?_eq_some_iff.1 q1).1
          simp [h2] at this
          omega
        subst hi'
        rw [List.getElem?_append_right (by omega), h2, Nat.sub_self] at q1
        rw [List.getElem?_append_right (by omega), h1, Nat.sub_self] at q2
        simp at q1 q2
        subst q1
        subst q2
        exact c3
    · refine ⟨by simp only [List.flatten_append, List.length_append, hfl, List.flatten_cons, List.flatten_nil, List.append_nil, c1]; rw [Nat.add_mul]; omega, fun _ => ⟨ab, ao, rfl, hb, fun j u hu => ?_⟩⟩
      simp only [List.flatten_append, List.flatten_cons, List.flatten_nil, List.append_nil] at hu
      by_cases hj : j < len * k
      · rw [List.getElem?_append_left (by omega)] at hu
        obtain ⟨b', o', e, _, hcc⟩ := h5.2 (by omega)
        injection e with e
        injection e with e1 e2
        subst e1
        subst e2
        exact hcc j u hu
      · rw [List.getElem?_append_right (by omega), hfl] at hu
        have hjk : j - len * k < k := by have := (List.getElem?_eq_some_iff.1 hu).1; omega
        have := c2 (j - len * k) hjk
        rw [Addr.add_lit, hu, show ao + (len * k + (j - len * k)) = ao + j by omega] at this
        exact this

theorem reads_structs {α : Type} {t e : TypeId} {k : Nat} {R : World → List Value → α → Prop} (ht : P.underlying t = some (.slice e)) (hce : P.cellsOf e = k) (hk : 0 < k) (hby : 1 ≤ P.bytesOf e) (hR : Reads enc P w e R) :
    Reads enc P w t (fun w cs (l : List α) => ∃ v, cs = [v] ∧ Structs k R w v l ∧ ∀ A n c, v = .slice A n c → c * P.bytesOf e ≤ reachBytes) := by
  intro fuel cs x h hsm
  rcases open_slice ht h with ⟨rfl, _⟩ | ⟨a, len, cap, m, n, D, Pl, rfl, _, hl, hm, hmm, hx, hi⟩
  · exact ⟨[], _, rfl, ⟨none, 0, [], rfl, Nat.le_refl _, fun _ => rfl, by omega, rfl, by simp, by simp, by rw [List.length_nil, Nat.zero_mul]; exact Src.nil _ _⟩, fun A n c e => by injection e with _ _ e; subst e; simp⟩
  · have hm' : m = cap := by simpa using hmm
    have hd : x.1 = _ := congrArg Prod.fst hx
    have hw : ∀ d, (d ∈ (List.range len).map D ∨ d ∈ (List.range (m - len)).map fun j => D (len + j)) → Small P e d := fun d hd' q hq => by
      refine hsm q ?_
      rw [hd]
      simp only [DataW.weights, ht, List.mem_cons, List.mem_append]
      rcases hd' with h1 | h1
      · exact .inr (.inl (mem_weightsAll h1 q hq))
      · exact .inr (.inr (mem_weightsAll h1 q hq))
    have hcap : cap * P.bytesOf e ≤ reachBytes := by
      refine hsm _ ?_
      rw [hd]
      simp only [DataW.weights, ht, List.mem_cons, List.length_map, List.length_range]
      left
      rw [show len + (m - len) = cap by omega]
    have hcap8 : cap ≤ 140737488351232 := by have := Nat.le_trans (Nat.mul_le_mul_left cap hby) hcap; rw [Nat.mul_one] at this; exact this
    obtain ⟨l, vs, h1, h2, h3, h4, h5⟩ := structs_src (w := w) (R := R) (a := a) (m := m) hk (fun i him => by
      obtain ⟨cs', q1, q2⟩ := hi i him
      rw [hce] at q1
      obtain ⟨y, hy⟩ := hR n cs' _ q2 (hw _ (by
        by_cases hil : i < len
        · exact .inl (List.mem_map.2 ⟨i, by simpa using hil, rfl⟩)
        · exact .inr (List.mem_map.2 ⟨i - len, by simp; omega, by show D (len + (i - len)) = D i; rw [show len + (i - len) = i by omega]⟩)))
      obtain ⟨c1, c2⟩ := cells_len q1
      exact ⟨cs', y, c1, fun j hj => by rw [← c2 j hj, Go.Deep.add_add], hy⟩) len (by omega)
    subst h1
    exact ⟨l, _, rfl, ⟨some a, cap, vs, rfl, hl, (fun e => by cases e), hcap8, h2, h3, h4, h5⟩, fun A n c e => by injection e with _ _ e; subst e; exact hcap⟩

theorem reads_ints {t e : TypeId} (ht : P.underlying t = some (.slice e)) (he : P.underlying e = some (.int .i64)) (hce : P.cellsOf e = 1) (hby : P.bytesOf e = 8) :
    Reads enc P w t (fun w cs (l : List Int) => ∃ v, cs = [v] ∧ Ints w v l) := by
  intro fuel cs x h hsm
  obtain ⟨l, v, rfl, ⟨A, c, vs, rfl, h1, h2, h3, h4, h5, h6, h7⟩, h8⟩ := reads_structs (enc := enc) (w := w) ht hce (by omega) (by omega) (reads_int he) fuel cs x h hsm
  have h9 := h8 _ _ _ rfl
  rw [hby] at h9
  refine ⟨l, _, rfl, A, c, rfl, ?_, h1, h2, h9⟩
  have e1 : vs.flatten = i64s l := by
    apply List.ext_getElem?
    intro i
    by_cases hi : i < l.length
    · have hv : vs[i]? = some (vs[i]'(by omega)) := List.getElem?_eq_getElem (by omega)
      have hr := (h6 i _ _ hv (List.getElem?_eq_getElem hi)).1
      have := flatten_at (j := 0) h5 hv (by rw [hr]; rfl)
      rw [Nat.mul_one, Nat.add_zero] at this
      rw [this]
      simp [i64s, List.getElem?_map, List.getElem?_eq_getElem hi]
    · have hl := h7.1
      rw [List.getElem?_eq_none (by rw [hl]; omega), List.getElem?_eq_none (by simp [i64s]; omega)]
  rw [← e1]
  simpa using h7

theorem reads_bool {t : TypeId} (ht : P.underlying t = some .bool) : Reads enc P w t (fun _ cs (a : Bool) => cs = [.bool a]) := by
  intro fuel cs x h _
  obtain ⟨b, e, _⟩ := DataW.trod_bool ht h
  exact ⟨b, e⟩
theorem reads_bools {t e : TypeId} (ht : P.underlying t = some (.slice e)) (he : P.underlying e = some .bool) (hce : P.cellsOf e = 1) (hby : 1 ≤ P.bytesOf e) :
    Reads enc P w t (fun w cs (l : List Bool) => ∃ v, cs = [v] ∧ Bools w v l) := by
  intro fuel cs x h hsm
  obtain ⟨l, v, rfl, ⟨A, c, vs, rfl, h1, h2, h3, h4, h5, h6, h7⟩, _⟩ := reads_structs (enc := enc) (w := w) ht hce (by omega) hby (reads_bool he) fuel cs x h hsm
  refine ⟨l, _, rfl, A, c, rfl, ?_, h1, h2, h3⟩
  have e1 : vs.flatten = boolsV l := by
    apply List.ext_getElem?
    intro i
    by_cases hi : i < l.length
    · have hv : vs[i]? = some (vs[i]'(by omega)) := List.getElem?_eq_getElem (by omega)
      have hr := h6 i _ _ hv (List.getElem?_eq_getElem hi)
      have := flatten_at (j := 0) h5 hv (by rw [hr]; rfl)
      rw [Nat.mul_one, Nat.add_zero] at this
      rw [this]
      simp [boolsV, List.getElem?_map, List.getElem?_eq_getElem hi]
    · have hl := h7.1
      rw [List.getElem?_eq_none (by rw [hl]; omega), List.getElem?_eq_none (by simp [boolsV]; omega)]
  rw [← e1]
  simpa using h7
/-- a field of a structure -/
theorem field_reads {t : TypeId} {fs : Array Field} {fuel : Nat} {cs : List Value} {x : DataW H × List MemPlace} (ht : P.underlying t = some (.struct fs)) (h : DataW.trod enc P w 0 (fun _ => true) true fuel t cs = some x) (hsm : Small P t x.1)
    {α : Type} {R : World → List Value → α → Prop} (i : Nat) {f : Field} (hf : fs[i]? = some f) (hR : Reads enc P w f.type R) : cs.length = P.cellsOf t ∧ ∃ a, R w ((cs.drop f.offset).take (P.cellsOf f.type)) a := by
  obtain ⟨xs, n, _, hx, hl, hxl, hg⟩ := DataW.trod_struct ht h
  have hi : i < fs.size := (Array.getElem?_eq_some_iff.1 hf).1
  have h1 := hg i f hf
  rw [List.getElem?_eq_getElem (by omega)] at h1
  refine ⟨hl, hR n _ _ h1 (fun q hq => hsm q ?_)⟩
  rw [show x.1 = _ from congrArg Prod.fst hx]
  simp only [DataW.weights, ht]
  refine DataW.weights_mem_each (j := i) (t := f.type) (d := (xs[i]'(by omega)).1) ?_ ?_ q hq
  · rw [List.getElem?_map]
    have : fs.toList[i]? = some f := by simpa using hf
    rw [this]; rfl
  · rw [List.getElem?_map, List.getElem?_eq_getElem (by omega)]; rfl
theorem field_at {t : TypeId} {fs : Array Field} {fuel : Nat} {cs : List Value} {x : DataW H × List MemPlace} (ht : P.underlying t = some (.struct fs)) (h : DataW.trod enc P w 0 (fun _ => true) true fuel t cs = some x) (hsm : Small P t x.1)
    {α : Type} {R : World → List Value → α → Prop} (i o k e : Nat) {f : Field} (hf : fs[i]? = some f) (hR : Reads enc P w e R) (he : f.type = e) (ho : f.offset = o) (hk : P.cellsOf e = k) : ∃ a, R w ((cs.drop o).take k) a := by
  subst he
  subst ho
  subst hk
  exact (field_reads ht h hsm i hf hR).2
end
end Go.Bk

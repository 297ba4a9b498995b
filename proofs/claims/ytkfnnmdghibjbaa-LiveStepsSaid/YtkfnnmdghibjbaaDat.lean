/-
  Words for nested data that came in: rows of numbers, of truth values, of structures; and how each is kept.
  Conditions: none.
-/
import Derived.Test.YtkfnnmdghibjbaaSrt
namespace Go.Bk
open Go Go.RowKit

/-- a slice value that reads as numbers -/
def Ints (w : World) (v : Value) (l : List Int) : Prop := ∃ A c, v = .slice A l.length c ∧ Src w A l.length (i64s l) ∧ l.length ≤ c ∧ (A = none → c = 0) ∧ c * 8 ≤ 140737488351232
def boolsV (l : List Bool) : List Value := l.map Value.bool
theorem boolsV_at {l : List Bool} {k : Nat} (h : k < l.length) : (boolsV l)[k]'(by simpa [boolsV] using h) = .bool l[k] := by simp [boolsV]
def Bools (w : World) (v : Value) (l : List Bool) : Prop := ∃ A c, v = .slice A l.length c ∧ Src w A l.length (boolsV l) ∧ l.length ≤ c ∧ (A = none → c = 0) ∧ c ≤ 140737488351232
/-- a slice value that reads as structures of k cells -/
def Structs {α : Type} (k : Nat) (R : World → List Value → α → Prop) (w : World) (v : Value) (l : List α) : Prop :=
  ∃ (A : Option Addr) (c : Nat) (vs : List (List Value)), v = .slice A l.length c ∧ l.length ≤ c ∧ (A = none → c = 0) ∧ c ≤ 140737488351232 ∧ vs.length = l.length ∧ (∀ r ∈ vs, r.length = k) ∧ (∀ (i : Nat) (r : List Value) (x : α), vs[i]? = some r → l[i]? = some x → R w r x) ∧ Src w A (l.length * k) vs.flatten

theorem flatten_at {k : Nat} : ∀ {vs : List (List Value)} {i j : Nat} {r : List Value} {u : Value}, (∀ r ∈ vs, r.length = k) → vs[i]? = some r → r[j]? = some u → vs.flatten[i * k + j]? = some u
  | [], i, j, r, u, _, h, _ => by simp at h
  | s :: vs, 0, j, r, u, hk, h, hu => by
    simp at h
    subst h
    simp only [List.flatten_cons, Nat.zero_mul, Nat.zero_add]
    rw [List.getElem?_append_left (List.getElem?_eq_some_iff.1 hu).1]
    exact hu
  | s :: vs, i + 1, j, r, u, hk, h, hu => by
    simp at h
    have hs : s.length = k := hk s (by simp)
    have ih := flatten_at (vs := vs) (fun r hr => hk r (by simp [hr])) h hu
    rw [List.flatten_cons, List.getElem?_append_right (by rw [hs, Nat.add_mul]; omega), hs]
    rw [show (i + 1) * k + j - k = i * k + j by rw [Nat.add_mul]; omega]
    exact ih

theorem Ints.below {w w' : World} {B : Nat} {v : Value} {l : List Int} (h : Ints w v l) (hb : Below B w w') (hB : w.heap.size ≤ B) : Ints w' v l := by
  obtain ⟨A, c, e, hs, r⟩ := h
  exact ⟨A, c, e, hs.below hb hB, r⟩
theorem Bools.below {w w' : World} {B : Nat} {v : Value} {l : List Bool} (h : Bools w v l) (hb : Below B w w') (hB : w.heap.size ≤ B) : Bools w' v l := by
  obtain ⟨A, c, e, hs, r⟩ := h
  exact ⟨A, c, e, hs.below hb hB, r⟩
theorem Structs.below {α : Type} {k : Nat} {R : World → List Value → α → Prop} {w w' : World} {B : Nat} {v : Value} {l : List α} (h : Structs k R w v l) (hb : Below B w w') (hB : w.heap.size ≤ B)
    (hR : ∀ r x, R w r x → R w' r x) : Structs k R w' v l := by
  obtain ⟨A, c, vs, e, h1, h2, h3, h4, h5, h6, hs⟩ := h
  exact ⟨A, c, vs, e, h1, h2, h3, h4, h5, fun i r x q1 q2 => hR r x (h6 i r x q1 q2), hs.below hb hB⟩

/-- the cells of one structure of a row -/
theorem Structs.at {α : Type} {k : Nat} {R : World → List Value → α → Prop} {w : World} {v : Value} {l : List α} (h : Structs k R w v l) (hk : 0 < k) {i : Nat} {x : α} (hx : l[i]? = some x) :
    ∃ b o c r, v = .slice (some ⟨b, o, none⟩) l.length c ∧ b < w.heap.size ∧ r.length = k ∧ R w r x ∧ ∀ j u, r[j]? = some u → w.cell? ⟨b, o + (i * k + j), none⟩ = some u := by
  obtain ⟨A, c, vs, e, h1, h2, h3, h4, h5, h6, hs⟩ := h
  have hi : i < l.length := (List.getElem?_eq_some_iff.1 hx).1
  obtain ⟨b, o, rfl, hb, hc⟩ := hs.2 (Nat.mul_pos (by omega) hk)
  have hr : vs[i]? = some (vs[i]'(by omega)) := List.getElem?_eq_getElem (by omega)
  exact ⟨b, o, c, _, e, hb, h5 _ (List.getElem_mem _), h6 i _ x hr hx, fun j u hu => hc _ u (flatten_at h5 hr hu)⟩
theorem Structs.len {α : Type} {k : Nat} {R : World → List Value → α → Prop} {w : World} {v : Value} {l : List α} (h : Structs k R w v l) : ∃ A c, v = .slice A l.length c ∧ l.length ≤ c ∧ c ≤ 140737488351232 := by
  obtain ⟨A, c, vs, e, h1, h2, h3, _⟩ := h
  exact ⟨A, c, e, h1, h3⟩
theorem Ints.len {w : World} {v : Value} {l : List Int} (h : Ints w v l) : ∃ A c, v = .slice A l.length c ∧ Src w A l.length (i64s l) ∧ l.length * 8 ≤ 140737488351232 := by
  obtain ⟨A, c, e, hs, h1, h2, h3⟩ := h
  exact ⟨A, c, e, hs, by omega⟩
theorem Ints.nil (w : World) : Ints w (.slice none 0 0) [] := ⟨none, 0, rfl, Src.nil _ _, Nat.le_refl _, fun _ => rfl, by omega⟩

/-- the plain data of the program's types -/
structure SigD where
  inn : List Int
  out : List Int
structure EnvD where
  sigs : List SigD
  imports : Int
  globals : List Int
  muts : List Bool
  mem : Bool
structure CodeD where
  op : Int
  n : Nat
  args : List Int
  outs : List Int
  to : List Int
/-- its numbers are within their kinds -/
def CodeD.ok (c : CodeD) : Prop := c.n < 18446744073709551616 ∧ -9223372036854775808 ≤ c.op ∧ c.op ≤ 9223372036854775807
structure RowD where
  sig : SigD
  places : Int
  params : List Int
  code : List CodeD

def SigC (w : World) (r : List Value) (s : SigD) : Prop := ∃ a b, r = [a, b] ∧ Ints w a s.inn ∧ Ints w b s.out
def CodeC (w : World) (r : List Value) (c : CodeD) : Prop := ∃ a b d, r = [.int .i64 c.op, .int .u64 (c.n : Int), a, b, d] ∧ c.ok ∧ Ints w a c.args ∧ Ints w b c.outs ∧ Ints w d c.to
def EnvC (w : World) (r : List Value) (e : EnvD) : Prop := ∃ a b d, r = [a, .int .i64 e.imports, b, d, .bool e.mem] ∧ Structs 2 SigC w a e.sigs ∧ Ints w b e.globals ∧ Bools w d e.muts
def RowC (w : World) (r : List Value) (x : RowD) : Prop := ∃ a b p d, r = [a, b, .int .i64 x.places, p, d] ∧ Ints w a x.sig.inn ∧ Ints w b x.sig.out ∧ Ints w p x.params ∧ Structs 5 CodeC w d x.code

theorem SigC.below {w w' : World} {B : Nat} {r : List Value} {s : SigD} (h : SigC w r s) (hb : Below B w w') (hB : w.heap.size ≤ B) : SigC w' r s := by
  obtain ⟨a, b, e, h1, h2⟩ := h
  exact ⟨a, b, e, h1.below hb hB, h2.below hb hB⟩
theorem CodeC.below {w w' : World} {B : Nat} {r : List Value} {c : CodeD} (h : CodeC w r c) (hb : Below B w w') (hB : w.heap.size ≤ B) : CodeC w' r c := by
  obtain ⟨a, b, d, e, h0, h1, h2, h3⟩ := h
  exact ⟨a, b, d, e, h0, h1.below hb hB, h2.below hb hB, h3.below hb hB⟩
theorem EnvC.below {w w' : World} {B : Nat} {r : List Value} {e : EnvD} (h : EnvC w r e) (hb : Below B w w') (hB : w.heap.size ≤ B) : EnvC w' r e := by
  obtain ⟨a, b, d, e', h1, h2, h3⟩ := h
  exact ⟨a, b, d, e', h1.below hb hB (fun r x q => q.below hb hB), h2.below hb hB, h3.below hb hB⟩
theorem RowC.below {w w' : World} {B : Nat} {r : List Value} {x : RowD} (h : RowC w r x) (hb : Below B w w') (hB : w.heap.size ≤ B) : RowC w' r x := by
  obtain ⟨a, b, p, d, e', h1, h2, h3, h4⟩ := h
  exact ⟨a, b, p, d, e', h1.below hb hB, h2.below hb hB, h3.below hb hB, h4.below hb hB (fun r x q => q.below hb hB)⟩
end Go.Bk

/-
 Words for memory, maps, rows and nested data: how each is read, grown and kept.
 Conditions: none.
-/
import Derived.WalkKit
import Derived.WalkSpells
import Derived.WalkLawsBesides
import Derived.Lib.Hide
import Derived.Maps.AppendAt
import Derived.Laws.BytesArg
import Derived.Laws.IdiomStrings
import Derived.RegionTactic
import Derived.ChangeAlike
import Derived.BigQuiet
import Derived.Deep.QuietTactic
import Derived.Maps.OwnSet
import Derived.Maps.RangeWalk
import Derived.Sort.Row
import Derived.Sort.Grow
import Derived.Deep.Slices
import Derived.ChangeSame
import Derived.SizedLaws
import Derived.OwnWalk
namespace Go.Bk
open Go Go.RowKit

/-- A slice's address and length: its elements (of one cell each) are xs in this world. -/
def Src (w : World) (A : Option Addr) (n : Nat) (xs : List Value) : Prop :=
 xs.length = n ∧ (0 < n → ∃ b o, A = some ⟨b, o, none⟩ ∧ b < w.heap.size ∧ ∀ j u, xs[j]? = some u → w.cell? ⟨b, o + j, none⟩ = some u)

theorem Src.len {w : World} {A : Option Addr} {n : Nat} {xs : List Value} (h : Src w A n xs) : xs.length = n := h.1

theorem Src.nil (w : World) (A : Option Addr) : Src w A 0 [] := ⟨rfl, fun h => absurd h (by omega)⟩

theorem Src.below {w w' : World} {B : Nat} {A : Option Addr} {n : Nat} {xs : List Value} (h : Src w A n xs) (hb : Below B w w') (hB : w.heap.size ≤ B) : Src w' A n xs :=
 ⟨h.1, fun hn => by
  obtain ⟨b, o, e, hlt, hc⟩ := h.2 hn
  exact ⟨b, o, e, Nat.lt_of_lt_of_le hlt hb.size, fun j u hu => (hb.cell (by show b < B; omega)).trans (hc j u hu)⟩⟩

theorem Src.at_ {w : World} {b o n k : Nat} {s : Option Nat} {xs : List Value} (h : Src w (some ⟨b, o, s⟩) n xs) (hk : k < n) :
  w.cell? ⟨b, o + k, none⟩ = some (xs[k]'(by rw [h.1]; exact hk)) := by
 obtain ⟨b', o', e, _, hc⟩ := h.2 (by omega)
 injection e with e
 injection e with e1 e2
 subst e1
 subst e2
 exact hc k _ (List.getElem?_eq_getElem (by rw [h.1]; exact hk))

theorem Src.addr {w : World} {A : Option Addr} {n : Nat} {xs : List Value} (h : Src w A n xs) (hn : 0 < n) : ∃ b o, A = some ⟨b, o, none⟩ ∧ b < w.heap.size := by
 obtain ⟨b, o, e, hlt, _⟩ := h.2 hn
 exact ⟨b, o, e, hlt⟩

theorem Src.of_own {w : World} {base : Nat} {e : TypeId} {A : Option Addr} {n c : Nat} {xs : List Value} (h : w.ownsRow base e 1 (.slice A n c) n xs) : Src w A n xs := by
 refine ⟨by simpa using h.1, fun hn => ?_⟩
 rcases h.2 with ⟨h1, h2⟩ | ⟨g, cap, cur, h1, _, hg, _, _, _, _⟩
 ·omega
 ·have hA : A = some ⟨g, 0, none⟩ := by injection h1
  subst hA
  refine ⟨g, 0, rfl, (Array.getElem?_eq_some_iff.1 hg).1, fun j u hu => ?_⟩
  have := h.cells (g := g) rfl j u hu
  rwa [Addr.add_lit] at this

theorem own_below {w w' : World} {B base : Nat} {e : TypeId} {size n : Nat} {v : Value} {xs : List Value} (h : w.ownsRow base e size v n xs) (hb : Below B w w') (hB : w.heap.size ≤ B) : w'.ownsRow base e size v n xs := by
 refine ⟨h.1, ?_⟩
 rcases h.2 with h2 | ⟨g, cap, cur, h1, h2, hg, r⟩
 ·exact .inl h2
 ·refine .inr ⟨g, cap, cur, h1, h2, ?_, r⟩
  rw [hb.block g (by have := (Array.getElem?_eq_some_iff.1 hg).1; omega)]
  exact hg

theorem own_mono {w : World} {base base' : Nat} {e : TypeId} {size n : Nat} {v : Value} {xs : List Value} (h : w.ownsRow base e size v n xs) (hb : base' ≤ base) : w.ownsRow base' e size v n xs := by
 refine ⟨h.1, ?_⟩
 rcases h.2 with h2 | ⟨g, cap, cur, h1, h2, r⟩
 ·exact .inl h2
 ·exact .inr ⟨g, cap, cur, h1, Nat.le_trans hb h2, r⟩

/-- the shape of an owned slice value -/
theorem own_shape {w : World} {base : Nat} {e : TypeId} {size n : Nat} {v : Value} {xs : List Value} (h : w.ownsRow base e size v n xs) :
  ∃ A c, v = .slice A n c ∧ n ≤ c := by
 rcases h.2 with ⟨h1, h2⟩ | ⟨g, cap, cur, h1, _, _, h4, _⟩
 ·subst h2
  exact ⟨none, 0, h1, Nat.le_refl _⟩
 ·exact ⟨_, _, h1, h4⟩

/-- append of a slice that may be nil, onto a row of the call's own -/
theorem append_src {P : Program} {ops : Array Oper} {rest : List Oper} {o : Oper} {a : Act} {Q : Exit → Act → World → Prop} (w : World) (hgd : o.guard = none) (s x : Operand) (t : TypeId)
  (ho : o.op = .call { callee := .builtin .append, args := #[s, x], argTypes := #[t, t] })
  (base : Nat) (e : TypeId) (z : Value) (bytes : Nat) (ht : P.underlying t = some (.slice e)) (hinfo : (P.info? e).map (fun i => (i.zero, i.size, i.bytes)) = some (some z, 1, bytes)) (hzs : z.cells.size = 1)
  (v : Value) (n : Nat) (xs : List Value) (hs : a.eval s = v) (hown : w.ownsRow base e 1 v n xs)
  (A : Option Addr) (m c : Nat) (news : List Value) (hx : a.eval x = .slice A m c) (hr : Src w A m news) (h1 : ∀ u ∈ news, u.oneCell' = true)
  (h63 : n + m ≤ maxLen) (hbytes : (n + m) * bytes ≤ 140737488355328) (hbase : base ≤ w.heap.size)
  (h : ∀ v' w', w'.ownsRow base e 1 v' (n + m) (xs ++ news) → w.grownBy w' v.ownBlock → wpList P ops Q rest (a.put o.dst v') w') : wpList P ops Q (o :: rest) a w := by
 obtain ⟨i, hi, hz, hsz, hby⟩ := info_parts hinfo
 have key : ∃ v' w', (Builtin.append_ #[t, t] o.type #[v, .slice A m c]).run P w = .ok v' w' ∧ w'.ownsRow base e 1 v' (n + m) (xs ++ news) ∧ w.grownBy w' v.ownBlock := by
  rcases A with _ | ad
  ·have hm0 : m = 0 := by
    rcases Nat.eq_zero_or_pos m with h0 | h0
    ·exact h0
    ·obtain ⟨b, o, had, _⟩ := hr.2 h0
     cases had
   have hm : news = [] := List.eq_nil_of_length_eq_zero (by rw [hr.1, hm0])
   subst hm
   subst hm0
   refine ⟨v, w, ?_, by simpa using hown, World.grownBy.refl w _⟩
   rcases hown.2 with ⟨rfl, rfl⟩ | ⟨g, cap, cur, rfl, _, _, hnc, _⟩
   ·simp [Builtin.append_, run_underlying ht, sizeOf, typeInfo, hi, Builtin.lenOf, Builtin.firstCells]
   ·simp [Builtin.append_, run_underlying ht, sizeOf, typeInfo, hi, Builtin.lenOf, Builtin.firstCells, hnc, storeCells]
  ·obtain ⟨v', w', hrun, h2, h3, _⟩ := run_append_own (P := P) w base t o.type e i z 1 bytes ht hi hz hsz hby hzs (by omega) v n xs hown ad m c news (by simpa using hr.1)
    (fun j u hu => by
     have hj := (List.getElem?_eq_some_iff.1 hu).1
     obtain ⟨b, o, e', _, hc⟩ := hr.2 (by have := hr.1; omega)
     injection e' with e'
     subst e'
     rw [Addr.add_lit]
     exact hc j u hu) h1 h63 hbytes hbase
   exact ⟨v', w', hrun, h2, h3⟩
 obtain ⟨v', w', hrun, h2, h3⟩ := key
 refine wpList_plain hgd fun K hK => ?_
 unfold Oper.wp execOp
 simp only [ho, resolve, invoke, builtin, Sem.run_bind, Sem.run_pure, Result.andThen_ok, List.map_toArray, List.map_cons, List.map_nil, hs, hx, hrun]
 exact hK _ _ (h v' w' h2 h3)

/-- behind an append onto a row of the call's own -/
theorem below_append {B base : Nat} {a w w' : World} {e : TypeId} {size n : Nat} {v : Value} {xs : List Value} (h : Below B a w) (hg : w.grownBy w' v.ownBlock) (hown : w.ownsRow base e size v n xs) (hB : B ≤ base) (hs : B ≤ w.heap.size) : Below B a w' :=
 h.grown hg hs (fun k hk => Nat.le_trans hB (hown.lt k hk).1)

/-- bytes as cells -/
def bys (l : List Nat) : List Value := l.map fun c : Nat => .int .u8 (c : Int)

/-- all are bytes -/
def AllB (l : List Nat) : Prop := ∀ c ∈ l, c < 256

theorem AllB.get {l : List Nat} (h : AllB l) {k : Nat} (hk : k < l.length) : l[k] < 256 := h _ (List.getElem_mem hk)
theorem AllB.nil : AllB [] := fun _ h => by simp at h
/-- one new cell behind all blocks -/
theorem src_one (w : World) (v : Value) (e : TypeId) : Src (w.alloc (.cells #[v] e)) (some ⟨w.heap.size, 0, none⟩) 1 [v] := by
 refine ⟨rfl, fun _ => ⟨_, _, rfl, by simp, fun j u hu => ?_⟩⟩
 match j, hu with
 | 0, hu =>
  simp at hu
  subst hu
  simp

/-- nil, or a row of cap cells, the numbers zs -/
def RowIn (k : IntKind) (w : World) (a : Option Addr) (len cap : Nat) (zs : List Int) : Prop :=
 (a = none ∧ len = 0 ∧ cap = 0 ∧ zs = []) ∨
 ∃ x, a = some x ∧ len ≤ cap ∧ cap ≤ maxLen ∧ zs.length = cap ∧ (∀ i, i < zs.length → w.cell? (x.add i) = some (.int k (zs.getD i 0))) ∧ ∀ n ∈ zs, (Lit.int k n).wf = true

theorem cell_some {w : World} {x : Addr} {v : Value} (h : w.cell? x = some v) : x.spot = none ∧ x.block < w.heap.size := by
 unfold World.cell? at h
 split at h
 ·rename_i hh
  split at h
  ·cases h
  ·rename_i hs
   exact ⟨by simpa using hs, (Array.getElem?_eq_some_iff.1 hh).1⟩
 ·cases h

theorem RowIn.src {k : IntKind} {w : World} {a : Option Addr} {len cap : Nat} {zs : List Int} (h : RowIn k w a len cap zs) :
  Src w a len ((zs.take len).map (Value.int k)) ∧ len ≤ cap ∧ (a = none → len = 0 ∧ cap = 0) ∧ ∀ n ∈ zs, (Lit.int k n).wf = true := by
 rcases h with ⟨rfl, rfl, rfl, rfl⟩ | ⟨x, rfl, h1, h2, h3, h4, h5⟩
 ·exact ⟨Src.nil _ _, Nat.le_refl _, fun _ => ⟨rfl, rfl⟩, fun _ hn => by simp at hn⟩
 ·refine ⟨⟨by simp; omega, fun hn => ?_⟩, h1, (fun e => by cases e), h5⟩
  have h0 := h4 0 (by omega)
  rw [show x.add 0 = x from by simp [Addr.add]] at h0
  obtain ⟨hs, hb⟩ := cell_some h0
  obtain ⟨b, o, s⟩ := x
  simp at hs
  subst hs
  refine ⟨b, o, rfl, hb, fun j u hu => ?_⟩
  have hj : j < len := by
   have := (List.getElem?_eq_some_iff.1 hu).1
   simp at this
   omega
  have hc := h4 j (by omega)
  rw [Addr.add_lit] at hc
  rw [hc]
  rw [List.getElem?_map, List.getElem?_take, if_pos hj, List.getElem?_eq_getElem (by omega)] at hu
  simp at hu
  rw [← hu]
  simp [List.getD, List.getElem?_eq_getElem (show j < zs.length by omega)]

theorem RowIn.bytes {w : World} {a : Option Addr} {len cap : Nat} {zs : List Int} (h : RowIn .u8 w a len cap zs) :
  ∃ l : List Nat, Src w a len (bys l) ∧ AllB l ∧ len ≤ cap ∧ (a = none → len = 0 ∧ cap = 0) := by
 obtain ⟨h1, h2, h3, h4⟩ := h.src
 have hz : ∀ n ∈ zs, 0 ≤ n ∧ n < 256 := fun n hn => by
  have := h4 n hn
  simp [Lit.wf, IntKind.min, IntKind.max, IntKind.bits, IntKind.signed] at this
  omega
 refine ⟨(zs.take len).map Int.toNat, ?_, ?_, h2, h3⟩
 ·have e : bys ((zs.take len).map Int.toNat) = (zs.take len).map (Value.int .u8) := by
   unfold bys
   rw [List.map_map]
   refine List.map_congr_left fun n hn => ?_
   have := hz n (List.mem_of_mem_take hn)
   simp
   omega
  rw [e]
  exact h1
 ·intro c hc
  obtain ⟨n, hn, rfl⟩ := List.mem_map.1 hc
  have := hz n (List.mem_of_mem_take hn)
  omega

/-- append onto a row of the call's own: what was there below stays -/
theorem append_own {P : Program} {ops : Array Oper} {rest : List Oper} {o : Oper} {a : Act} {Q : Exit → Act → World → Prop} (w : World) (hgd : o.guard = none) (s x : Operand) (t : TypeId)
  (ho : o.op = .call { callee := .builtin .append, args := #[s, x], argTypes := #[t, t] })
  (base : Nat) (e : TypeId) (z : Value) (bytes : Nat) (ht : P.underlying t = some (.slice e)) (hinfo : (P.info? e).map (fun i => (i.zero, i.size, i.bytes)) = some (some z, 1, bytes)) (hzs : z.cells.size = 1)
  (v : Value) (n : Nat) (xs : List Value) (hs : a.eval s = v) (hown : w.ownsRow base e 1 v n xs)
  (A : Option Addr) (m c : Nat) (news : List Value) (hx : a.eval x = .slice A m c) (hr : Src w A m news) (h1 : ∀ u ∈ news, u.oneCell' = true)
  (h63 : n + m ≤ maxLen) (hbytes : (n + m) * bytes ≤ 140737488355328) (hbase : base ≤ w.heap.size)
  (h : ∀ v' w', w'.ownsRow base e 1 v' (n + m) (xs ++ news) → Below base w w' → wpList P ops Q rest (a.put o.dst v') w') : wpList P ops Q (o :: rest) a w :=
 append_src w hgd s x t ho base e z bytes ht hinfo hzs v n xs hs hown A m c news hx hr h1 h63 hbytes hbase fun v' w' h2 h3 =>
  h v' w' h2 (below_append (Below.refl _ _) h3 hown (Nat.le_refl _) hbase)


/-- a block that is known whole -/
def Blk (w : World) (g : Nat) (e : TypeId) (cs : Array Value) : Prop := w.heap[g]? = some (.cells cs e (0, 0))
theorem Blk.lt {w : World} {g : Nat} {e : TypeId} {cs : Array Value} (h : Blk w g e cs) : g < w.heap.size := (Array.getElem?_eq_some_iff.1 h).1
theorem Blk.new (w : World) (e : TypeId) (cs : Array Value) : Blk (w.alloc (.cells cs e)) w.heap.size e cs := heap_alloc_new w _
theorem Blk.below {w w' : World} {B g : Nat} {e : TypeId} {cs : Array Value} (h : Blk w g e cs) (hb : Below B w w') (hB : g < B) : Blk w' g e cs := (hb.block g hB).trans h
theorem Blk.cell {w : World} {g : Nat} {e : TypeId} {cs : Array Value} (h : Blk w g e cs) (i : Nat) : w.cell? ⟨g, i, none⟩ = cs[i]? := cell_of_row w g i cs e (0, 0) h
theorem Blk.src {w : World} {g : Nat} {e : TypeId} {cs : Array Value} (h : Blk w g e cs) (n : Nat) (hn : n ≤ cs.size) : Src w (some ⟨g, 0, none⟩) n (cs.toList.take n) := by
 refine ⟨by simp; omega, fun _ => ⟨g, 0, rfl, h.lt, fun j u hu => ?_⟩⟩
 rw [Nat.zero_add, h.cell]
 rw [List.getElem?_take] at hu
 split at hu
 ·simpa using hu
 ·cases hu

theorem below_drewN {B : Nat} {a w : World} (h : Below B a w) (n : Nat) : Below B a (w.drewN n) := ⟨h.os, h.tape, h.output, h.size, h.block⟩

theorem one_int (k : IntKind) (x : Int) : ∀ u ∈ [Value.int k x], u.oneCell' = true := by
 intro u hu
 obtain rfl := List.mem_singleton.1 hu
 rfl

theorem own_at {w : World} {p n : Nat} {e : TypeId} {v : Value} {xs : List Value} (h : w.ownsRow p e 1 v n xs) (hn : 1 ≤ n) : ∃ g c, v = .slice (some ⟨g, 0, none⟩) n c ∧ g < w.heap.size ∧ p ≤ g ∧ n ≤ c := by
 rcases h.2 with ⟨_, h⟩ | ⟨g', cap', cur, rfl, h1, h2, h3, r⟩
 ·omega
 ·exact ⟨_, _, rfl, (Array.getElem?_eq_some_iff.1 h2).1, h1, h3⟩

theorem bys_take (l : List Nat) (i : Nat) : (bys l).take i = bys (l.take i) := by simp [bys, List.map_take]
theorem Src.take {w : World} {A : Option Addr} {n i : Nat} {xs : List Value} (h : Src w A n xs) (hi : i ≤ n) : Src w A i (xs.take i) := by
 refine ⟨by rw [List.length_take, h.1]; omega, fun h0 => ?_⟩
 obtain ⟨b, o, e, hlt, hc⟩ := h.2 (by omega)
 refine ⟨b, o, e, hlt, fun j u hu => hc j u ?_⟩
 rw [List.getElem?_take] at hu
 split at hu
 ·exact hu
 ·cases hu

theorem Src.drop {w : World} {b o n i : Nat} {xs : List Value} (h : Src w (some ⟨b, o, none⟩) n xs) (hi : i ≤ n) : Src w (some ⟨b, o + i, none⟩) (n - i) (xs.drop i) := by
 refine ⟨by rw [List.length_drop, h.1], fun h0 => ?_⟩
 obtain ⟨b', o', e, hlt, hc⟩ := h.2 (by omega)
 injection e with e
 injection e with e1 e2
 subst e1
 subst e2
 refine ⟨b, o + i, rfl, hlt, fun j u hu => ?_⟩
 rw [Nat.add_assoc]
 exact hc (i + j) u (by rw [← hu, List.getElem?_drop])

theorem Blk.bytes {w : World} {g n : Nat} {e : TypeId} {l : List Nat} (h : Blk w g e (bys l).toArray) (hn : n ≤ l.length) : Src w (some ⟨g, 0, none⟩) n (bys (l.take n)) := by
 have := h.src n (by simpa [bys] using hn)
 rw [← bys_take]
 simpa using this

theorem u64_bounds {a : Int} (h : (Lit.int .u64 a).wf = true) : 0 ≤ a ∧ a < 18446744073709551616 := by
 simp [Lit.wf, IntKind.min, IntKind.max, IntKind.bits, IntKind.signed] at h
 omega
theorem i64_bounds {a : Int} (h : (Lit.int .i64 a).wf = true) : -9223372036854775808 ≤ a ∧ a ≤ 9223372036854775807 := by
 simp [Lit.wf, IntKind.min, IntKind.max, IntKind.bits, IntKind.signed] at h
 omega

end Go.Bk
namespace Go.Bk
open Go Go.RowKit

/-- the entries of a literal map by numbers -/
def ents : Nat → List (Int × Value) → List MapEntry
 | _, [] => []
 | i, (k, v) :: r => { key := .int .i64 k, val := v, born := i } :: ents (i + 1) r

theorem ents_app : ∀ (i : Nat) (a b : List (Int × Value)), ents i (a ++ b) = ents i a ++ ents (i + a.length) b
 | i, [], b => by simp [ents]
 | i, (k, v) :: a, b => by
  simp only [List.cons_append, ents, ents_app (i + 1) a b, List.length_cons]
  rw [show i + 1 + a.length = i + (a.length + 1) from by omega]

/-- the place and the value of a key -/
def findPair (op : Int) : List (Int × Value) → Nat → Option (Nat × Value)
 | [], _ => none
 | (k, v) :: r, j => if op = k then some (j, v) else findPair op r (j + 1)

theorem findNow_ents (op : Int) : ∀ (l : List (Int × Value)) (i j : Nat), Instr.findNow (.int .i64) (.int .i64 op) (ents i l) j = some (findPair op l j)
 | [], _, _ => rfl
 | (k, v) :: r, i, j => by
  simp only [ents, Instr.findNow, Instr.sameNow, findPair, if_true]
  by_cases h : op = k
  ·simp [h]
  ·have : (op == k) = false := by simp [h]
   rw [this]
   simp only [if_neg h]
   exact findNow_ents op r (i + 1) (j + 1)

/-- the map that a literal makes -/
def lit (l : List (Int × Value)) : Obj := .map (ents 0 l).toArray l.length

theorem checkKey_int {P : Program} (w : World) (b : Bool) (n : Nat) (t : TypeId) (k : IntKind) (x : Int) (h : P.underlying t = some (.int .i64)) : (Instr.checkKey b (n + 1) t (.int k x)).run P w = .ok () w := by
 simp [Instr.checkKey, run_underlying h]

theorem get_map {P : Program} {w : World} {r : Nat} {es : Array MapEntry} {clock : Nat} (hb : w.heap[r]? = some (.map es clock)) : (getObj r).run P w = .ok (.map es clock) w := by
 simp [getObj, Sem.run, hb]
theorem set_map {P : Program} {w : World} {r : Nat} {es : Array MapEntry} {clock : Nat} (o : Obj) (hb : w.heap[r]? = some (.map es clock)) : (setObj r o).run P w = .ok () { w with heap := w.heap.setIfInBounds r o } := by
 simp [setObj, Sem.run, hb]
theorem find_key {P : Program} {w : World} {kt : TypeId} {d : TypeDesc} {k : Value} {l : List MapEntry} {a : Option (Nat × Value)} (hd : P.underlying kt = some d) (h : Instr.findNow d k l 0 = some a) : (Instr.findKey kt k l).run P w = .ok a w := by
 simp [Instr.findKey, run_underlying hd, h]

theorem alloc_put (W : World) (o o' : Obj) : ({ W.alloc o with heap := (W.alloc o).heap.setIfInBounds W.heap.size o' } : World) = W.alloc o' := by
 show ({ ({ W with heap := W.heap.push o } : World) with heap := (W.heap.push o).setIfInBounds W.heap.size o' } : World) = { W with heap := W.heap.push o' }
 have e : (W.heap.push o).setIfInBounds W.heap.size o' = W.heap.push o' := by
  apply Array.ext_getElem?
  intro i
  simp only [Array.getElem?_setIfInBounds, Array.getElem?_push, Array.size_push]
  by_cases h : W.heap.size = i
  ·subst h
   simp
  ·rw [if_neg h, if_neg (by omega), if_neg (by omega)]
 rw [e]

theorem run_insert_lit {P : Program} (W : World) (t kt et : TypeId) (l : List (Int × Value)) (k : Int) (v : Value) (ht : P.underlying t = some (.map kt et)) (hk : P.underlying kt = some (.int .i64)) (hn : findPair k l 0 = none) :
  (Instr.mapUpdate t (.map (some W.heap.size)) (.int .i64 k) v).run P (W.alloc (lit l)) = .ok () (W.alloc (lit (l ++ [(k, v)]))) := by
 have hb : (W.alloc (lit l)).heap[W.heap.size]? = some (.map (ents 0 l).toArray l.length) := heap_alloc_new W _
 have h1 := get_map (P := P) hb
 have h2 := checkKey_int (P := P) (W.alloc (lit l)) false 9999 kt .i64 k hk
 have h3 := find_key (P := P) (w := W.alloc (lit l)) hk (findNow_ents k l 0 0)
 rw [hn] at h3
 have h4 := set_map (P := P) (.map ((ents 0 l).toArray.push { key := .int .i64 k, val := v, born := l.length }) (l.length + 1)) hb
 rw [alloc_put] at h4
 have e : lit (l ++ [(k, v)]) = .map ((ents 0 l).toArray.push { key := .int .i64 k, val := v, born := l.length }) (l.length + 1) := by
  unfold lit
  rw [ents_app]
  simp [ents]
 rw [e]
 unfold Instr.mapUpdate
 simp only [Sem.run_bind, run_underlying ht, Result.andThen_ok, h1, h2, h3, h4]

theorem run_lookup_lit {P : Program} (W : World) (t kt et : TypeId) (z : Value) (l : List (Int × Value)) (k : Int) (ht : P.underlying t = some (.map kt et)) (hk : P.underlying kt = some (.int .i64)) (hz : ∀ w, (zeroValue et).run P w = .ok z w) :
  (Instr.lookup t (.map (some W.heap.size)) (.int .i64 k) true).run P (W.alloc (lit l)) = .ok (.tuple #[((findPair k l 0).map (·.2)).getD z, .bool (findPair k l 0).isSome]) (W.alloc (lit l)) := by
 have hb : (W.alloc (lit l)).heap[W.heap.size]? = some (.map (ents 0 l).toArray l.length) := heap_alloc_new W _
 have h1 := get_map (P := P) hb
 have h2 := fun b => checkKey_int (P := P) (W.alloc (lit l)) b 9999 kt .i64 k hk
 have h3 := find_key (P := P) (w := W.alloc (lit l)) hk (findNow_ents k l 0 0)
 unfold Instr.lookup
 simp only [Sem.run_bind, run_underlying ht, Result.andThen_ok, h1, Sem.run_pure, h2, h3]
 cases findPair k l 0 with
 | none => simp [hz, Result.andThen]
 | some p => simp [Sem.run_pure]

end Go.Bk
namespace Go.Bk
open Go Go.RowKit

theorem Blk.alloc {w : World} {g : Nat} {e : TypeId} {cs : Array Value} (h : Blk w g e cs) (o : Obj) : Blk (w.alloc o) g e cs := h.below ((Below.refl w.heap.size _).alloc (Nat.le_refl _) _) h.lt
theorem Blk.newAt (w : World) {N : Nat} (e : TypeId) (cs : Array Value) (h : w.heap.size = N) : Blk (w.alloc (.cells cs e)) N e cs := by
 subst h
 exact Blk.new w e cs
theorem Blk.drew {w : World} {g : Nat} {e : TypeId} {cs : Array Value} (h : Blk w g e cs) : Blk w.drew g e cs := h
theorem Blk.drewN {w : World} {g : Nat} {e : TypeId} {cs : Array Value} (h : Blk w g e cs) (n : Nat) : Blk (w.drewN n) g e cs := h
/-- a block that is known whole is a row of the call's own -/
theorem Blk.own {w : World} {g base n : Nat} {e : TypeId} {cs : Array Value} (h : Blk w g e cs) (hb : base ≤ g) (hn : cs.size = n) (hm : n ≤ maxLen) : w.ownsRow base e 1 (.slice (some ⟨g, 0, none⟩) n n) n cs.toList := by
 subst hn
 exact ⟨by simp, .inr ⟨g, cs.size, cs, rfl, hb, h, Nat.le_refl _, hm, by simp, by rw [Nat.mul_one]; exact List.take_of_length_le (by simp)⟩⟩
theorem Blk.srcAll {w : World} {g n : Nat} {e : TypeId} {cs : Array Value} (h : Blk w g e cs) (hn : cs.size = n) : Src w (some ⟨g, 0, none⟩) n cs.toList := by
 have := h.src n (by omega)
 rwa [List.take_of_length_le (by simp; omega)] at this
theorem own_drew {w : World} {base : Nat} {e : TypeId} {size n : Nat} {v : Value} {xs : List Value} (h : w.ownsRow base e size v n xs) : w.drew.ownsRow base e size v n xs := h
theorem own_alloc {w : World} {base : Nat} {e : TypeId} {size n : Nat} {v : Value} {xs : List Value} (h : w.ownsRow base e size v n xs) (o : Obj) : (w.alloc o).ownsRow base e size v n xs := own_below h ((Below.refl w.heap.size _).alloc (Nat.le_refl _) _) (Nat.le_refl _)
theorem Src.alloc {w : World} {A : Option Addr} {n : Nat} {xs : List Value} (h : Src w A n xs) (o : Obj) : Src (w.alloc o) A n xs := h.below ((Below.refl w.heap.size _).alloc (Nat.le_refl _) _) (Nat.le_refl _)
theorem Src.drew {w : World} {A : Option Addr} {n : Nat} {xs : List Value} (h : Src w A n xs) : Src w.drew A n xs := h
theorem Src.drewN {w : World} {A : Option Addr} {n : Nat} {xs : List Value} (h : Src w A n xs) (k : Nat) : Src (w.drewN k) A n xs := h
end Go.Bk
namespace Go.Bk
open Go Go.RowKit

/-- append onto a row of the call's own: only that row and new blocks are written; the new row is the old one or a new block -/
theorem append_at {P : Program} {ops : Array Oper} {rest : List Oper} {o : Oper} {a : Act} {Q : Exit → Act → World → Prop} (w : World) (hgd : o.guard = none) (s x : Operand) (t : TypeId)
  (ho : o.op = .call { callee := .builtin .append, args := #[s, x], argTypes := #[t, t] })
  (base : Nat) (e : TypeId) (z : Value) (size bytes : Nat) (ht : P.underlying t = some (.slice e)) (hinfo : (P.info? e).map (fun i => (i.zero, i.size, i.bytes)) = some (some z, size, bytes)) (hzs : z.cells.size = size) (hsp : 0 < size)
  (v : Value) (n : Nat) (xs : List Value) (hs : a.eval s = v) (hown : w.ownsRow base e size v n xs)
  (A : Option Addr) (m c : Nat) (news : List Value) (hx : a.eval x = .slice A m c) (hr : Src w A (m * size) news) (h1 : ∀ u ∈ news, u.oneCell' = true)
  (h63 : n + m ≤ maxLen) (hbytes : (n + m) * bytes ≤ 140737488355328) (hbase : base ≤ w.heap.size)
  (h : ∀ v' w', w'.ownsRow base e size v' (n + m) (xs ++ news) → w.grownBy w' v.ownBlock → (v'.ownBlock = v.ownBlock ∨ v'.ownBlock = some w.heap.size) → (v' = .slice none 0 0 ↔ v = .slice none 0 0 ∧ m = 0) → wpList P ops Q rest (a.put o.dst v') w') : wpList P ops Q (o :: rest) a w := by
 obtain ⟨i, hi, hz, hsz, hby⟩ := info_parts hinfo
 have key : ∃ v' w', (Builtin.append_ #[t, t] o.type #[v, .slice A m c]).run P w = .ok v' w' ∧ w'.ownsRow base e size v' (n + m) (xs ++ news) ∧ w.grownBy w' v.ownBlock ∧ (v'.ownBlock = v.ownBlock ∨ v'.ownBlock = some w.heap.size) ∧ (v' = .slice none 0 0 ↔ v = .slice none 0 0 ∧ m = 0) := by
  rcases A with _ | ad
  ·have hm0 : m = 0 := by
    rcases Nat.eq_zero_or_pos m with h0 | h0
    ·exact h0
    ·obtain ⟨b, o, had, _⟩ := hr.2 (Nat.mul_pos h0 hsp)
     cases had
   subst hm0
   have hm : news = [] := List.eq_nil_of_length_eq_zero (by rw [hr.1, Nat.zero_mul])
   subst hm
   refine ⟨v, w, ?_, by simpa using hown, World.grownBy.refl w _, .inl rfl, by simp⟩
   rcases hown.2 with ⟨rfl, rfl⟩ | ⟨g, cap, cur, rfl, _, _, hnc, _⟩
   ·simp [Builtin.append_, run_underlying ht, sizeOf, typeInfo, hi, Builtin.lenOf, Builtin.firstCells]
   ·simp [Builtin.append_, run_underlying ht, sizeOf, typeInfo, hi, Builtin.lenOf, Builtin.firstCells, hnc, storeCells]
  ·obtain ⟨v', w', hrun, h2, h3, h4, h5⟩ := run_append_own_at (P := P) w base t o.type e i z size bytes ht hi hz hsz hby hzs hsp v n xs hown ad m c news hr.1
    (fun j u hu => by
     have hj := (List.getElem?_eq_some_iff.1 hu).1
     obtain ⟨b, o, e', _, hc⟩ := hr.2 (by have := hr.1; omega)
     injection e' with e'
     subst e'
     rw [Addr.add_lit]
     exact hc j u hu) h1 h63 hbytes hbase
   exact ⟨v', w', hrun, h2, h3, h5, h4⟩
 obtain ⟨v', w', hrun, h2, h3, h4, h5⟩ := key
 refine wpList_plain hgd fun K hK => ?_
 unfold Oper.wp execOp
 simp only [ho, resolve, invoke, builtin, Sem.run_bind, Sem.run_pure, Result.andThen_ok, List.map_toArray, List.map_cons, List.map_nil, hs, hx, hrun]
 exact hK _ _ (h v' w' h2 h3 h4 h5)

theorem Blk.grown {w w' : World} {g : Nat} {e : TypeId} {cs : Array Value} {r : Option Nat} (h : Blk w g e cs) (hg : w.grownBy w' r) (hr : r ≠ some g) : Blk w' g e cs := by
 unfold Blk
 rw [hg.block g h.lt (fun e => hr e.symm)]
 exact h
theorem own_grown {w w' : World} {base : Nat} {e : TypeId} {size n : Nat} {v : Value} {xs : List Value} {r : Option Nat} (h : w.ownsRow base e size v n xs) (hg : w.grownBy w' r) (hr : ∀ g, v.ownBlock = some g → r ≠ some g) : w'.ownsRow base e size v n xs := by
 refine h.kept hg ?_
 cases hv : v.ownBlock with
 | none => exact .inl rfl
 | some g => exact .inr (fun e => hr g hv e.symm)
theorem Src.grown {w w' : World} {A : Option Addr} {n : Nat} {xs : List Value} {r : Option Nat} (h : Src w A n xs) (hg : w.grownBy w' r) (hr : ∀ a, A = some a → r ≠ some a.block) : Src w' A n xs := by
 refine ⟨h.1, fun hn => ?_⟩
 obtain ⟨b, o, e, hlt, hc⟩ := h.2 hn
 refine ⟨b, o, e, Nat.lt_of_lt_of_le hlt hg.size, fun j u hu => ?_⟩
 have hb := hg.block b hlt (fun e' => hr _ e e'.symm)
 rw [← hc j u hu]
 unfold World.cell?
 rw [hb]
theorem below_grown {B : Nat} {a w w' : World} {r : Option Nat} (h : Below B a w) (hg : w.grownBy w' r) (hs : B ≤ w.heap.size) (hr : ∀ k, r = some k → B ≤ k) : Below B a w' := h.grown hg hs hr
end Go.Bk
namespace Go.Bk
open Go Go.RowKit

abbrev KV := List (Int × Value)
/-- what a key holds -/
def getM : KV → Int → Option Value
 | [], _ => none
 | (a, x) :: r, k => if k = a then some x else getM r k
def updM : KV → Int → Value → KV
 | [], k, v => [(k, v)]
 | (a, x) :: r, k, v => if k = a then (a, v) :: r else (a, x) :: updM r k v
/-- entries that read so -/
def EM (es : List MapEntry) (m : KV) : Prop := es.map (fun e => (e.key, e.val)) = m.map fun p => (Value.int .i64 p.1, p.2)

theorem EM.nil : EM [] [] := rfl
theorem EM.cons {e : MapEntry} {es : List MapEntry} {m : KV} (h : EM (e :: es) m) : ∃ k v r, m = (k, v) :: r ∧ e.key = .int .i64 k ∧ e.val = v ∧ EM es r := by
 cases m with
 | nil => simp [EM] at h
 | cons p r =>
  obtain ⟨k, v⟩ := p
  simp only [EM, List.map_cons, List.cons.injEq, Prod.mk.injEq] at h
  exact ⟨k, v, r, rfl, h.1.1, h.1.2, h.2⟩
theorem EM.mk {e : MapEntry} {es : List MapEntry} {k : Int} {v : Value} {r : KV} (h1 : e.key = .int .i64 k) (h2 : e.val = v) (h : EM es r) : EM (e :: es) ((k, v) :: r) := by
 simp only [EM, List.map_cons, List.cons.injEq, Prod.mk.injEq] at h ⊢
 exact ⟨⟨h1, h2⟩, h⟩
theorem EM.len {es : List MapEntry} {m : KV} (h : EM es m) : es.length = m.length := by
 have := congrArg List.length h
 simpa using this

theorem em_find (k : Int) : ∀ (es : List MapEntry) (m : KV) (j : Nat), EM es m → Instr.findNow (.int .i64) (.int .i64 k) es j = some (findPair k m j)
 | [], m, j, h => by
  cases m with
  | nil => rfl
  | cons p r => simp [EM] at h
 | e :: es, m, j, h => by
  obtain ⟨a, v, r, rfl, h1, h2, h3⟩ := h.cons
  simp only [Instr.findNow, h1, Instr.sameNow, if_true, findPair]
  by_cases hk : k = a
  ·simp [hk, h2]
  ·have : (k == a) = false := by simp [hk]
   rw [this]
   simp only [if_neg hk]
   exact em_find k es r (j + 1) h3
theorem find_get (k : Int) : ∀ (m : KV) (j : Nat), (findPair k m j).map (·.2) = getM m k
 | [], _ => rfl
 | (a, x) :: r, j => by
  simp only [findPair, getM]
  by_cases hk : k = a
  ·simp [hk]
  ·simp only [if_neg hk]
   exact find_get k r (j + 1)
theorem find_none {k : Int} : ∀ {m : KV} {j : Nat}, findPair k m j = none → ∀ v, updM m k v = m ++ [(k, v)]
 | [], _, _, v => rfl
 | (a, x) :: r, j, h, v => by
  simp only [findPair] at h
  by_cases hk : k = a
  ·simp [hk] at h
  ·simp only [if_neg hk] at h
   simp only [updM, if_neg hk, List.cons_append, find_none h v]
theorem em_upd {k : Int} {v : Value} : ∀ {es : List MapEntry} {m : KV} {j i : Nat} {x : Value}, EM es m → findPair k m j = some (i, x) →
  j ≤ i ∧ (∃ e, es[i - j]? = some e ∧ e.key = .int .i64 k) ∧ EM (es.modify (i - j) fun e => { e with key := .int .i64 k, val := v }) (updM m k v)
 | [], m, j, i, x, h, hf => by
  cases m with
  | nil => simp [findPair] at hf
  | cons p r => simp [EM] at h
 | e :: es, m, j, i, x, h, hf => by
  obtain ⟨a, y, r, rfl, h1, h2, h3⟩ := h.cons
  simp only [findPair] at hf
  by_cases hk : k = a
  ·subst hk
   simp only [if_true, Option.some.injEq, Prod.mk.injEq] at hf
   obtain ⟨rfl, rfl⟩ := hf
   refine ⟨Nat.le_refl _, ⟨e, by simp, h1⟩, ?_⟩
   simp only [Nat.sub_self, updM, if_true]
   exact EM.mk rfl rfl h3
  ·simp only [if_neg hk] at hf
   obtain ⟨k1, ⟨e', k2, k3⟩, k4⟩ := em_upd (v := v) h3 hf
   have hi : i - j = (i - (j + 1)) + 1 := by omega
   refine ⟨by omega, ⟨e', by rw [hi]; simpa using k2, k3⟩, ?_⟩
   rw [hi]
   simp only [updM, if_neg hk]
   exact EM.mk h1 h2 k4
/-- block b is a map that reads so, entry by entry -/
def IM (w : World) (b : Nat) (m : KV) : Prop :=
 ∃ es clock, w.heap[b]? = some (.map es clock) ∧ EM es.toList m ∧ (es.toList.map (·.born)).Nodup ∧ ∀ e ∈ es.toList, e.born < clock

theorem IM.lt {w : World} {b : Nat} {m : KV} (h : IM w b m) : b < w.heap.size := by
 obtain ⟨es, clock, hb, _⟩ := h
 exact (Array.getElem?_eq_some_iff.1 hb).1
theorem IM.new (w : World) : IM (w.alloc (.map #[] 0)) w.heap.size [] := ⟨#[], 0, heap_alloc_new w _, rfl, by simp, by simp⟩
theorem IM.newAt {w : World} {N : Nat} (h : w.heap.size = N) : IM (w.alloc (.map #[] 0)) N [] := by subst h; exact IM.new w
theorem IM.grown {w w' : World} {b : Nat} {m : KV} {r : Option Nat} (h : IM w b m) (hg : w.grownBy w' r) (hr : r ≠ some b) : IM w' b m := by
 have hlt := h.lt
 obtain ⟨es, clock, hb, r1⟩ := h
 exact ⟨es, clock, (hg.block b hlt (fun e => hr e.symm)).trans hb, r1⟩
theorem IM.below {w w' : World} {B b : Nat} {m : KV} (h : IM w b m) (hb : Below B w w') (hB : b < B) : IM w' b m := by
 obtain ⟨es, clock, h1, r1⟩ := h
 exact ⟨es, clock, (hb.block b hB).trans h1, r1⟩
theorem IM.alloc {w : World} {b : Nat} {m : KV} (h : IM w b m) (o : Obj) : IM (w.alloc o) b m := h.grown (World.grownBy_alloc w o none) (by simp)
theorem IM.drew {w : World} {b : Nat} {m : KV} (h : IM w b m) : IM w.drew b m := h
theorem IM.drewN {w : World} {b : Nat} {m : KV} (h : IM w b m) (n : Nat) : IM (w.drewN n) b m := h
theorem IM.setCell {w : World} {b : Nat} {m : KV} (h : IM w b m) {p : Addr} (v : Value) (hp : b ≠ p.block) : IM (w.setCell p v) b m := by
 obtain ⟨es, clock, h1, r1⟩ := h
 exact ⟨es, clock, (heap_setCell_other w p b v hp).trans h1, r1⟩

/-- how many entries a map's block has -/
def mapSize (w : World) (b : Nat) : Nat := match w.heap[b]? with
 | some (.map es _) => es.size
 | _ => 0
theorem IM.size {w : World} {b : Nat} {m : KV} (h : IM w b m) : mapSize w b = m.length := by
 obtain ⟨es, clock, hb, he, _⟩ := h
 unfold mapSize
 rw [hb]
 simpa using he.len
/-- what a store into a map's block leaves -/
theorem grown_put {w : World} {b : Nat} (o : Obj) (_ : b < w.heap.size) : w.grownBy { w with heap := w.heap.setIfInBounds b o } (some b) :=
 ⟨rfl, rfl, rfl, by simp, fun k hk hne => by
  simp only [Array.getElem?_setIfInBounds]
  rw [if_neg (fun e => hne (by rw [e]))]⟩

theorem IM.put {w : World} {b : Nat} (hb : b < w.heap.size) (es : Array MapEntry) (clock : Nat) {m : KV} (h1 : EM es.toList m) (h2 : (es.toList.map (·.born)).Nodup) (h3 : ∀ e ∈ es.toList, e.born < clock) : IM { w with heap := w.heap.setIfInBounds b (.map es clock) } b m :=
 ⟨es, clock, by simp [hb], h1, h2, h3⟩

theorem stays {P : Program} (w : World) (k : Int) : (Instr.keyThatStays (.int .i64 k) (.int .i64 k)).run P w = .ok (.int .i64 k) w := by
 simp [Instr.keyThatStays, Instr.sameBits]

theorem IM.lookup {P : Program} {w : World} {b : Nat} {m : KV} (h : IM w b m) {t kt et : TypeId} {z : Value} (ht : P.underlying t = some (.map kt et)) (hk : P.underlying kt = some (.int .i64)) (hz : (zeroValue et).run P w = .ok z w) (k : Int) :
  (Instr.lookup t (.map (some b)) (.int .i64 k) false).run P w = .ok ((getM m k).getD z) w ∧
  (Instr.lookup t (.map (some b)) (.int .i64 k) true).run P w = .ok (.tuple #[(getM m k).getD z, .bool (getM m k).isSome]) w := by
 obtain ⟨es, clock, hb, he, _, _⟩ := h
 have h1 := get_map (P := P) hb
 have h2 := fun c => checkKey_int (P := P) w c 9999 kt .i64 k hk
 have h3 := find_key (P := P) (w := w) hk (em_find k es.toList m 0 he)
 have h4 := find_get k m 0
 unfold Instr.lookup
 simp only [Sem.run_bind, run_underlying ht, Result.andThen_ok, h1, Sem.run_pure, h2, h3]
 cases hf : findPair k m 0 with
 | none => rw [hf] at h4; rw [← h4]; simp [hz]
 | some p => rw [hf] at h4; rw [← h4]; simp [Sem.run_pure]

theorem IM.update {P : Program} {w : World} {b : Nat} {m : KV} (h : IM w b m) {t kt et : TypeId} (ht : P.underlying t = some (.map kt et)) (hk : P.underlying kt = some (.int .i64)) (k : Int) (v : Value) :
  ∃ w', (Instr.mapUpdate t (.map (some b)) (.int .i64 k) v).run P w = .ok () w' ∧ IM w' b (updM m k v) ∧ w.grownBy w' (some b) ∧ w'.heap.size = w.heap.size := by
 have hlt := h.lt
 obtain ⟨es, clock, hb, he, hn, hc⟩ := h
 have h1 := get_map (P := P) hb
 have h2 := fun c => checkKey_int (P := P) w c 9999 kt .i64 k hk
 have h3 := find_key (P := P) (w := w) hk (em_find k es.toList m 0 he)
 unfold Instr.mapUpdate
 simp only [Sem.run_bind, run_underlying ht, Result.andThen_ok, h1, h2, h3]
 cases hf : findPair k m 0 with
 | none =>
  have h4 := set_map (P := P) (.map (es.push { key := .int .i64 k, val := v, born := clock }) (clock + 1)) hb
  refine ⟨_, h4, IM.put hlt _ _ ?_ ?_ ?_, grown_put _ hlt, by simp⟩
  ·rw [find_none hf v]
   simp only [EM, Array.toList_push, List.map_append, List.map_cons, List.map_nil] at he ⊢
   rw [he]
  ·simp only [Array.toList_push, List.map_append, List.map_cons, List.map_nil]
   rw [List.nodup_append]
   refine ⟨hn, by simp, fun a ha c hc' => ?_⟩
   obtain ⟨e, he', rfl⟩ := List.mem_map.1 ha
   simp at hc'
   have := hc e he'
   omega
  ·intro e he'
   simp only [Array.toList_push, List.mem_append, List.mem_singleton] at he'
   rcases he' with h | h
   ·have := hc e h; omega
   ·subst h; simp
 | some p =>
  obtain ⟨i, x⟩ := p
  obtain ⟨k1, ⟨e0, k2, k3⟩, k4⟩ := em_upd (v := v) he hf
  simp only [Nat.sub_zero] at k2 k4
  have hkey : ((es[i]?).map (·.key)).getD (.int .i64 k) = .int .i64 k := by
   have : es[i]? = some e0 := by simpa using k2
   rw [this]
   simpa using k3
  have h4 := set_map (P := P) (.map (es.modify i fun e => { e with key := .int .i64 k, val := v }) clock) hb
  have hrun : (Instr.keyThatStays (((es[i]?).map (·.key)).getD (.int .i64 k)) (.int .i64 k) >>= fun key => setObj b (.map (es.modify i fun e => { e with key, val := v }) clock)).run P w = .ok () { w with heap := w.heap.setIfInBounds b (.map (es.modify i fun e => { e with key := .int .i64 k, val := v }) clock) } := by
   rw [hkey, Sem.run_bind, stays, Result.andThen_ok, h4]
  refine ⟨_, hrun, IM.put hlt _ _ ?_ ?_ ?_, grown_put _ hlt, by simp⟩
  ·simpa [Array.toList_modify] using k4
  ·have e : ((es.modify i fun e => { e with key := .int .i64 k, val := v }).toList.map (·.born)) = es.toList.map (·.born) := by
    rw [Array.toList_modify]
    apply List.ext_getElem?
    intro j
    simp only [List.getElem?_map, List.getElem?_modify]
    by_cases hj : i = j
    ·subst hj
     cases es.toList[i]? <;> simp
    ·simp [hj]
   rw [e]
   exact hn
  ·intro e he'
   rw [Array.toList_modify] at he'
   obtain ⟨j, hj⟩ := List.mem_iff_getElem?.1 he'
   rw [List.getElem?_modify] at hj
   cases hj' : es.toList[j]? with
   | none => rw [hj'] at hj; simp at hj
   | some e1 =>
    rw [hj'] at hj
    have := hc e1 (List.mem_of_getElem? hj')
    by_cases hij : i = j
    ·simp [hij] at hj; rw [← hj]; exact this
    ·simp [hij] at hj; rw [← hj]; exact this

section
variable {P : Program} {ops : Array Oper} {rest : List Oper} {o : Oper} {a : Act} {Q : Exit → Act → World → Prop}
theorem wp_upd (w : World) (hg : o.guard = none) (m x v : Operand) (t : TypeId) (hop : o.op = Op.mapUpdate t m x v) (kt et : TypeId) (ht : P.underlying t = some (.map kt et)) (hk : P.underlying kt = some (.int .i64))
  (b : Nat) (M : KV) (k : Int) (val : Value) (hm : a.eval m = .map (some b)) (hx : a.eval x = .int .i64 k) (hv : a.eval v = val) (hown : IM w b M)
  (hK : ∀ w', IM w' b (updM M k val) → w.grownBy w' (some b) → w'.heap.size = w.heap.size → wpList P ops Q rest (a.put o.dst undef) w') : wpList P ops Q (o :: rest) a w := by
 refine wpList_plain hg fun K' hK' => ?_
 obtain ⟨w', hrun, r1, r2, r3⟩ := hown.update (P := P) ht hk k val
 unfold Oper.wp
 simp [execOp, hop, hm, hx, hv, hrun, Result.andThen]
 exact hK' _ _ (hK w' r1 r2 r3)
end
end Go.Bk
namespace Go.Bk
open Go Go.RowKit Go.ChangeMaps

/-- block r is a range's state over the map in block b, that reads as m; L are the entries that are to come -/
def IT (w : World) (b r : Nat) (m L : KV) : Prop :=
 ∃ es clock seen, w.heap[b]? = some (.map es clock) ∧ EM es.toList m ∧ (es.toList.map (·.born)).Nodup ∧ (∀ e ∈ es.toList, e.born < clock) ∧ w.heap[r]? = some (.mapIter (some b) clock seen clock) ∧ EM (leftOf es seen).toList L

theorem IT.im {w : World} {b r : Nat} {m L : KV} (h : IT w b r m L) : IM w b m := by
 obtain ⟨es, clock, seen, h1, h2, h3, h4, _⟩ := h
 exact ⟨es, clock, h1, h2, h3, h4⟩
theorem IT.lt {w : World} {b r : Nat} {m L : KV} (h : IT w b r m L) : r < w.heap.size := by
 obtain ⟨es, clock, seen, h1, h2, h3, h4, h5, _⟩ := h
 exact (Array.getElem?_eq_some_iff.1 h5).1
theorem IT.ne {w : World} {b r : Nat} {m L : KV} (h : IT w b r m L) : r ≠ b := by
 obtain ⟨es, clock, seen, h1, h2, h3, h4, h5, _⟩ := h
 intro e
 subst e
 rw [h1] at h5
 cases h5
theorem IT.grown {w w' : World} {b r : Nat} {m L : KV} {row : Option Nat} (h : IT w b r m L) (hg : w.grownBy w' row) (hb : row ≠ some b) (hr : row ≠ some r) : IT w' b r m L := by
 have l1 := h.im.lt
 have l2 := h.lt
 obtain ⟨es, clock, seen, h1, h2, h3, h4, h5, h6⟩ := h
 exact ⟨es, clock, seen, (hg.block b l1 (fun e => hb e.symm)).trans h1, h2, h3, h4, (hg.block r l2 (fun e => hr e.symm)).trans h5, h6⟩
theorem IT.alloc {w : World} {b r : Nat} {m L : KV} (h : IT w b r m L) (o : Obj) : IT (w.alloc o) b r m L := h.grown (World.grownBy_alloc w o none) (by simp) (by simp)
theorem IT.drew {w : World} {b r : Nat} {m L : KV} (h : IT w b r m L) : IT w.drew b r m L := h
theorem IT.drewN {w : World} {b r : Nat} {m L : KV} (h : IT w b r m L) (n : Nat) : IT (w.drewN n) b r m L := h
theorem IT.setCell {w : World} {b r : Nat} {m L : KV} (h : IT w b r m L) {p : Addr} (v : Value) (hp : b ≠ p.block) (hr : r ≠ p.block) : IT (w.setCell p v) b r m L := by
 obtain ⟨es, clock, seen, h1, h2, h3, h4, h5, h6⟩ := h
 exact ⟨es, clock, seen, (heap_setCell_other w p b v hp).trans h1, h2, h3, h4, (heap_setCell_other w p r v hr).trans h5, h6⟩

theorem IT.left {w : World} {b r : Nat} {m L : KV} (h : IT w b r m L) : w.rangeLeft b r = L.length := by
 obtain ⟨es, clock, seen, h1, h2, h3, h4, h5, h6⟩ := h
 unfold World.rangeLeft
 rw [h1, h5]
 simpa using h6.len
theorem em_split : ∀ {l1 : List MapEntry} {e : MapEntry} {l2 : List MapEntry} {L : KV}, EM (l1 ++ e :: l2) L → ∃ L1 k v L2, L = L1 ++ (k, v) :: L2 ∧ e.key = .int .i64 k ∧ e.val = v ∧ EM (l1 ++ l2) (L1 ++ L2)
 | [], e, l2, L, h => by
  obtain ⟨k, v, r, rfl, h1, h2, h3⟩ := h.cons
  exact ⟨[], k, v, r, rfl, h1, h2, h3⟩
 | a :: l1, e, l2, L, h => by
  obtain ⟨k, v, r, rfl, h1, h2, h3⟩ := EM.cons h
  obtain ⟨L1, k', v', L2, rfl, k1, k2, k3⟩ := em_split h3
  exact ⟨(k, v) :: L1, k', v', L2, rfl, k1, k2, EM.mk h1 h2 k3⟩

theorem filter_born {l1 : List MapEntry} {e : MapEntry} {l2 : List MapEntry} (h : ((l1 ++ e :: l2).map (·.born)).Nodup) : (l1 ++ e :: l2).filter (fun x => !(x.born == e.born)) = l1 ++ l2 := by
 rw [List.map_append, List.map_cons, List.nodup_append] at h
 obtain ⟨h1, h2, h3⟩ := h
 rw [List.nodup_cons] at h2
 rw [List.filter_append, List.filter_cons]
 have f1 : l1.filter (fun x => !(x.born == e.born)) = l1 := by
  rw [List.filter_eq_self]
  intro x hx
  have := h3 x.born (List.mem_map.2 ⟨x, hx, rfl⟩) e.born (by simp)
  simpa using this
 have f2 : l2.filter (fun x => !(x.born == e.born)) = l2 := by
  rw [List.filter_eq_self]
  intro x hx
  have : x.born ≠ e.born := fun hh => h2.1 (hh ▸ List.mem_map.2 ⟨x, hx, rfl⟩)
  simpa using this
 simp [f1, f2]

theorem leftOf_push (es : Array MapEntry) (seen : Array Nat) (n : Nat) : (leftOf es (seen.push n)).toList = (leftOf es seen).toList.filter (fun x => !(x.born == n)) := by
 unfold leftOf
 rw [Array.toList_filter, Array.toList_filter, List.filter_filter]
 refine List.filter_congr fun x _ => ?_
 rw [Array.contains_push]
 simp only [Bool.not_or, Bool.and_comm]
theorem leftOf_none (es : Array MapEntry) : (leftOf es #[]).toList = es.toList := by
 unfold leftOf
 rw [Array.toList_filter, List.filter_eq_self]
 intro x _
 simp

section
variable {P : Program} {ops : Array Oper} {rest : List Oper} {o : Oper} {a : Act} {Q : Exit → Act → World → Prop}
theorem wp_range (w : World) (hg : o.guard = none) (m : Operand) (t : TypeId) (hop : o.op = Op.range t m) (kt et : TypeId) (ht : P.underlying t = some (.map kt et)) (b : Nat) (M : KV) (hm : a.eval m = .map (some b)) (hown : IM w b M)
  (hK : ∀ w', IT w' b w.heap.size M M → w.grownBy w' none → w'.heap.size = w.heap.size + 1 → wpList P ops Q rest (a.put o.dst (.pointer (some ⟨w.heap.size, 0, none⟩))) w') : wpList P ops Q (o :: rest) a w := by
 refine wpList_plain hg fun K' hK' => ?_
 obtain ⟨es, clock, hb, h1, h2, h3⟩ := hown
 have hrun : (Instr.range t (.map (some b))).run P w = .ok (.pointer (some ⟨w.heap.size, 0, none⟩)) (w.alloc (.mapIter (some b) clock #[] clock)) := by
  simp [Instr.range, run_underlying ht, get_map hb]
 unfold Oper.wp
 simp [execOp, hop, hm, hrun, Result.andThen]
 have hlt : b < w.heap.size := (Array.getElem?_eq_some_iff.1 hb).1
 exact hK' _ _ (hK _ ⟨es, clock, #[], (((World.grownBy_alloc w _ none).block b hlt (by simp)).trans hb), h1, h2, h3, _root_.Go.heap_alloc_new w _, by rw [leftOf_none]; exact h1⟩ (World.grownBy_alloc w _ none) (by simp))

theorem wp_next (w : World) (hg : o.guard = none) (it : Operand) (hop : o.op = Op.next it false) (b r : Nat) (M L : KV) (hit : a.eval it = .pointer (some ⟨r, 0, none⟩)) (h : IT w b r M L)
  (hDone : L = [] → wpList P ops Q rest (a.put o.dst (.tuple #[.bool false])) w)
  (hMore : ∀ L1 k v L2 w', L = L1 ++ (k, v) :: L2 → IT w' b r M (L1 ++ L2) → w.grownBy w' (some r) → w'.heap.size = w.heap.size → (Instr.entry (.pointer (some ⟨r, 0, none⟩))).run P w' = .ok (.tuple #[.int .i64 k, v]) w' →
   wpList P ops Q rest (a.put o.dst (.tuple #[.bool true, .int .i64 k, v])) w') : wpList P ops Q (o :: rest) a w := by
 refine wpList_plain hg fun K' hK' => ?_
 have hne := h.ne
 have hlr := h.lt
 obtain ⟨es, clock, seen, h1, h2, h3, h4, h5, h6⟩ := h
 unfold Oper.wp
 rcases run_next_at (P := P) w o.type r b clock clock seen es clock h5 h1 h4 (Nat.le_refl _) with ⟨h0, hrun⟩ | ⟨e, he, w1, hw1, hrun⟩
 ·simp [execOp, hop, hit, hrun, Result.andThen]
  refine hK' _ _ (hDone ?_)
  have := h6.len
  simp only [Array.length_toList, h0] at this
  exact List.eq_nil_of_length_eq_zero this.symm
 ·simp [execOp, hop, hit, hrun, Result.andThen]
  obtain ⟨l1, l2, hl⟩ := List.append_of_mem he
  have h6' := h6
  rw [hl] at h6'
  obtain ⟨L1, k, v, L2, rfl, k1, k2, k3⟩ := em_split h6'
  have hes : e ∈ es.toList := by
   have : e ∈ (leftOf es seen).toList := he
   unfold leftOf at this
   rw [Array.toList_filter] at this
   exact (List.mem_filter.1 this).1
  have hsub : ((leftOf es seen).toList.map (·.born)).Nodup := by
   unfold leftOf
   rw [Array.toList_filter]
   exact List.Nodup.sublist ((List.filter_sublist (l := es.toList)).map _) h3
  rw [hl] at hsub
  have hw1h : w1.heap = w.heap := by rcases hw1 with rfl | rfl <;> rfl
  have hB : (setBlock w1 r (.mapIter (some b) clock (seen.push e.born) clock)).heap[b]? = some (.map es clock) := by
   simp only [setBlock, Array.getElem?_setIfInBounds, hw1h]
   rw [if_neg hne]
   exact h1
  have hR : (setBlock w1 r (.mapIter (some b) clock (seen.push e.born) clock)).heap[r]? = some (.mapIter (some b) clock (seen.push e.born) clock) := by
   simp [setBlock, hw1h, hlr]
  have hen := run_entry_at (P := P) _ r b clock seen es clock e hR hB hes h3
  rw [k1, k2] at hen
  rw [k1, k2]
  refine hK' _ _ (hMore L1 k v L2 _ rfl ⟨es, clock, seen.push e.born, hB, h2, h3, h4, hR, ?_⟩ ?_ ?_ hen)
  ·rw [leftOf_push, hl, filter_born hsub]
   exact k3
  ·refine ⟨?_, ?_, ?_, by simp [setBlock, hw1h], fun j hj hne' => ?_⟩
   ·rcases hw1 with rfl | rfl <;> rfl
   ·rcases hw1 with rfl | rfl <;> rfl
   ·rcases hw1 with rfl | rfl <;> rfl
   ·simp only [setBlock, Array.getElem?_setIfInBounds, hw1h]
    rw [if_neg (fun e => hne' (by rw [e]))]
  ·simp [setBlock, hw1h]
end
end Go.Bk
namespace Go.Bk
open Go Go.RowKit

theorem own_other {w : World} {p g k : Nat} {e : TypeId} {size n : Nat} {v u : Value} {xs : List Value} (h : w.ownsRow p e size v n xs) (hg : v.ownBlock ≠ some g) : (w.setCell ⟨g, k, none⟩ u).ownsRow p e size v n xs := by
 refine ⟨h.1, ?_⟩
 rcases h.2 with h2 | ⟨g', cap, cur, rfl, h2, hh, r⟩
 ·exact .inl h2
 ·refine .inr ⟨g', cap, cur, rfl, h2, ?_, r⟩
  have hne : g' ≠ g := fun e => hg (by simp [Value.ownBlock, e])
  rw [heap_setCell_other w ⟨g, k, none⟩ g' u hne]
  exact hh

theorem blk_other {w : World} {g G k : Nat} {e : TypeId} {cs : Array Value} {u : Value} (h : Blk w G e cs) (hg : G ≠ g) : Blk (w.setCell ⟨g, k, none⟩ u) G e cs := by
 unfold Blk
 rw [heap_setCell_other w ⟨g, k, none⟩ G u hg]
 exact h

/-- the values vs lie in block G; each is a row of the call's own, no two of them in one block, and what they hold is C -/
def OwnedRows (C : Value → Prop) (w : World) (p : Nat) (e t : TypeId) (G : Nat) (vs : List Value) : Prop :=
 Blk w G t vs.toArray ∧ ∀ (i : Nat) (v : Value), vs[i]? = some v → (∃ A n c xs, v = .slice A n c ∧ w.ownsRow p e 1 v n xs ∧ ∀ x ∈ xs, C x) ∧ v.ownBlock ≠ some G ∧ ∀ (j : Nat) (u : Value), vs[j]? = some u → j ≠ i → ∀ g, v.ownBlock = some g → u.ownBlock ≠ some g

theorem OwnedRows.cell {C : Value → Prop} {w : World} {p : Nat} {e t : TypeId} {G : Nat} {vs : List Value} (h : OwnedRows C w p e t G vs) {i : Nat} {v : Value} (hi : vs[i]? = some v) : w.cell? ⟨G, i, none⟩ = some v := by
 rw [h.1.cell i]
 simpa using hi

theorem OwnedRows.set {C : Value → Prop} {w : World} {p : Nat} {e t : TypeId} {G : Nat} {vs : List Value} (h : OwnedRows C w p e t G vs) {k g n c : Nat} (hk : vs[k]? = some (.slice (some ⟨g, 0, none⟩) n c)) (j : Nat) {x : Value} (hx : C x) :
  OwnedRows C (w.setCell ⟨g, j, none⟩ x) p e t G vs := by
 obtain ⟨hB, hA⟩ := h
 refine ⟨blk_other hB (fun e => (hA k _ hk).2.1 (by simp [Value.ownBlock, e])), fun i v hi => ?_⟩
 obtain ⟨⟨A, n', c', xs, rfl, ho, hC⟩, hG, hd⟩ := hA i v hi
 refine ⟨?_, hG, hd⟩
 by_cases hik : i = k
 ·subst hik
  rw [hk] at hi
  injection hi with hi
  injection hi with e1 e2 e3
  subst e1
  subst e2
  subst e3
  exact ⟨_, _, _, _, rfl, (ho.stored j x).1, fun y hy => by
   rcases List.mem_or_eq_of_mem_set hy with h1 | h1
   ·exact hC y h1
   ·rw [h1]; exact hx⟩
 ·exact ⟨_, _, _, _, rfl, own_other ho (fun e => hd k _ hk (fun e => hik e.symm) g e rfl), hC⟩
end Go.Bk
namespace Go.Bk
open Go Go.RowKit Go.Sort

def i64s (l : List Int) : List Value := l.map (Value.int .i64)
theorem i64s_len (l : List Int) : (i64s l).length = l.length := by simp [i64s]
theorem i64s_app (a b : List Int) : i64s (a ++ b) = i64s a ++ i64s b := by simp [i64s]
theorem i64s_at {l : List Int} {k : Nat} (h : k < l.length) : (i64s l)[k]'(by simpa [i64s] using h) = .int .i64 l[k] := by simp [i64s]
theorem i64s_take (l : List Int) (n : Nat) : (i64s l).take n = i64s (l.take n) := by simp [i64s, List.map_take]
theorem i64s_one (l : List Int) : ∀ u ∈ i64s l, u.oneCell' = true := by
 intro u hu
 obtain ⟨_, _, rfl⟩ := List.mem_map.1 hu
 rfl

theorem Src.setCell {w : World} {A : Option Addr} {n : Nat} {xs : List Value} (h : Src w A n xs) {p : Addr} (v : Value) (hp : ∀ a, A = some a → a.block ≠ p.block) : Src (w.setCell p v) A n xs := by
 refine ⟨h.1, fun hn => ?_⟩
 obtain ⟨b, o, e, hlt, hc⟩ := h.2 hn
 refine ⟨b, o, e, by simpa using hlt, fun j u hu => ?_⟩
 rw [← hc j u hu]
 have := heap_setCell_other w p b v (hp _ e)
 unfold World.cell?
 rw [this]
theorem own_holds {w : World} {base g c : Nat} {e : TypeId} {zs : List Int} (h : w.ownsRow base e 1 (.slice (some ⟨g, 0, none⟩) zs.length c) zs.length (i64s zs)) : Holds (Value.int .i64) w g 0 zs.toArray := by
 intro j hj
 have hj' : j < zs.length := by simpa using hj
 refine ⟨?_, ?_⟩
 ·have := (Src.of_own h).at_ hj'
  rw [i64s_at hj'] at this
  rw [this, getElem!_pos _ j hj]
  simp
 ·rcases h.2 with ⟨h1, _⟩ | ⟨g', cap, cur, h1, _, hg, _⟩
  ·cases h1
  ·injection h1 with h1 h2 h3
   injection h1 with h1
   injection h1 with h1
   subst h1
   exact frozen_of_row w g (0 + j) _ _ hg

/-- what a sort leaves of a row of the call's own -/
theorem own_put {w : World} {base g c : Nat} {e : TypeId} {zs ys : List Int} (hl : ys.length = zs.length) (h : w.ownsRow base e 1 (.slice (some ⟨g, 0, none⟩) zs.length c) zs.length (i64s zs)) (n : Nat) (os : Array Obj) :
  (grow (putRow (Value.int .i64) (Sort.ahead w n) g 0 ys.toArray) os).ownsRow base e 1 (.slice (some ⟨g, 0, none⟩) ys.length c) ys.length (i64s ys) ∧ w.grownBy (grow (putRow (Value.int .i64) (Sort.ahead w n) g 0 ys.toArray) os) (some g) := by
 rcases h.2 with ⟨h1, _⟩ | ⟨g', cap, cur, h1, hb, hg, hn, hm, hcs, htk⟩
 ·cases h1
 injection h1 with h1 h2 h3
 injection h1 with h1
 injection h1 with h1
 subst h1
 subst h3
 have hgl : g < w.heap.size := (Array.getElem?_eq_some_iff.1 hg).1
 constructor
 ·refine ⟨by simp [i64s], .inr ⟨g, c, putCells (Value.int .i64) 0 ys.toArray cur, rfl, hb, ?_, by omega, hm, by simp [putCells]; omega, ?_⟩⟩
  ·rw [heap_grow_old _ _ (by simpa using hgl)]
   simp only [putRow, mapBlock, heap_ahead, Array.getElem?_modify, if_true, hg, Option.map_some, onCells]
  ·apply List.ext_getElem?
   intro j
   rw [List.getElem?_take]
   by_cases hj : j < ys.length * 1
   ·rw [if_pos hj]
    have hj' : j < ys.length := by omega
    have hjc : j < cur.size := by omega
    simp only [putCells, Array.getElem?_toList, Array.getElem?_mapIdx]
    rw [Array.getElem?_eq_getElem hjc]
    simp only [Option.map_some]
    rw [if_pos ⟨by omega, by simpa using hj'⟩]
    have e1 : (ys.toArray[j - 0]!) = ys[j] := by rw [getElem!_pos _ (j - 0) (by simpa using hj')]; simp
    rw [e1]
    simp [i64s, List.getElem?_map, List.getElem?_eq_getElem hj']
   ·rw [if_neg hj]
    symm
    rw [List.getElem?_eq_none]
    simp [i64s]
    omega
 ·refine ⟨rfl, rfl, rfl, by simp, fun k hk hne => ?_⟩
  rw [heap_grow_old _ _ (by simpa using hk)]
  simp only [putRow, mapBlock, heap_ahead, Array.getElem?_modify]
  rw [if_neg (fun e => hne (by rw [e]))]

def sortI (zs : List Int) : List Int := zs.mergeSort fun x y => decide (x ≤ y)
theorem sortI_mem (zs : List Int) (x : Int) : x ∈ sortI zs ↔ x ∈ zs := List.mem_mergeSort
theorem sortI_len (zs : List Int) : (sortI zs).length = zs.length := List.length_mergeSort zs
theorem sortI_rising (zs : List Int) : (sortI zs).Pairwise (· ≤ ·) := by
 have := List.pairwise_mergeSort (le := fun x y : Int => decide (x ≤ y)) (fun a b c h1 h2 => by simp at *; omega) (fun a b => by simp; omega) zs
 simpa [sortI] using this
theorem own_take {w : World} {base : Nat} {e : TypeId} {size n c k : Nat} {A : Option Addr} {xs : List Value} (h : w.ownsRow base e size (.slice A n c) n xs) (hk : k ≤ n) (hA : A ≠ none) : w.ownsRow base e size (.slice A k c) k (xs.take (k * size)) := by
 rcases h.2 with ⟨h1, _⟩ | ⟨g, cap, cur, h1, hb, hg, hn, hm, hcs, htk⟩
 ·injection h1 with h1
  exact absurd h1 hA
 ·injection h1 with h1 h2 h3
  subst h1
  subst h3
  refine ⟨?_, .inr ⟨g, c, cur, rfl, hb, hg, by omega, hm, hcs, ?_⟩⟩
  ·rw [List.length_take, h.1]
   exact Nat.min_eq_left (Nat.mul_le_mul_right _ hk)
  ·rw [← htk, List.take_take, Nat.min_eq_left (Nat.mul_le_mul_right _ hk)]
end Go.Bk
namespace Go.Bk
open Go Go.RowKit

/-- a slice value that reads as numbers -/
def Ints (w : World) (v : Value) (l : List Int) : Prop := ∃ A c, v = .slice A l.length c ∧ Src w A l.length (i64s l) ∧ l.length ≤ c ∧ (A = none → c = 0) ∧ (l.length * 8 ≤ 140737488351232 ∧ c ≤ 9223372036854775807)
def boolsV (l : List Bool) : List Value := l.map Value.bool
theorem boolsV_at {l : List Bool} {k : Nat} (h : k < l.length) : (boolsV l)[k]'(by simpa [boolsV] using h) = .bool l[k] := by simp [boolsV]
def Bools (w : World) (v : Value) (l : List Bool) : Prop := ∃ A c, v = .slice A l.length c ∧ Src w A l.length (boolsV l) ∧ l.length ≤ c ∧ (A = none → c = 0) ∧ (l.length ≤ 140737488351232 ∧ c ≤ 9223372036854775807)
/-- a slice value that reads as structures of k cells -/
def Structs {α : Type} (k : Nat) (R : World → List Value → α → Prop) (w : World) (v : Value) (l : List α) : Prop :=
 ∃ (A : Option Addr) (c : Nat) (vs : List (List Value)), v = .slice A l.length c ∧ l.length ≤ c ∧ (A = none → c = 0) ∧ (l.length ≤ 140737488351232 ∧ c ≤ 9223372036854775807) ∧ vs.length = l.length ∧ (∀ r ∈ vs, r.length = k) ∧ (∀ (i : Nat) (r : List Value) (x : α), vs[i]? = some r → l[i]? = some x → R w r x) ∧ Src w A (l.length * k) vs.flatten

theorem flatten_at {k : Nat} : ∀ {vs : List (List Value)} {i j : Nat} {r : List Value} {u : Value}, (∀ r ∈ vs, r.length = k) → vs[i]? = some r → r[j]? = some u → vs.flatten[i * k + j]? = some u
 | [], i, j, r, u, _, h, _ => by simp at h
 | s :: vs, 0, j, r, u, hk, h, hu => by
  simp at h
  subst h
  simp only [List.flatten_cons, Nat.zero_mul, Nat.zero_add]
  rw [List.getElem?_append_left (List.getElem?_eq_some_iff.1 hu).1]
  exact hu
 | s :: vs, i + 1, j, r, u, hk, h, hu => by
  simp at h
  have hs : s.length = k := hk s (by simp)
  have ih := flatten_at (vs := vs) (fun r hr => hk r (by simp [hr])) h hu
  rw [List.flatten_cons, List.getElem?_append_right (by rw [hs, Nat.add_mul]; omega), hs]
  rw [show (i + 1) * k + j - k = i * k + j by rw [Nat.add_mul]; omega]
  exact ih

theorem Ints.below {w w' : World} {B : Nat} {v : Value} {l : List Int} (h : Ints w v l) (hb : Below B w w') (hB : w.heap.size ≤ B) : Ints w' v l := by
 obtain ⟨A, c, e, hs, r⟩ := h
 exact ⟨A, c, e, hs.below hb hB, r⟩
theorem Bools.below {w w' : World} {B : Nat} {v : Value} {l : List Bool} (h : Bools w v l) (hb : Below B w w') (hB : w.heap.size ≤ B) : Bools w' v l := by
 obtain ⟨A, c, e, hs, r⟩ := h
 exact ⟨A, c, e, hs.below hb hB, r⟩
theorem Structs.below {α : Type} {k : Nat} {R : World → List Value → α → Prop} {w w' : World} {B : Nat} {v : Value} {l : List α} (h : Structs k R w v l) (hb : Below B w w') (hB : w.heap.size ≤ B)
  (hR : ∀ r x, R w r x → R w' r x) : Structs k R w' v l := by
 obtain ⟨A, c, vs, e, h1, h2, h3, h4, h5, h6, hs⟩ := h
 exact ⟨A, c, vs, e, h1, h2, h3, h4, h5, fun i r x q1 q2 => hR r x (h6 i r x q1 q2), hs.below hb hB⟩

/-- the cells of one structure of a row -/
theorem Structs.at {α : Type} {k : Nat} {R : World → List Value → α → Prop} {w : World} {v : Value} {l : List α} (h : Structs k R w v l) (hk : 0 < k) {i : Nat} {x : α} (hx : l[i]? = some x) :
  ∃ b o c r, v = .slice (some ⟨b, o, none⟩) l.length c ∧ b < w.heap.size ∧ r.length = k ∧ R w r x ∧ ∀ j u, r[j]? = some u → w.cell? ⟨b, o + (i * k + j), none⟩ = some u := by
 obtain ⟨A, c, vs, e, h1, h2, h3, h4, h5, h6, hs⟩ := h
 have hi : i < l.length := (List.getElem?_eq_some_iff.1 hx).1
 obtain ⟨b, o, rfl, hb, hc⟩ := hs.2 (Nat.mul_pos (by omega) hk)
 have hr : vs[i]? = some (vs[i]'(by omega)) := List.getElem?_eq_getElem (by omega)
 exact ⟨b, o, c, _, e, hb, h5 _ (List.getElem_mem _), h6 i _ x hr hx, fun j u hu => hc _ u (flatten_at h5 hr hu)⟩
theorem Structs.len {α : Type} {k : Nat} {R : World → List Value → α → Prop} {w : World} {v : Value} {l : List α} (h : Structs k R w v l) : ∃ A c, v = .slice A l.length c ∧ l.length ≤ c ∧ l.length ≤ 140737488351232 ∧ c ≤ 9223372036854775807 := by
 obtain ⟨A, c, vs, e, h1, h2, h3, _⟩ := h
 exact ⟨A, c, e, h1, h3⟩
theorem Ints.len {w : World} {v : Value} {l : List Int} (h : Ints w v l) : ∃ A c, v = .slice A l.length c ∧ Src w A l.length (i64s l) ∧ l.length * 8 ≤ 140737488351232 := by
 obtain ⟨A, c, e, hs, h1, h2, h3⟩ := h
 exact ⟨A, c, e, hs, by omega⟩
theorem Ints.nil (w : World) : Ints w (.slice none 0 0) [] := ⟨none, 0, rfl, Src.nil _ _, Nat.le_refl _, fun _ => rfl, by simp⟩

/-- the plain data of the program's types -/
structure SigD where
 inn : List Int
 out : List Int
structure EnvD where
 sigs : List SigD
 imports : Int
 globals : List Int
 muts : List Bool
 mem : Bool
structure CodeD where
 op : Int
 n : Nat
 args : List Int
 outs : List Int
 to : List Int
/-- its numbers are within their kinds -/
def CodeD.ok (c : CodeD) : Prop := c.n < 18446744073709551616 ∧ -9223372036854775808 ≤ c.op ∧ c.op ≤ 9223372036854775807
structure RowD where
 sig : SigD
 places : Int
 params : List Int
 code : List CodeD

def SigC (w : World) (r : List Value) (s : SigD) : Prop := ∃ a b, r = [a, b] ∧ Ints w a s.inn ∧ Ints w b s.out
def CodeC (w : World) (r : List Value) (c : CodeD) : Prop := ∃ a b d, r = [.int .i64 c.op, .int .u64 (c.n : Int), a, b, d] ∧ c.ok ∧ Ints w a c.args ∧ Ints w b c.outs ∧ Ints w d c.to
def EnvC (w : World) (r : List Value) (e : EnvD) : Prop := ∃ a b d, r = [a, .int .i64 e.imports, b, d, .bool e.mem] ∧ Structs 2 SigC w a e.sigs ∧ Ints w b e.globals ∧ Bools w d e.muts
def RowC (w : World) (r : List Value) (x : RowD) : Prop := ∃ a b p d, r = [a, b, .int .i64 x.places, p, d] ∧ Ints w a x.sig.inn ∧ Ints w b x.sig.out ∧ Ints w p x.params ∧ Structs 5 CodeC w d x.code

theorem SigC.below {w w' : World} {B : Nat} {r : List Value} {s : SigD} (h : SigC w r s) (hb : Below B w w') (hB : w.heap.size ≤ B) : SigC w' r s := by
 obtain ⟨a, b, e, h1, h2⟩ := h
 exact ⟨a, b, e, h1.below hb hB, h2.below hb hB⟩
theorem CodeC.below {w w' : World} {B : Nat} {r : List Value} {c : CodeD} (h : CodeC w r c) (hb : Below B w w') (hB : w.heap.size ≤ B) : CodeC w' r c := by
 obtain ⟨a, b, d, e, h0, h1, h2, h3⟩ := h
 exact ⟨a, b, d, e, h0, h1.below hb hB, h2.below hb hB, h3.below hb hB⟩
theorem EnvC.below {w w' : World} {B : Nat} {r : List Value} {e : EnvD} (h : EnvC w r e) (hb : Below B w w') (hB : w.heap.size ≤ B) : EnvC w' r e := by
 obtain ⟨a, b, d, e', h1, h2, h3⟩ := h
 exact ⟨a, b, d, e', h1.below hb hB (fun r x q => q.below hb hB), h2.below hb hB, h3.below hb hB⟩
theorem RowC.below {w w' : World} {B : Nat} {r : List Value} {x : RowD} (h : RowC w r x) (hb : Below B w w') (hB : w.heap.size ≤ B) : RowC w' r x := by
 obtain ⟨a, b, p, d, e', h1, h2, h3, h4⟩ := h
 exact ⟨a, b, p, d, e', h1.below hb hB, h2.below hb hB, h3.below hb hB, h4.below hb hB (fun r x q => q.below hb hB)⟩
end Go.Bk
namespace Go.Bk
open Go Go.RowKit Go.ChangeShapes Go.WideShapes Go.Deep

section
variable {H : Type} {enc : TypeId × Value → H} {P : Program} {w : World}

/-- each slice within it takes few bytes -/
def Small (P : Program) (t : TypeId) (d : DataW H) : Prop := ∀ n ∈ d.weights P t, n ≤ reachBytes
/-- what reads at a type, reads so -/
def Reads (enc : TypeId × Value → H) (P : Program) (w : World) {α : Type} (t : TypeId) (R : World → List Value → α → Prop) : Prop :=
 ∀ fuel cs x, DataW.trod enc P w 0 (fun _ => true) true fuel t cs = some x → Small P t x.1 → ∃ a : α, R w cs a

theorem reads_int {t : TypeId} {k : IntKind} (ht : P.underlying t = some (.int k)) : Reads enc P w t (fun _ cs (a : Int) => cs = [.int k a] ∧ (Lit.int k a).wf = true) := by
 intro fuel cs x h _
 obtain ⟨n, e, _, hw⟩ := DataW.trod_int ht h
 exact ⟨n, e, hw⟩

theorem mem_weightsAll {t : TypeId} : ∀ {l : List (DataW H)} {d : DataW H}, d ∈ l → ∀ n ∈ d.weights P t, n ∈ DataW.weightsAll P t l
 | [], d, h, _, _ => by simp at h
 | e :: l, d, h, n, hn => by
  simp only [DataW.weightsAll, List.mem_append]
  rcases List.mem_cons.1 h with h | h
  ·subst h; exact .inl hn
  ·exact .inr (mem_weightsAll h n hn)

theorem cells_len {w : World} {a : Addr} {k : Nat} {cs : List Value} (h : w.cells? 0 a k = some cs) : cs.length = k ∧ ∀ j, j < k → w.cell? (a.add j) = cs[j]? := by
 obtain ⟨_, h1, h2⟩ := World.cells?_some h
 exact ⟨h1, h2⟩

/-- elements one by one: a list of them, and their cells -/
theorem structs_src {α : Type} {k : Nat} {R : World → List Value → α → Prop} {a : Addr} {m : Nat} (hk : 0 < k) (hc : ∀ i, i < m → ∃ (cs : List Value) (x : α), cs.length = k ∧ (∀ j, j < k → w.cell? (a.add (i * k + j)) = cs[j]?) ∧ R w cs x) :
  ∀ len, len ≤ m → ∃ (l : List α) (vs : List (List Value)), l.length = len ∧ vs.length = len ∧ (∀ r ∈ vs, r.length = k) ∧ (∀ (i : Nat) (r : List Value) (x : α), vs[i]? = some r → l[i]? = some x → R w r x) ∧ Src w (some a) (len * k) vs.flatten
 | 0, _ => ⟨[], [], rfl, rfl, by simp, by simp, by rw [Nat.zero_mul]; exact Src.nil _ _⟩
 | len + 1, h => by
  obtain ⟨l, vs, h1, h2, h3, h4, h5⟩ := structs_src hk hc len (by omega)
  obtain ⟨cs, x, c1, c2, c3⟩ := hc len (by omega)
  obtain ⟨cs0, x0, d1, d2, _⟩ := hc 0 (by omega)
  have c00 := d2 0 hk
  rw [show a.add (0 * k + 0) = a by simp [Addr.add], List.getElem?_eq_getElem (by omega)] at c00
  obtain ⟨hs, hb⟩ := cell_some c00
  obtain ⟨ab, ao, asp⟩ := a
  have hsp : asp = none := hs
  subst hsp
  have hfl : vs.flatten.length = len * k := by have := h5.1; exact this
  refine ⟨l ++ [x], vs ++ [cs], by simp [h1], by simp [h2], fun r hr => ?_, fun i r y q1 q2 => ?_, ?_⟩
  ·rcases List.mem_append.1 hr with hr | hr
   ·exact h3 r hr
   ·simp at hr; rw [hr]; exact c1
  ·by_cases hi : i < len
   ·rw [List.getElem?_append_left (by omega)] at q1 q2
    exact h4 i r y q1 q2
   ·have hi' : i = len := by
     have := (List.getElem?_eq_some_iff.1 q1).1
     simp [h2] at this
     omega
    subst hi'
    rw [List.getElem?_append_right (by omega), h2, Nat.sub_self] at q1
    rw [List.getElem?_append_right (by omega), h1, Nat.sub_self] at q2
    simp at q1 q2
    subst q1
    subst q2
    exact c3
  ·refine ⟨by simp only [List.flatten_append, List.length_append, hfl, List.flatten_cons, List.flatten_nil, List.append_nil, c1]; rw [Nat.add_mul]; omega, fun _ => ⟨ab, ao, rfl, hb, fun j u hu => ?_⟩⟩
   simp only [List.flatten_append, List.flatten_cons, List.flatten_nil, List.append_nil] at hu
   by_cases hj : j < len * k
   ·rw [List.getElem?_append_left (by omega)] at hu
    obtain ⟨b', o', e, _, hcc⟩ := h5.2 (by omega)
    injection e with e
    injection e with e1 e2
    subst e1
    subst e2
    exact hcc j u hu
   ·rw [List.getElem?_append_right (by omega), hfl] at hu
    have hjk : j - len * k < k := by have := (List.getElem?_eq_some_iff.1 hu).1; omega
    have := c2 (j - len * k) hjk
    rw [Addr.add_lit, hu, show ao + (len * k + (j - len * k)) = ao + j by omega] at this
    exact this

theorem reads_structs {α : Type} {t e : TypeId} {k : Nat} {R : World → List Value → α → Prop} (ht : P.underlying t = some (.slice e)) (hce : P.cellsOf e = k) (hk : 0 < k) (hby : 1 ≤ P.bytesOf e) (hR : Reads enc P w e R) :
  Reads enc P w t (fun w cs (l : List α) => ∃ v, cs = [v] ∧ Structs k R w v l ∧ ∀ A n c, v = .slice A n c → c * P.bytesOf e ≤ reachBytes) := by
 intro fuel cs x h hsm
 rcases open_slice ht h with ⟨rfl, _⟩ | ⟨a, len, cap, m, n, D, Pl, rfl, _, hl, hm, hmm, hx, hi⟩
 ·exact ⟨[], _, rfl, ⟨none, 0, [], rfl, Nat.le_refl _, fun _ => rfl, by simp, rfl, by simp, by simp, by rw [List.length_nil, Nat.zero_mul]; exact Src.nil _ _⟩, fun A n c e => by injection e with _ _ e; subst e; simp⟩
 ·have hm' : m = cap := by simpa using hmm
  have hd : x.1 = _ := congrArg Prod.fst hx
  have hw : ∀ d, (d ∈ (List.range len).map D ∨ d ∈ (List.range (m - len)).map fun j => D (len + j)) → Small P e d := fun d hd' q hq => by
   refine hsm q ?_
   rw [hd]
   simp only [DataW.weights, ht, List.mem_cons, List.mem_append]
   rcases hd' with h1 | h1
   ·exact .inr (.inl (mem_weightsAll h1 q hq))
   ·exact .inr (.inr (mem_weightsAll h1 q hq))
  have hcap : cap * P.bytesOf e ≤ reachBytes := by
   refine hsm _ ?_
   rw [hd]
   simp only [DataW.weights, ht, List.mem_cons, List.length_map, List.length_range]
   left
   rw [show len + (m - len) = cap by omega]
  have hcap8 : cap ≤ 140737488351232 := by have := Nat.le_trans (Nat.mul_le_mul_left cap hby) hcap; rw [Nat.mul_one] at this; exact this
  obtain ⟨l, vs, h1, h2, h3, h4, h5⟩ := structs_src (w := w) (R := R) (a := a) (m := m) hk (fun i him => by
   obtain ⟨cs', q1, q2⟩ := hi i him
   rw [hce] at q1
   obtain ⟨y, hy⟩ := hR n cs' _ q2 (hw _ (by
    by_cases hil : i < len
    ·exact .inl (List.mem_map.2 ⟨i, by simpa using hil, rfl⟩)
    ·exact .inr (List.mem_map.2 ⟨i - len, by simp; omega, by show D (len + (i - len)) = D i; rw [show len + (i - len) = i by omega]⟩)))
   obtain ⟨c1, c2⟩ := cells_len q1
   exact ⟨cs', y, c1, fun j hj => by rw [← c2 j hj, Go.Deep.add_add], hy⟩) len (by omega)
  subst h1
  exact ⟨l, _, rfl, ⟨some a, cap, vs, rfl, hl, (fun e => by cases e), ⟨by omega, by omega⟩, h2, h3, h4, h5⟩, fun A n c e => by injection e with _ _ e; subst e; exact hcap⟩

theorem reads_ints {t e : TypeId} (ht : P.underlying t = some (.slice e)) (he : P.underlying e = some (.int .i64)) (hce : P.cellsOf e = 1) (hby : P.bytesOf e = 8) :
  Reads enc P w t (fun w cs (l : List Int) => ∃ v, cs = [v] ∧ Ints w v l) := by
 intro fuel cs x h hsm
 obtain ⟨l, v, rfl, ⟨A, c, vs, rfl, h1, h2, h3, h4, h5, h6, h7⟩, h8⟩ := reads_structs (enc := enc) (w := w) ht hce (by omega) (by omega) (reads_int he) fuel cs x h hsm
 have h9 := h8 _ _ _ rfl
 rw [hby] at h9
 refine ⟨l, _, rfl, A, c, rfl, ?_, h1, h2, by have h10 : c * 8 ≤ 140737488351232 := h9; omega, by have h10 : c * 8 ≤ 140737488351232 := h9; omega⟩
 have e1 : vs.flatten = i64s l := by
  apply List.ext_getElem?
  intro i
  by_cases hi : i < l.length
  ·have hv : vs[i]? = some (vs[i]'(by omega)) := List.getElem?_eq_getElem (by omega)
   have hr := (h6 i _ _ hv (List.getElem?_eq_getElem hi)).1
   have := flatten_at (j := 0) h5 hv (by rw [hr]; rfl)
   rw [Nat.mul_one, Nat.add_zero] at this
   rw [this]
   simp [i64s, List.getElem?_map, List.getElem?_eq_getElem hi]
  ·have hl := h7.1
   rw [List.getElem?_eq_none (by rw [hl]; omega), List.getElem?_eq_none (by simp [i64s]; omega)]
 rw [← e1]
 simpa using h7

theorem reads_bool {t : TypeId} (ht : P.underlying t = some .bool) : Reads enc P w t (fun _ cs (a : Bool) => cs = [.bool a]) := by
 intro fuel cs x h _
 obtain ⟨b, e, _⟩ := DataW.trod_bool ht h
 exact ⟨b, e⟩
theorem reads_bools {t e : TypeId} (ht : P.underlying t = some (.slice e)) (he : P.underlying e = some .bool) (hce : P.cellsOf e = 1) (hby : 1 ≤ P.bytesOf e) :
  Reads enc P w t (fun w cs (l : List Bool) => ∃ v, cs = [v] ∧ Bools w v l) := by
 intro fuel cs x h hsm
 obtain ⟨l, v, rfl, ⟨A, c, vs, rfl, h1, h2, h3, h4, h5, h6, h7⟩, _⟩ := reads_structs (enc := enc) (w := w) ht hce (by omega) hby (reads_bool he) fuel cs x h hsm
 refine ⟨l, _, rfl, A, c, rfl, ?_, h1, h2, h3⟩
 have e1 : vs.flatten = boolsV l := by
  apply List.ext_getElem?
  intro i
  by_cases hi : i < l.length
  ·have hv : vs[i]? = some (vs[i]'(by omega)) := List.getElem?_eq_getElem (by omega)
   have hr := h6 i _ _ hv (List.getElem?_eq_getElem hi)
   have := flatten_at (j := 0) h5 hv (by rw [hr]; rfl)
   rw [Nat.mul_one, Nat.add_zero] at this
   rw [this]
   simp [boolsV, List.getElem?_map, List.getElem?_eq_getElem hi]
  ·have hl := h7.1
   rw [List.getElem?_eq_none (by rw [hl]; omega), List.getElem?_eq_none (by simp [boolsV]; omega)]
 rw [← e1]
 simpa using h7
/-- a field of a structure -/
theorem field_reads {t : TypeId} {fs : Array Field} {fuel : Nat} {cs : List Value} {x : DataW H × List MemPlace} (ht : P.underlying t = some (.struct fs)) (h : DataW.trod enc P w 0 (fun _ => true) true fuel t cs = some x) (hsm : Small P t x.1)
  {α : Type} {R : World → List Value → α → Prop} (i : Nat) {f : Field} (hf : fs[i]? = some f) (hR : Reads enc P w f.type R) : cs.length = P.cellsOf t ∧ ∃ a, R w ((cs.drop f.offset).take (P.cellsOf f.type)) a := by
 obtain ⟨xs, n, _, hx, hl, hxl, hg⟩ := DataW.trod_struct ht h
 have hi : i < fs.size := (Array.getElem?_eq_some_iff.1 hf).1
 have h1 := hg i f hf
 rw [List.getElem?_eq_getElem (by omega)] at h1
 refine ⟨hl, hR n _ _ h1 (fun q hq => hsm q ?_)⟩
 rw [show x.1 = _ from congrArg Prod.fst hx]
 simp only [DataW.weights, ht]
 refine DataW.weights_mem_each (j := i) (t := f.type) (d := (xs[i]'(by omega)).1) ?_ ?_ q hq
 ·rw [List.getElem?_map]
  have : fs.toList[i]? = some f := by simpa using hf
  rw [this]; rfl
 ·rw [List.getElem?_map, List.getElem?_eq_getElem (by omega)]; rfl
theorem field_at {t : TypeId} {fs : Array Field} {fuel : Nat} {cs : List Value} {x : DataW H × List MemPlace} (ht : P.underlying t = some (.struct fs)) (h : DataW.trod enc P w 0 (fun _ => true) true fuel t cs = some x) (hsm : Small P t x.1)
  {α : Type} {R : World → List Value → α → Prop} (i o k e : Nat) {f : Field} (hf : fs[i]? = some f) (hR : Reads enc P w e R) (he : f.type = e) (ho : f.offset = o) (hk : P.cellsOf e = k) : ∃ a, R w ((cs.drop o).take k) a := by
 subst he
 subst ho
 subst hk
 exact (field_reads ht h hsm i hf hR).2
end
end Go.Bk
namespace Go.Bk
open Go Go.RowKit
theorem madeCells_rep (z : Value) (n : Nat) : madeCells #[z] n = (List.replicate n z).toArray := by
 apply Array.ext'
 simp [toList_madeCells_one]
theorem run_mk {P : Program} (t e : TypeId) (z : Value) (bytes : Nat) (ht : P.underlying t = some (.slice e)) (hinfo : (P.info? e).map (fun i => (i.zero, i.size, i.bytes)) = some (some z, 1, bytes)) (hz : z.cells = #[z]) (n : Nat) (hb : bytes * n ≤ 281474976710656) (hm : n ≤ 9223372036854775807) :
  ∀ u : World, (Instr.makeSlice t (.int .i64 (n : Int)) (.int .i64 (n : Int))).run P u = .ok (.slice (some ⟨u.heap.size, 0, none⟩) n n) (u.alloc (.cells (List.replicate n z).toArray e)) := by
 intro u
 obtain ⟨i0, hi, hz0, hz1, hz2⟩ := info_parts hinfo
 have hb' : (i0.bytes : Int) * (n : Int) ≤ 281474976710656 := by
  rw [hz2]
  have h : ((bytes * n : Nat) : Int) ≤ 281474976710656 := by omega
  rwa [Int.natCast_mul] at h
 have h := run_make (P := P) u t e i0 z ht hi hz0 .i64 .i64 (n : Int) (n : Int) (by omega) (Int.le_refl _) hb' (by omega)
 simp only [Int.toNat_natCast] at h
 rw [h, hz1, Nat.mul_one, hz, madeCells_rep]
end Go.Bk
namespace Go.Bk
open Go Go.RowKit Go.ChangeMaps

/-- a set's entries -/
def setKV (s : List Int) : KV := s.map fun k => (k, Value.bool true)
def ins (s : List Int) (k : Int) : List Int := if k ∈ s then s else s ++ [k]
def insAll (s : List Int) : List Int → List Int
 | [] => s
 | k :: l => insAll (ins s k) l
theorem setKV_len (s : List Int) : (setKV s).length = s.length := by simp [setKV]
theorem setKV_get (s : List Int) (k : Int) : getM (setKV s) k = if k ∈ s then some (.bool true) else none := by
 induction s with
 | nil => simp [setKV, getM]
 | cons a s ih =>
  simp only [setKV, List.map_cons, getM] at ih ⊢
  by_cases h : k = a
  ·subst h; simp
  ·rw [if_neg h, ih]
   simp [h]
theorem setKV_upd (s : List Int) (k : Int) : updM (setKV s) k (.bool true) = setKV (ins s k) := by
 induction s with
 | nil => simp [setKV, updM, ins]
 | cons a s ih =>
  simp only [setKV, List.map_cons, updM] at ih ⊢
  by_cases h : k = a
  ·subst h
   simp [ins]
  ·rw [if_neg h, ih]
   by_cases hm : k ∈ s
   ·simp [ins, h, hm]
   ·simp [ins, h, hm]
theorem mem_ins {s : List Int} {k x : Int} : x ∈ ins s k ↔ x ∈ s ∨ x = k := by
 unfold ins
 split
 ·rename_i h
  constructor
  ·exact .inl
  ·rintro (h1 | h1)
   ·exact h1
   ·rw [h1]; exact h
 ·simp
theorem ins_nodup {s : List Int} {k : Int} (h : s.Nodup) : (ins s k).Nodup := by
 unfold ins
 split
 ·exact h
 ·rename_i hk
  rw [List.nodup_append]
  exact ⟨h, by simp, fun a ha b hb e => by simp at hb; subst hb; subst e; exact hk ha⟩
theorem mem_insAll {l s : List Int} {x : Int} : x ∈ insAll s l ↔ x ∈ s ∨ x ∈ l := by
 induction l generalizing s with
 | nil => simp [insAll]
 | cons a l ih =>
  rw [insAll, ih, mem_ins, List.mem_cons]
  constructor
  ·rintro ((h | h) | h)
   ·exact .inl h
   ·exact .inr (.inl h)
   ·exact .inr (.inr h)
  ·rintro (h | h | h)
   ·exact .inl (.inl h)
   ·exact .inl (.inr h)
   ·exact .inr h
theorem insAll_nodup {l s : List Int} (h : s.Nodup) : (insAll s l).Nodup := by
 induction l generalizing s with
 | nil => exact h
 | cons a l ih => exact ih (ins_nodup h)
theorem insAll_snoc (s l : List Int) (k : Int) : insAll s (l ++ [k]) = ins (insAll s l) k := by
 induction l generalizing s with
 | nil => rfl
 | cons a l ih => simp only [List.cons_append, insAll, ih]
theorem ins_len (s : List Int) (k : Int) : s.length ≤ (ins s k).length := by
 unfold ins; split <;> simp
theorem insAll_len (l s : List Int) : s.length ≤ (insAll s l).length := by
 induction l generalizing s with
 | nil => exact Nat.le_refl _
 | cons a l ih => exact Nat.le_trans (ins_len s a) (ih _)
/-- nothing was new: nothing was put in -/
theorem insAll_same {l s : List Int} (h : (insAll s l).length ≤ s.length) : insAll s l = s := by
 induction l generalizing s with
 | nil => rfl
 | cons a l ih =>
  rw [insAll] at h ⊢
  have h1 := insAll_len l (ins s a)
  have h2 := ins_len s a
  have h3 : ins s a = s := by
   unfold ins at h2 h1 h ⊢
   split
   ·rfl
   ·rename_i hk
    rw [if_neg hk] at h h1
    simp at h h1
    omega
  rw [h3] at h ⊢
  exact ih h

/-- a map's block is no row of cells -/
theorem IM.no_cells {w : World} {b : Nat} {m : KV} (h : IM w b m) (o : Nat) : w.cell? ⟨b, o, none⟩ = none := by
 obtain ⟨es, clock, hb, _⟩ := h
 unfold World.cell?
 rw [hb]
theorem IM.src_ne {w : World} {b n : Nat} {m : KV} {A : Option Addr} {xs : List Value} (h : IM w b m) (hs : Src w A n xs) (hn : 0 < n) : ∀ a, A = some a → a.block ≠ b := by
 intro a ha e
 subst ha
 obtain ⟨g, o, e1, _, hc⟩ := hs.2 hn
 injection e1 with e1
 subst e1
 subst e
 have := hc 0 _ (List.getElem?_eq_getElem (by rw [hs.1]; exact hn))
 rw [h.no_cells] at this
 cases this
theorem IM.blk_ne {w : World} {b g : Nat} {m : KV} {t : TypeId} {cs : Array Value} (h : IM w b m) (k : Blk w g t cs) : b ≠ g := by
 intro e
 subst e
 obtain ⟨es, clock, hb, _⟩ := h
 have := hb.symm.trans k
 injection this with this
 cases this
theorem IM.own_ne {w : World} {b base n size : Nat} {t : TypeId} {m : KV} {v : Value} {xs : List Value} (h : IM w b m) (k : w.ownsRow base t size v n xs) : v.ownBlock ≠ some b := by
 rcases k.2 with ⟨h1, _⟩ | ⟨g, cap, cur, h1, h2, h3, _⟩
 ·subst h1; simp [Value.ownBlock]
 ·subst h1
  intro e
  injection e with e
  exact h.blk_ne (show Blk w g t cur from h3) e.symm

theorem IM.len_run {P : Program} {w : World} {b : Nat} {m : KV} (h : IM w b m) {t kt et : TypeId} (ht : P.underlying t = some (.map kt et)) (ty : TypeId) : (Builtin.len_ #[t] ty #[.map (some b)]).run P w = .ok (.int .i64 (m.length : Int)) w := by
 obtain ⟨es, clock, hb, he, _⟩ := h
 have hl := he.len
 simp only [Array.length_toList] at hl
 simp [Builtin.len_, run_underlying ht, get_map hb, goInt, Result.andThen, hl]

/-- an entry that was made and is not written yet -/
def IE (w : World) (b : Nat) (m : KV) (k : Int) (stamp : Nat) : Prop :=
 ∃ (es : Array MapEntry) (z : Value), w.heap[b]? = some (.map (es.push { key := .int .i64 k, val := z, born := stamp }) (stamp + 1)) ∧ EM es.toList m ∧ (es.toList.map (·.born)).Nodup ∧ ∀ e ∈ es.toList, e.born < stamp
section
variable {P : Program} {ops : Array Oper} {rest : List Oper} {o : Oper} {a : Act} {Q : Exit → Act → World → Prop}
theorem IM.entry {P : Program} {w : World} {b : Nat} {m : KV} (h : IM w b m) {t kt et : TypeId} {z : Value} (ht : P.underlying t = some (.map kt et)) (hk : P.underlying kt = some (.int .i64)) (hz : ∀ w, (zeroValue et).run P w = .ok z w) (k : Int) (hn : getM m k = none) :
  ∃ w' stamp, (Instr.mapEntry t (.map (some b)) (.int .i64 k)).run P w = .ok (.tuple #[z, .int .i64 (stamp : Nat)]) w' ∧ IE w' b m k stamp ∧ w.grownBy w' (some b) ∧ w'.heap.size = w.heap.size := by
 have hlt := h.lt
 obtain ⟨es, clock, hb, he, hnd, hc⟩ := h
 have h1 := get_map (P := P) hb
 have h2 := fun c => checkKey_int (P := P) w c 9999 kt .i64 k hk
 have h3 := find_key (P := P) (w := w) hk (em_find k es.toList m 0 he)
 have h4 : findPair k m 0 = none := by
  have := find_get k m 0
  rw [hn, Option.map_eq_none_iff] at this
  exact this
 rw [h4] at h3
 have h5 := set_map (P := P) (.map (es.push { key := .int .i64 k, val := z, born := clock }) (clock + 1)) hb
 refine ⟨{ w with heap := w.heap.setIfInBounds b (.map (es.push { key := .int .i64 k, val := z, born := clock }) (clock + 1)) }, clock, ?_, ⟨es, z, by simp [hlt], he, hnd, hc⟩, grown_put _ hlt, by simp⟩
 unfold Instr.mapEntry
 simp only [Sem.run_bind, run_underlying ht, Result.andThen_ok, h1, h2, h3, hz, h5]
 simp [goInt]
theorem IE.store {P : Program} {w : World} {b : Nat} {m : KV} {k : Int} {stamp : Nat} (h : IE w b m k stamp) (t : TypeId) (v : Value) :
  ∃ w', (Instr.entryStore t (.map (some b)) (.int .i64 (stamp : Nat)) v).run P w = .ok () w' ∧ IM w' b (m ++ [(k, v)]) ∧ w.grownBy w' (some b) ∧ w'.heap.size = w.heap.size := by
 obtain ⟨es, z, hb, he, hnd, hc⟩ := h
 have hlt : b < w.heap.size := (Array.getElem?_eq_some_iff.1 hb).1
 have h1 := get_map (P := P) hb
 have hf : (es.push { key := .int .i64 k, val := z, born := stamp }).findIdx? (fun e => (e.born : Int) == (stamp : Int)) = some es.size := by
  rw [Array.findIdx?_eq_some_iff_getElem]
  refine ⟨by simp, by simp, fun j hj => ?_⟩
  rw [Array.getElem_push_lt hj]
  have := hc es[j] (by simp)
  simp
  omega
 have h5 := set_map (P := P) (.map ((es.push { key := .int .i64 k, val := z, born := stamp }).modify es.size fun e => { e with val := v }) (stamp + 1)) hb
 have e1 : ((es.push { key := .int .i64 k, val := z, born := stamp }).modify es.size fun e => { e with val := v }) = es.push { key := .int .i64 k, val := v, born := stamp } := by
  apply Array.ext_getElem?
  intro j
  rw [Array.getElem?_modify]
  by_cases hj : es.size = j
  ·subst hj; simp
  ·rw [if_neg hj]
   simp only [Array.getElem?_push]
   rw [if_neg (by omega), if_neg (by omega)]
 rw [e1] at h5
 refine ⟨{ w with heap := w.heap.setIfInBounds b (.map (es.push { key := .int .i64 k, val := v, born := stamp }) (stamp + 1)) }, ?_, IM.put hlt (es.push { key := .int .i64 k, val := v, born := stamp }) (stamp + 1) ?_ ?_ ?_, grown_put _ hlt, by simp⟩
 ·unfold Instr.entryStore
  simp only [Sem.run_bind, h1, Result.andThen_ok, asInt, asIntOf, Sem.run_pure, hf, e1]
  exact h5
 ·simp only [EM, Array.toList_push, List.map_append, List.map_cons, List.map_nil] at he ⊢
  rw [he]
 ·simp only [Array.toList_push, List.map_append, List.map_cons, List.map_nil]
  rw [List.nodup_append]
  refine ⟨hnd, by simp, fun a ha c hc' => ?_⟩
  obtain ⟨e, he', rfl⟩ := List.mem_map.1 ha
  simp at hc'
  have := hc e he'
  omega
 ·intro e he'
  simp only [Array.toList_push, List.mem_append, List.mem_singleton] at he'
  rcases he' with h | h
  ·have := hc e h; omega
  ·subst h; simp
end
end Go.Bk

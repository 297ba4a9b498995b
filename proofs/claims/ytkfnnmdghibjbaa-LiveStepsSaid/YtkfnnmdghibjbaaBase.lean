/-
  Words for memory that all texts of this seat share: a slice that reads as a list of cells, bytes, and how both are kept.
  Conditions: none.
-/
import Derived.WalkKit
import Derived.WalkSpells
import Derived.WalkLawsBesides
import Derived.Lib.Hide
import Derived.Maps.AppendAt
import Derived.Laws.BytesArg
import Derived.Laws.IdiomStrings
import Derived.RegionTactic
import Derived.ChangeAlike
import Derived.BigQuiet
import Derived.Deep.QuietTactic
namespace Go.Bk
open Go Go.RowKit

/-- A slice's address and length: its elements (of one cell each) are xs in this world. -/
def Src (w : World) (A : Option Addr) (n : Nat) (xs : List Value) : Prop :=
  xs.length = n ∧ (0 < n → ∃ b o, A = some ⟨b, o, none⟩ ∧ b < w.heap.size ∧ ∀ j u, xs[j]? = some u → w.cell? ⟨b, o + j, none⟩ = some u)

theorem Src.len {w : World} {A : Option Addr} {n : Nat} {xs : List Value} (h : Src w A n xs) : xs.length = n := h.1

theorem Src.nil (w : World) (A : Option Addr) : Src w A 0 [] := ⟨rfl, fun h => absurd h (by omega)⟩

theorem Src.below {w w' : World} {B : Nat} {A : Option Addr} {n : Nat} {xs : List Value} (h : Src w A n xs) (hb : Below B w w') (hB : w.heap.size ≤ B) : Src w' A n xs :=
  ⟨h.1, fun hn => by
    obtain ⟨b, o, e, hlt, hc⟩ := h.2 hn
    exact ⟨b, o, e, Nat.lt_of_lt_of_le hlt hb.size, fun j u hu => (hb.cell (by show b < B; omega)).trans (hc j u hu)⟩⟩

theorem Src.at_ {w : World} {b o n k : Nat} {s : Option Nat} {xs : List Value} (h : Src w (some ⟨b, o, s⟩) n xs) (hk : k < n) :
    w.cell? ⟨b, o + k, none⟩ = some (xs[k]'(by rw [h.1]; exact hk)) := by
  obtain ⟨b', o', e, _, hc⟩ := h.2 (by omega)
  injection e with e
  injection e with e1 e2
  subst e1
  subst e2
  exact hc k _ (List.getElem?_eq_getElem (by rw [h.1]; exact hk))

theorem Src.addr {w : World} {A : Option Addr} {n : Nat} {xs : List Value} (h : Src w A n xs) (hn : 0 < n) : ∃ b o, A = some ⟨b, o, none⟩ ∧ b < w.heap.size := by
  obtain ⟨b, o, e, hlt, _⟩ := h.2 hn
  exact ⟨b, o, e, hlt⟩

theorem Src.of_own {w : World} {base : Nat} {e : TypeId} {A : Option Addr} {n c : Nat} {xs : List Value} (h : w.ownsRow base e 1 (.slice A n c) n xs) : Src w A n xs := by
  refine ⟨by simpa using h.1, fun hn => ?_⟩
  rcases h.2 with ⟨h1, h2⟩ | ⟨g, cap, cur, h1, _, hg, _, _, _, _⟩
  · omega
  · have hA : A = some ⟨g, 0, none⟩ := by injection h1
    subst hA
    refine ⟨g, 0, rfl, (Array.getElem?_eq_some_iff.1 hg).1, fun j u hu => ?_⟩
    have := h.cells (g := g) rfl j u hu
    rwa [Addr.add_lit] at this

theorem own_below {w w' : World} {B base : Nat} {e : TypeId} {size n : Nat} {v : Value} {xs : List Value} (h : w.ownsRow base e size v n xs) (hb : Below B w w') (hB : w.heap.size ≤ B) : w'.ownsRow base e size v n xs := by
  refine ⟨h.1, ?_⟩
  rcases h.2 with h2 | ⟨g, cap, cur, h1, h2, hg, r⟩
  · exact .inl h2
  · refine .inr ⟨g, cap, cur, h1, h2, ?_, r⟩
    rw [hb.block g (by have := (Array.getElem?_eq_some_iff.1 hg).1; omega)]
    exact hg

theorem own_mono {w : World} {base base' : Nat} {e : TypeId} {size n : Nat} {v : Value} {xs : List Value} (h : w.ownsRow base e size v n xs) (hb : base' ≤ base) : w.ownsRow base' e size v n xs := by
  refine ⟨h.1, ?_⟩
  rcases h.2 with h2 | ⟨g, cap, cur, h1, h2, r⟩
  · exact .inl h2
  · exact .inr ⟨g, cap, cur, h1, Nat.le_trans hb h2, r⟩

/-- the shape of an owned slice value -/
theorem own_shape {w : World} {base : Nat} {e : TypeId} {size n : Nat} {v : Value} {xs : List Value} (h : w.ownsRow base e size v n xs) :
    ∃ A c, v = .slice A n c ∧ n ≤ c := by
  rcases h.2 with ⟨h1, h2⟩ | ⟨g, cap, cur, h1, _, _, h4, _⟩
  · subst h2
    exact ⟨none, 0, h1, Nat.le_refl _⟩
  · exact ⟨_, _, h1, h4⟩

/-- append of a slice that may be nil, onto a row of the call's own -/
theorem append_src {P : Program} {ops : Array Oper} {rest : List Oper} {o : Oper} {a : Act} {Q : Exit → Act → World → Prop} (w : World) (hgd : o.guard = none) (s x : Operand) (t : TypeId)
    (ho : o.op = .call { callee := .builtin .append, args := #[s, x], argTypes := #[t, t] })
    (base : Nat) (e : TypeId) (z : Value) (bytes : Nat) (ht : P.underlying t = some (.slice e)) (hinfo : (P.info? e).map (fun i => (i.zero, i.size, i.bytes)) = some (some z, 1, bytes)) (hzs : z.cells.size = 1)
    (v : Value) (n : Nat) (xs : List Value) (hs : a.eval s = v) (hown : w.ownsRow base e 1 v n xs)
    (A : Option Addr) (m c : Nat) (news : List Value) (hx : a.eval x = .slice A m c) (hr : Src w A m news) (h1 : ∀ u ∈ news, u.oneCell' = true)
    (h63 : n + m ≤ maxLen) (hbytes : (n + m) * bytes ≤ 140737488355328) (hbase : base ≤ w.heap.size)
    (h : ∀ v' w', w'.ownsRow base e 1 v' (n + m) (xs ++ news) → w.grownBy w' v.ownBlock → wpList P ops Q rest (a.put o.dst v') w') : wpList P ops Q (o :: rest) a w := by
  obtain ⟨i, hi, hz, hsz, hby⟩ := info_parts hinfo
  have key : ∃ v' w', (Builtin.append_ #[t, t] o.type #[v, .slice A m c]).run P w = .ok v' w' ∧ w'.ownsRow base e 1 v' (n + m) (xs ++ news) ∧ w.grownBy w' v.ownBlock := by
    rcases A with _ | ad
    · have hm0 : m = 0 := by
        rcases Nat.eq_zero_or_pos m with h0 | h0
        · exact h0
        · obtain ⟨b, o, had, _⟩ := hr.2 h0
          cases had
      have hm : news = [] := List.eq_nil_of_length_eq_zero (by rw [hr.1, hm0])
      subst hm
      subst hm0
      refine ⟨v, w, ?_, by simpa using hown, World.grownBy.refl w _⟩
      rcases hown.2 with ⟨rfl, rfl⟩ | ⟨g, cap, cur, rfl, _, _, hnc, _⟩
      · simp [Builtin.append_, run_underlying ht, sizeOf, typeInfo, hi, Builtin.lenOf, Builtin.firstCells]
      · simp [Builtin.append_, run_underlying ht, sizeOf, typeInfo, hi, Builtin.lenOf, Builtin.firstCells, hnc, storeCells]
    · obtain ⟨v', w', hrun, h2, h3, _⟩ := run_append_own (P := P) w base t o.type e i z 1 bytes ht hi hz hsz hby hzs (by omega) v n xs hown ad m c news (by simpa using hr.1)
        (fun j u hu => by
          have hj := (List.getElem?_eq_some_iff.1 hu).1
          obtain ⟨b, o, e', _, hc⟩ := hr.2 (by have := hr.1; omega)
          injection e' with e'
          subst e'
          rw [Addr.add_lit]
          exact hc j u hu) h1 h63 hbytes hbase
      exact ⟨v', w', hrun, h2, h3⟩
  obtain ⟨v', w', hrun, h2, h3⟩ := key
  refine wpList_plain hgd fun K hK => ?_
  unfold Oper.wp execOp
  simp only [ho, resolve, invoke, builtin, Sem.run_bind, Sem.run_pure, Result.andThen_ok, List.map_toArray, List.map_cons, List.map_nil, hs, hx, hrun]
  exact hK _ _ (h v' w' h2 h3)

/-- behind an append onto a row of the call's own -/
theorem below_append {B base : Nat} {a w w' : World} {e : TypeId} {size n : Nat} {v : Value} {xs : List Value} (h : Below B a w) (hg : w.grownBy w' v.ownBlock) (hown : w.ownsRow base e size v n xs) (hB : B ≤ base) (hs : B ≤ w.heap.size) : Below B a w' :=
  h.grown hg hs (fun k hk => Nat.le_trans hB (hown.lt k hk).1)

/-- bytes as cells -/
def bys (l : List Nat) : List Value := l.map fun c : Nat => .int .u8 (c : Int)

theorem bys_len (l : List Nat) : (bys l).length = l.length := by simp [bys]
theorem bys_one (l : List Nat) : ∀ u ∈ bys l, u.oneCell' = true := by
  intro u hu
  obtain ⟨_, _, rfl⟩ := List.mem_map.1 hu
  rfl
theorem bys_app (a b : List Nat) : bys (a ++ b) = bys a ++ bys b := by simp [bys]
theorem bys_get {l : List Nat} {k : Nat} (h : k < (bys l).length) : (bys l)[k] = .int .u8 ((l[k]'(by simpa [bys] using h) : Nat) : Int) := by simp [bys]
theorem bys_set (l : List Nat) (k c : Nat) : (bys l).set k (.int .u8 (c : Int)) = bys (l.set k c) := by
  unfold bys
  rw [List.map_set]

/-- all are bytes -/
def AllB (l : List Nat) : Prop := ∀ c ∈ l, c < 256

theorem AllB.get {l : List Nat} (h : AllB l) {k : Nat} (hk : k < l.length) : l[k] < 256 := h _ (List.getElem_mem hk)
theorem AllB.nil : AllB [] := fun _ h => by simp at h
theorem AllB.app {a b : List Nat} (ha : AllB a) (hb : AllB b) : AllB (a ++ b) := fun c hc => by
  rcases List.mem_append.1 hc with h | h
  · exact ha c h
  · exact hb c h

/-- one new cell behind all blocks -/
theorem src_one (w : World) (v : Value) (e : TypeId) : Src (w.alloc (.cells #[v] e)) (some ⟨w.heap.size, 0, none⟩) 1 [v] := by
  refine ⟨rfl, fun _ => ⟨_, _, rfl, by simp, fun j u hu => ?_⟩⟩
  match j, hu with
  | 0, hu =>
    simp at hu
    subst hu
    simp

/-- the text that bytes are -/
def bstr (l : List Nat) : ByteArray := ⟨(l.map UInt8.ofNat).toArray⟩

theorem bstr_toList (l : List Nat) : (bstr l).toList = l.map UInt8.ofNat := by
  unfold bstr
  rw [ByteArray.toList_mk]

theorem map_inj_bytes : ∀ (a b : List Nat), AllB a → AllB b → a.map UInt8.ofNat = b.map UInt8.ofNat → a = b
  | [], [], _, _, _ => rfl
  | [], y :: b, _, _, h => by simp at h
  | x :: a, [], _, _, h => by simp at h
  | x :: a, y :: b, ha, hb, h => by
    simp only [List.map_cons, List.cons.injEq] at h
    obtain ⟨h1, h2⟩ := h
    have hx : x < 256 := ha x (by simp)
    have hy : y < 256 := hb y (by simp)
    have h3 := congrArg UInt8.toNat h1
    simp only [UInt8.toNat_ofNat'] at h3
    rw [map_inj_bytes a b (fun c hc => ha c (by simp [hc])) (fun c hc => hb c (by simp [hc])) h2]
    rw [show x = y from by omega]

theorem bstr_eq {a b : List Nat} (ha : AllB a) (hb : AllB b) : ((bstr a).toList == (bstr b).toList) = decide (a = b) := by
  rw [bstr_toList, bstr_toList, Bool.eq_iff_iff]
  simp only [beq_iff_eq, decide_eq_true_eq]
  exact ⟨map_inj_bytes a b ha hb, fun h => by rw [h]⟩

/-- 'string(b)' of a slice that reads as bytes -/
theorem run_bstr {P : Program} (w : World) (src dst e : TypeId) (hs : P.underlying src = some (.slice e)) (he : P.underlying e = some (.int .u8)) (hd : P.underlying dst = some .string)
    (A : Option Addr) (n c : Nat) (l : List Nat) (h : Src w A n (bys l)) (hl : AllB l) : (convert src dst (.slice A n c)).run P w = .ok (.string (bstr l)) w := by
  have hn : l.length = n := by rw [← h.1, bys_len]
  rcases A with _ | ad
  · have h0 : n = 0 := by
      rcases Nat.eq_zero_or_pos n with h0 | h0
      · exact h0
      · obtain ⟨b, o, had, _⟩ := h.2 h0
        cases had
    have : l = [] := List.eq_nil_of_length_eq_zero (by omega)
    subst this
    rw [run_convert_bytes_nil w src e hs he n c dst hd]
    rfl
  · have hb := run_convert_bytes_back (P := P) w src dst e ad c (l.map UInt8.ofNat) hs he hd (fun j hj => by
      have hj' : j < n := by simp at hj; omega
      obtain ⟨b, o, had, _, hc⟩ := h.2 (by omega)
      injection had with had
      subst had
      rw [Addr.add_lit, hc j _ (List.getElem?_eq_getElem (by rw [h.1]; exact hj')), bys_get]
      have := hl.get (k := j) (by omega)
      simp
      omega)
    rw [List.length_map, hn] at hb
    exact hb

/-- a literal's cells behind all blocks -/
theorem src_lit (w : World) (cs : Array Value) (e : TypeId) : Src (w.alloc (.cells cs e)) (some ⟨w.heap.size, 0, none⟩) cs.size cs.toList := by
  refine ⟨by simp, fun _ => ⟨_, _, rfl, by simp, fun j u hu => ?_⟩⟩
  rw [Nat.zero_add]
  have : (w.alloc (.cells cs e)).cell? ⟨w.heap.size, j, none⟩ = cs[j]? := World.cell?_alloc_mark w cs e (0, 0) j
  rw [this]
  simpa using hu


/-- nil, or a row of cap cells, the numbers zs -/
def RowIn (k : IntKind) (w : World) (a : Option Addr) (len cap : Nat) (zs : List Int) : Prop :=
  (a = none ∧ len = 0 ∧ cap = 0 ∧ zs = []) ∨
  ∃ x, a = some x ∧ len ≤ cap ∧ cap ≤ maxLen ∧ zs.length = cap ∧ (∀ i, i < zs.length → w.cell? (x.add i) = some (.int k (zs.getD i 0))) ∧ ∀ n ∈ zs, (Lit.int k n).wf = true

theorem cell_some {w : World} {x : Addr} {v : Value} (h : w.cell? x = some v) : x.spot = none ∧ x.block < w.heap.size := by
  unfold World.cell? at h
  split at h
  · rename_i hh
    split at h
    · cases h
    · rename_i hs
      exact ⟨by simpa using hs, (Array.getElem?_eq_some_iff.1 hh).1⟩
  · cases h

theorem RowIn.src {k : IntKind} {w : World} {a : Option Addr} {len cap : Nat} {zs : List Int} (h : RowIn k w a len cap zs) :
    Src w a len ((zs.take len).map (Value.int k)) ∧ len ≤ cap ∧ (a = none → len = 0 ∧ cap = 0) ∧ ∀ n ∈ zs, (Lit.int k n).wf = true := by
  rcases h with ⟨rfl, rfl, rfl, rfl⟩ | ⟨x, rfl, h1, h2, h3, h4, h5⟩
  · exact ⟨Src.nil _ _, Nat.le_refl _, fun _ => ⟨rfl, rfl⟩, fun _ hn => by simp at hn⟩
  · refine ⟨⟨by simp; omega, fun hn => ?_⟩, h1, (fun e => by cases e), h5⟩
    have h0 := h4 0 (by omega)
    rw [show x.add 0 = x from by simp [Addr.add]] at h0
    obtain ⟨hs, hb⟩ := cell_some h0
    obtain ⟨b, o, s⟩ := x
    simp at hs
    subst hs
    refine ⟨b, o, rfl, hb, fun j u hu => ?_⟩
    have hj : j < len := by
      have := (List.getElem?_eq_some_iff.1 hu).1
      simp at this
      omega
    have hc := h4 j (by omega)
    rw [Addr.add_lit] at hc
    rw [hc]
    rw [List.getElem?_map, List.getElem?_take, if_pos hj, List.getElem?_eq_getElem (by omega)] at hu
    simp at hu
    rw [← hu]
    simp [List.getD, List.getElem?_eq_getElem (show j < zs.length by omega)]

theorem RowIn.bytes {w : World} {a : Option Addr} {len cap : Nat} {zs : List Int} (h : RowIn .u8 w a len cap zs) :
    ∃ l : List Nat, Src w a len (bys l) ∧ AllB l ∧ len ≤ cap ∧ (a = none → len = 0 ∧ cap = 0) := by
  obtain ⟨h1, h2, h3, h4⟩ := h.src
  have hz : ∀ n ∈ zs, 0 ≤ n ∧ n < 256 := fun n hn => by
    have := h4 n hn
    simp [Lit.wf, IntKind.min, IntKind.max, IntKind.bits, IntKind.signed] at this
    omega
  refine ⟨(zs.take len).map Int.toNat, ?_, ?_, h2, h3⟩
  · have e : bys ((zs.take len).map Int.toNat) = (zs.take len).map (Value.int .u8) := by
      unfold bys
      rw [List.map_map]
      refine List.map_congr_left fun n hn => ?_
      have := hz n (List.mem_of_mem_take hn)
      simp
      omega
    rw [e]
    exact h1
  · intro c hc
    obtain ⟨n, hn, rfl⟩ := List.mem_map.1 hc
    have := hz n (List.mem_of_mem_take hn)
    omega

/-- 'append([]T(nil), xs...)': a new row -/
theorem append_copy {P : Program} {ops : Array Oper} {rest : List Oper} {o : Oper} {a : Act} {Q : Exit → Act → World → Prop} (w : World) (hgd : o.guard = none) (s x : Operand) (t : TypeId)
    (ho : o.op = .call { callee := .builtin .append, args := #[s, x], argTypes := #[t, t] })
    (e : TypeId) (z : Value) (bytes : Nat) (ht : P.underlying t = some (.slice e)) (hinfo : (P.info? e).map (fun i => (i.zero, i.size, i.bytes)) = some (some z, 1, bytes)) (hzs : z.cells.size = 1)
    (hs : a.eval s = .slice none 0 0)
    (A : Option Addr) (m c : Nat) (news : List Value) (hx : a.eval x = .slice A m c) (hr : Src w A m news) (h1 : ∀ u ∈ news, u.oneCell' = true)
    (h63 : m ≤ maxLen) (hbytes : m * bytes ≤ 140737488355328)
    (h : ∀ v' w', w'.ownsRow w.heap.size e 1 v' m news → Below w.heap.size w w' → wpList P ops Q rest (a.put o.dst v') w') : wpList P ops Q (o :: rest) a w :=
  append_src w hgd s x t ho w.heap.size e z bytes ht hinfo hzs (.slice none 0 0) 0 [] hs (World.ownsRow_nil _ _ _ _) A m c news hx hr h1 (by omega) (by rw [Nat.zero_add]; exact hbytes) (Nat.le_refl _) fun v' w' h2 h3 =>
    h v' w' (by simpa using h2) (below_append (Below.refl _ _) h3 (World.ownsRow_nil w w.heap.size e 1) (Nat.le_refl _) (Nat.le_refl _))

/-- append onto a row of the call's own: what was there below stays -/
theorem append_own {P : Program} {ops : Array Oper} {rest : List Oper} {o : Oper} {a : Act} {Q : Exit → Act → World → Prop} (w : World) (hgd : o.guard = none) (s x : Operand) (t : TypeId)
    (ho : o.op = .call { callee := .builtin .append, args := #[s, x], argTypes := #[t, t] })
    (base : Nat) (e : TypeId) (z : Value) (bytes : Nat) (ht : P.underlying t = some (.slice e)) (hinfo : (P.info? e).map (fun i => (i.zero, i.size, i.bytes)) = some (some z, 1, bytes)) (hzs : z.cells.size = 1)
    (v : Value) (n : Nat) (xs : List Value) (hs : a.eval s = v) (hown : w.ownsRow base e 1 v n xs)
    (A : Option Addr) (m c : Nat) (news : List Value) (hx : a.eval x = .slice A m c) (hr : Src w A m news) (h1 : ∀ u ∈ news, u.oneCell' = true)
    (h63 : n + m ≤ maxLen) (hbytes : (n + m) * bytes ≤ 140737488355328) (hbase : base ≤ w.heap.size)
    (h : ∀ v' w', w'.ownsRow base e 1 v' (n + m) (xs ++ news) → Below base w w' → wpList P ops Q rest (a.put o.dst v') w') : wpList P ops Q (o :: rest) a w :=
  append_src w hgd s x t ho base e z bytes ht hinfo hzs v n xs hs hown A m c news hx hr h1 h63 hbytes hbase fun v' w' h2 h3 =>
    h v' w' h2 (below_append (Below.refl _ _) h3 hown (Nat.le_refl _) hbase)


/-- a block that is known whole -/
def Blk (w : World) (g : Nat) (e : TypeId) (cs : Array Value) : Prop := w.heap[g]? = some (.cells cs e (0, 0))
theorem Blk.lt {w : World} {g : Nat} {e : TypeId} {cs : Array Value} (h : Blk w g e cs) : g < w.heap.size := (Array.getElem?_eq_some_iff.1 h).1
theorem Blk.new (w : World) (e : TypeId) (cs : Array Value) : Blk (w.alloc (.cells cs e)) w.heap.size e cs := heap_alloc_new w _
theorem Blk.below {w w' : World} {B g : Nat} {e : TypeId} {cs : Array Value} (h : Blk w g e cs) (hb : Below B w w') (hB : g < B) : Blk w' g e cs := (hb.block g hB).trans h
theorem Blk.cell {w : World} {g : Nat} {e : TypeId} {cs : Array Value} (h : Blk w g e cs) (i : Nat) : w.cell? ⟨g, i, none⟩ = cs[i]? := cell_of_row w g i cs e (0, 0) h
theorem Blk.src {w : World} {g : Nat} {e : TypeId} {cs : Array Value} (h : Blk w g e cs) (n : Nat) (hn : n ≤ cs.size) : Src w (some ⟨g, 0, none⟩) n (cs.toList.take n) := by
  refine ⟨by simp; omega, fun _ => ⟨g, 0, rfl, h.lt, fun j u hu => ?_⟩⟩
  rw [Nat.zero_add, h.cell]
  rw [List.getElem?_take] at hu
  split at hu
  · simpa using hu
  · cases hu

/-- append within the room of a block that is known whole -/
theorem append_room_blk {P : Program} {ops : Array Oper} {rest : List Oper} {o : Oper} {a : Act} {Q : Exit → Act → World → Prop} (w : World) (hgd : o.guard = none) (s x : Operand) (t : TypeId)
    (ho : o.op = .call { callee := .builtin .append, args := #[s, x], argTypes := #[t, t] })
    (e : TypeId) (z : Value) (bytes : Nat) (ht : P.underlying t = some (.slice e)) (hinfo : (P.info? e).map (fun i => (i.zero, i.size, i.bytes)) = some (some z, 1, bytes))
    (g sLen sCap : Nat) (cur : Array Value) (hs : a.eval s = .slice (some ⟨g, 0, none⟩) sLen sCap) (hblk : Blk w g e cur)
    (A : Option Addr) (m c : Nat) (news : List Value) (hx : a.eval x = .slice A m c) (hr : Src w A m news) (h1 : ∀ u ∈ news, u.oneCell' = true)
    (hroom : sLen + m ≤ sCap) (hfit : sLen + m ≤ cur.size)
    (h : ∀ w', Blk w' g e (cur.toList.take sLen ++ news ++ cur.toList.drop (sLen + m)).toArray → w.grownBy w' (some g) → wpList P ops Q rest (a.put o.dst (.slice (some ⟨g, 0, none⟩) (sLen + m) sCap)) w') :
    wpList P ops Q (o :: rest) a w := by
  obtain ⟨i, hi, hz, hsz, hby⟩ := info_parts hinfo
  have key : ∃ w', (Builtin.append_ #[t, t] o.type #[.slice (some ⟨g, 0, none⟩) sLen sCap, .slice A m c]).run P w = .ok (.slice (some ⟨g, 0, none⟩) (sLen + m) sCap) w' ∧
      Blk w' g e (cur.toList.take sLen ++ news ++ cur.toList.drop (sLen + m)).toArray ∧ w.grownBy w' (some g) := by
    rcases A with _ | ad
    · have hm0 : m = 0 := by
        rcases Nat.eq_zero_or_pos m with h0 | h0
        · exact h0
        · obtain ⟨b, o, had, _⟩ := hr.2 h0
          cases had
      have hm : news = [] := List.eq_nil_of_length_eq_zero (by rw [hr.1, hm0])
      subst hm
      subst hm0
      refine ⟨w, ?_, by simpa using hblk, World.grownBy.refl w _⟩
      have : sLen ≤ sCap := by omega
      simp [Builtin.append_, run_underlying ht, sizeOf, typeInfo, hi, Builtin.lenOf, Builtin.firstCells, this, storeCells]
    · have hr' := run_append_room (P := P) w t o.type e i ht hi g sLen sCap cur hblk ad m c news (by rw [hsz, Nat.mul_one]; exact hr.1)
        (fun j u hu => by
          have hj := (List.getElem?_eq_some_iff.1 hu).1
          obtain ⟨b, o, e', _, hc⟩ := hr.2 (by have := hr.1; omega)
          injection e' with e'
          subst e'
          rw [Addr.add_lit]
          exact hc j u hu) h1 hroom (by rw [hsz, Nat.mul_one, hr.1]; exact hfit)
      rw [hsz, Nat.mul_one, hr.1] at hr'
      exact ⟨_, hr', setRow_heap w g cur _ e _ hblk, ⟨rfl, rfl, rfl, by simp, fun k _ hk => setRow_other w g k _ (fun e => hk (by simp [e]))⟩⟩
  obtain ⟨w', hrun, h2, h3⟩ := key
  refine wpList_plain hgd fun K hK => ?_
  unfold Oper.wp execOp
  simp only [ho, resolve, invoke, builtin, Sem.run_bind, Sem.run_pure, Result.andThen_ok, List.map_toArray, List.map_cons, List.map_nil, hs, hx, hrun]
  exact hK _ _ (h w' h2 h3)

/-- all old cells and marks read as before -/
theorem bcell {W w1 : World} (hb : Below W.heap.size W w1) : (∀ b o, b < W.heap.size → w1.cell? ⟨b, o, none⟩ = W.cell? ⟨b, o, none⟩) ∧ (∀ b o, b < W.heap.size → w1.frozen? ⟨b, o, none⟩ = W.frozen? ⟨b, o, none⟩) :=
  ⟨fun b _ h => hb.cell (p := ⟨b, _, none⟩) h, fun b _ h => hb.frozen (p := ⟨b, _, none⟩) h⟩

theorem below_drewN {B : Nat} {a w : World} (h : Below B a w) (n : Nat) : Below B a (w.drewN n) := ⟨h.os, h.tape, h.output, h.size, h.block⟩

theorem src_one_at {w : World} {N : Nat} (h : w.heap.size = N) (v : Value) (e : TypeId) : Src (w.alloc (.cells #[v] e)) (some ⟨N, 0, none⟩) 1 [v] := by
  subst h
  exact src_one w v e

theorem one_int (k : IntKind) (x : Int) : ∀ u ∈ [Value.int k x], u.oneCell' = true := by
  intro u hu
  obtain rfl := List.mem_singleton.1 hu
  rfl

theorem own_at {w : World} {p n : Nat} {e : TypeId} {v : Value} {xs : List Value} (h : w.ownsRow p e 1 v n xs) (hn : 1 ≤ n) : ∃ g c, v = .slice (some ⟨g, 0, none⟩) n c ∧ g < w.heap.size ∧ p ≤ g ∧ n ≤ c := by
  rcases h.2 with ⟨_, h⟩ | ⟨g', cap', cur, rfl, h1, h2, h3, r⟩
  · omega
  · exact ⟨_, _, rfl, (Array.getElem?_eq_some_iff.1 h2).1, h1, h3⟩

theorem own_cell {w : World} {p : Nat} {e : TypeId} {gx lx cx k : Nat} {xs : List Value} (h : w.ownsRow p e 1 (.slice (some ⟨gx, 0, none⟩) lx cx) lx xs) (hk : k < lx) : ∃ v, w.cell? ⟨gx, k, none⟩ = some v := by
  have hl := h.1
  rw [h.cellAt k (by omega)]
  exact ⟨_, List.getElem?_eq_getElem (by omega)⟩

theorem bys_take (l : List Nat) (i : Nat) : (bys l).take i = bys (l.take i) := by simp [bys, List.map_take]
theorem bys_drop (l : List Nat) (i : Nat) : (bys l).drop i = bys (l.drop i) := by simp [bys, List.map_drop]

theorem Src.take {w : World} {A : Option Addr} {n i : Nat} {xs : List Value} (h : Src w A n xs) (hi : i ≤ n) : Src w A i (xs.take i) := by
  refine ⟨by rw [List.length_take, h.1]; omega, fun h0 => ?_⟩
  obtain ⟨b, o, e, hlt, hc⟩ := h.2 (by omega)
  refine ⟨b, o, e, hlt, fun j u hu => hc j u ?_⟩
  rw [List.getElem?_take] at hu
  split at hu
  · exact hu
  · cases hu

theorem Src.drop {w : World} {b o n i : Nat} {xs : List Value} (h : Src w (some ⟨b, o, none⟩) n xs) (hi : i ≤ n) : Src w (some ⟨b, o + i, none⟩) (n - i) (xs.drop i) := by
  refine ⟨by rw [List.length_drop, h.1], fun h0 => ?_⟩
  obtain ⟨b', o', e, hlt, hc⟩ := h.2 (by omega)
  injection e with e
  injection e with e1 e2
  subst e1
  subst e2
  refine ⟨b, o + i, rfl, hlt, fun j u hu => ?_⟩
  rw [Nat.add_assoc]
  exact hc (i + j) u (by rw [← hu, List.getElem?_drop])

theorem Blk.bytes {w : World} {g n : Nat} {e : TypeId} {l : List Nat} (h : Blk w g e (bys l).toArray) (hn : n ≤ l.length) : Src w (some ⟨g, 0, none⟩) n (bys (l.take n)) := by
  have := h.src n (by simpa [bys] using hn)
  rw [← bys_take]
  simpa using this

theorem u8_bounds {a : Int} (h : (Lit.int .u8 a).wf = true) : 0 ≤ a ∧ a < 256 := by
  simp [Lit.wf, IntKind.min, IntKind.max, IntKind.bits, IntKind.signed] at h
  omega
theorem u32_bounds {a : Int} (h : (Lit.int .u32 a).wf = true) : 0 ≤ a ∧ a < 4294967296 := by
  simp [Lit.wf, IntKind.min, IntKind.max, IntKind.bits, IntKind.signed] at h
  omega
theorem u64_bounds {a : Int} (h : (Lit.int .u64 a).wf = true) : 0 ≤ a ∧ a < 18446744073709551616 := by
  simp [Lit.wf, IntKind.min, IntKind.max, IntKind.bits, IntKind.signed] at h
  omega
theorem i64_bounds {a : Int} (h : (Lit.int .i64 a).wf = true) : -9223372036854775808 ≤ a ∧ a ≤ 9223372036854775807 := by
  simp [Lit.wf, IntKind.min, IntKind.max, IntKind.bits, IntKind.signed] at h
  omega

theorem wrap_u64_nat {n : Nat} (h : n < 18446744073709551616) : IntKind.u64.wrap (n : Int) = (n : Int) := by
  rw [IntKind.wrap_u64]
  omega

theorem bits_or_u64 {a b : Nat} (ha : a < 18446744073709551616) (hb : b < 18446744073709551616) : bits .or .u64 (a : Int) (b : Int) = ((a ||| b : Nat) : Int) := by
  have hx : a ||| b < 2 ^ 64 := Nat.or_lt_two_pow (by omega) (by omega)
  show IntKind.u64.wrap ((BitVec.ofInt 64 (a : Int) ||| BitVec.ofInt 64 (b : Int)).toNat : Int) = _
  rw [BitVec.toNat_or, BitVec.ofInt_natCast, BitVec.ofInt_natCast, BitVec.toNat_ofNat, BitVec.toNat_ofNat, Nat.mod_eq_of_lt (by omega), Nat.mod_eq_of_lt (by omega)]
  exact wrap_u64_nat (by omega)

end Go.Bk

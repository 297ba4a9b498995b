/-
 What a row of code may be, and what is live in it, in plain words.
 Conditions: none.
-/
import Derived.Test.YtgmapikcpnffhaaGreatLGen
import Derived.Test.YtgmapikcpnffhaaGreatLNum
namespace Go.Bk
open Go Go.RowKit
/-- a slice value that reads as numbers -/
def IR (w : World) (v : Value) (l : List Int) : Prop := ∃ A c, v = .slice A l.length c ∧ Src w A l.length (i64s l)
theorem Ints.ir {w : World} {v : Value} {l : List Int} (h : Ints w v l) : IR w v l := by
 obtain ⟨A, c, e, hs, _⟩ := h
 exact ⟨A, c, e, hs⟩
theorem IR.below {w w' : World} {B : Nat} {v : Value} {l : List Int} (h : IR w v l) (hb : Below B w w') (hB : w.heap.size ≤ B) : IR w' v l := by
 obtain ⟨A, c, e, hs⟩ := h
 exact ⟨A, c, e, hs.below hb hB⟩
theorem IR.nil (w : World) : IR w (.slice none 0 0) [] := ⟨none, 0, rfl, Src.nil _ _⟩
theorem IR.drew {w : World} {v : Value} {l : List Int} (h : IR w v l) : IR w.drew v l := h
theorem IR.drewN {w : World} {v : Value} {l : List Int} (h : IR w v l) (n : Nat) : IR (w.drewN n) v l := h
theorem IR.alloc {w : World} {v : Value} {l : List Int} (h : IR w v l) (o : Obj) : IR (w.alloc o) v l := h.below ((Below.refl w.heap.size _).alloc (Nat.le_refl _) _) (Nat.le_refl _)
theorem IR.one {w : World} {g : Nat} {t : TypeId} {x : Int} (h : Blk w g t #[.int .i64 x]) : IR w (.slice (some ⟨g, 0, none⟩) 1 1) [x] := ⟨_, _, rfl, Blk.srcAll (cs := #[.int .i64 x]) h rfl⟩
theorem Blk.setCell {w : World} {g : Nat} {e : TypeId} {cs : Array Value} (h : Blk w g e cs) {p : Addr} (v : Value) (hp : g ≠ p.block) : Blk (w.setCell p v) g e cs := (heap_setCell_other w p g v hp).trans h
theorem IR.two {w : World} {g : Nat} {t : TypeId} {x y : Int} (h : Blk w g t #[.int .i64 x, .int .i64 y]) : IR w (.slice (some ⟨g, 0, none⟩) 2 2) [x, y] := ⟨_, _, rfl, Blk.srcAll (cs := #[.int .i64 x, .int .i64 y]) h rfl⟩
theorem IR.three {w : World} {g : Nat} {t : TypeId} {x y z : Int} (h : Blk w g t #[.int .i64 x, .int .i64 y, .int .i64 z]) : IR w (.slice (some ⟨g, 0, none⟩) 3 3) [x, y, z] := ⟨_, _, rfl, Blk.srcAll (cs := #[.int .i64 x, .int .i64 y, .int .i64 z]) h rfl⟩
theorem IR.setCell {w : World} {v : Value} {l : List Int} (h : IR w v l) {p : Addr} (u : Value) (hp : ∀ A n c, v = .slice A n c → ∀ a, A = some a → a.block ≠ p.block) : IR (w.setCell p u) v l := by
 obtain ⟨A, c, e, hs⟩ := h
 exact ⟨A, c, e, hs.setCell u (hp _ _ _ e)⟩
theorem IR.of {w : World} {A : Option Addr} {n c : Nat} {l : List Int} (h : Src w A n (i64s l)) (hn : l.length = n) : IR w (.slice A n c) l := by
 subst hn
 exact ⟨A, c, rfl, h⟩

/-- an environment's, a type's and a row's value -/
def SigV (w : World) (v : Value) (s : SigD) : Prop := ∃ a b, v = .agg #[a, b] ∧ Ints w a s.inn ∧ Ints w b s.out
def EnvV (w : World) (v : Value) (e : EnvD) : Prop := ∃ a b d, v = .agg #[a, .int .i64 e.imports, b, d, .bool e.mem] ∧ Structs 2 SigC w a e.sigs ∧ Ints w b e.globals ∧ Bools w d e.muts
def CodeV (w : World) (v : Value) (c : CodeD) : Prop := ∃ a b d, v = .agg #[.int .i64 c.op, .int .u64 (c.n : Int), a, b, d] ∧ c.ok ∧ Ints w a c.args ∧ Ints w b c.outs ∧ Ints w d c.to
def RowV (w : World) (v : Value) (x : RowD) : Prop := ∃ a b p d, v = .agg #[a, b, .int .i64 x.places, p, d] ∧ Ints w a x.sig.inn ∧ Ints w b x.sig.out ∧ Ints w p x.params ∧ Structs 5 CodeC w d x.code
theorem SigV.below {w w' : World} {B : Nat} {r : Value} {s : SigD} (h : SigV w r s) (hb : Below B w w') (hB : w.heap.size ≤ B) : SigV w' r s := by
 obtain ⟨a, b, e, h1, h2⟩ := h
 exact ⟨a, b, e, h1.below hb hB, h2.below hb hB⟩
theorem CodeV.below {w w' : World} {B : Nat} {r : Value} {c : CodeD} (h : CodeV w r c) (hb : Below B w w') (hB : w.heap.size ≤ B) : CodeV w' r c := by
 obtain ⟨a, b, d, e, h0, h1, h2, h3⟩ := h
 exact ⟨a, b, d, e, h0, h1.below hb hB, h2.below hb hB, h3.below hb hB⟩
theorem EnvV.below {w w' : World} {B : Nat} {r : Value} {e : EnvD} (h : EnvV w r e) (hb : Below B w w') (hB : w.heap.size ≤ B) : EnvV w' r e := by
 obtain ⟨a, b, d, e', h1, h2, h3⟩ := h
 exact ⟨a, b, d, e', h1.below hb hB (fun r x q => q.below hb hB), h2.below hb hB, h3.below hb hB⟩
theorem RowV.below {w w' : World} {B : Nat} {r : Value} {x : RowD} (h : RowV w r x) (hb : Below B w w') (hB : w.heap.size ≤ B) : RowV w' r x := by
 obtain ⟨a, b, p, d, e', h1, h2, h3, h4⟩ := h
 exact ⟨a, b, p, d, e', h1.below hb hB, h2.below hb hB, h3.below hb hB, h4.below hb hB (fun r x q => q.below hb hB)⟩
end Go.Bk
namespace Go.Bk.Liv
open Go Go.Bk Go.Bk.Num Go.Bk.Mem Go.Proofs.YtgmapikcpnffhaaGreat

def isK (t : Int) : Bool := t == 127 || t == 126
def kindsOk (m : Nat) (l : List Int) : Bool := decide (l.length ≤ m) && l.all isK
def sigOk (s : SigD) : Bool := kindsOk 8 s.inn && kindsOk 8 s.out
def envOk (e : EnvD) : Bool := decide (e.sigs.length ≤ 64 ∧ 0 ≤ e.imports ∧ e.imports ≤ e.sigs.length ∧ e.muts.length = e.globals.length) && (kindsOk 32 e.globals && e.sigs.all sigOk)

/-- what an instruction of a memory's takes and answers -/
def memF (m : Bool) (op : Int) (n : Nat) : Option (List Int × List Int) :=
 if m = false then none
 else if op = 257 then if n ≤ 8589934592 then some ([127], []) else none
 else match acc op with
  | some (k, _, st, _) => if n ≤ 4294967295 then some (if st then ([127, k], []) else ([127], [k])) else none
  | none => if op = 63 then if n = 0 then some ([], [127]) else none else if op = 64 then if n = 0 then some ([127], [127]) else none else none
/-- what an instruction takes and answers; none: it may not be -/
def formV (e : EnvD) (s : SigD) (op : Int) (n : Nat) : Option (List Int × List Int) :=
 if op = 256 then some ([], [0])
 else if op = 272 then if n = 0 then some ([0], [0]) else none
 else if op = 273 ∨ op = 277 ∨ op = 258 then if n = 0 then some ([], []) else none
 else if op = 274 ∨ op = 275 then if n = 0 then some ([127], []) else none
 else if op = 276 then if n = 0 then some (s.out, []) else none
 else if op = 27 then if n = 0 then some ([0, 0, 127], [0]) else none
 else if op = 16 then (e.sigs[n]?).map fun g => (g.inn, g.out)
 else if op = 35 then (e.globals[n]?).map fun g => ([], [g])
 else if op = 36 then match e.globals[n]?, e.muts[n]? with
  | some g, some true => some ([g], [])
  | _, _ => none
 else if (grpOf op).isSome then if n = 0 then some (sigL op, [sigO op]) else none
 else memF e.mem op n
/-- how many targets there may be -/
def toLo (op : Int) : Int := if op = 273 ∨ op = 274 ∨ op = 275 then 1 else 0
def toHi (op : Int) : Int := if op = 273 ∨ op = 274 then 1 else if op = 275 then 65 else 0
def within (n : Int) (l : List Int) : Bool := l.all fun x => decide (0 ≤ x ∧ x < n)
def codeOk (e : EnvD) (r : RowD) (c : CodeD) : Bool := match formV e r.sig c.op c.n with
 | none => false
 | some (i, o) => decide (c.args.length = i.length ∧ c.outs.length = o.length ∧ toLo c.op ≤ c.to.length ∧ (c.to.length : Int) ≤ toHi c.op) && (within r.places c.args && (within r.places c.outs && (decide c.outs.Nodup && within r.code.length c.to)))

/-- the instructions that may come behind one -/
def nextOf (c : CodeD) (i : Nat) : List Int :=
 if c.op = 276 ∨ c.op = 277 then [] else if c.op = 273 ∨ c.op = 275 then c.to else if c.op = 274 then [(i : Int) + 1, c.to.headD 0] else [(i : Int) + 1]
/-- no circle without a tick: some rank falls -/
def Ranked (r : RowD) : Prop := ∃ rk : Nat → Nat, ∀ i c (k : Nat), r.code[i]? = some c → c.op ≠ 258 → (k : Int) ∈ nextOf c i → rk k < rk i
/-- a row that may be -/
structure CheckP (e : EnvD) (r : RowD) : Prop where
 env : envOk e = true
 sig : sigOk r.sig = true
 n1 : 1 ≤ r.code.length
 n2 : r.code.length ≤ 4096
 p1 : 0 ≤ r.places
 p2 : r.places ≤ 4096
 par : r.params.length = r.sig.inn.length
 pin : within r.places r.params = true
 pun : r.params.Nodup
 code : ∀ c ∈ r.code, codeOk e r c = true
 first : ∀ c, r.code[0]? = some c → c.op = 258
 last : ∀ c, r.code[r.code.length - 1]? = some c → c.op = 273 ∨ c.op = 275 ∨ c.op = 276 ∨ c.op = 277
 rank : Ranked r

/-- a place is live ahead of an instruction -/
inductive Live (r : RowD) : Nat → Int → Prop
 | arg {i : Nat} {c : CodeD} {p : Int} : r.code[i]? = some c → p ∈ c.args → Live r i p
 | step {i k : Nat} {c : CodeD} {p : Int} : r.code[i]? = some c → (k : Int) ∈ nextOf c i → Live r k p → p ∉ c.outs → Live r i p
/-- a place is live behind an instruction -/
def LiveB (r : RowD) (i : Nat) (p : Int) : Prop := ∃ c, r.code[i]? = some c ∧ ∃ k : Nat, (k : Int) ∈ nextOf c i ∧ Live r k p

/-- a list, rising, of just those numbers -/
def IsSet (l : List Int) (P : Int → Prop) : Prop := l.Pairwise (· < ·) ∧ ∀ x, x ∈ l ↔ P x
theorem IsSet.one {l m : List Int} {P : Int → Prop} (h : IsSet l P) (k : IsSet m P) : l = m := by
 have hp : l.Perm m := by
  rw [List.perm_iff_count]
  have n1 : l.Nodup := h.1.imp (fun h => by omega)
  have n2 : m.Nodup := k.1.imp (fun h => by omega)
  intro a
  rw [n1.count, n2.count]
  by_cases ha : a ∈ l
  ·rw [if_pos ha, if_pos ((k.2 a).2 ((h.2 a).1 ha))]
  ·rw [if_neg ha, if_neg (fun hm => ha ((h.2 a).2 ((k.2 a).1 hm)))]
 exact hp.eq_of_pairwise (le := fun a b => a ≤ b) (fun a b _ _ h1 h2 => by omega) (h.1.imp (fun h => by omega)) (k.1.imp (fun h => by omega))
end Go.Bk.Liv

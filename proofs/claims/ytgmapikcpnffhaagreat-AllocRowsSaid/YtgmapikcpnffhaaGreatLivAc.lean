/-
 live.Across: what is live behind some call.
 Conditions: none.
-/
import Derived.Test.YtgmapikcpnffhaaGreatLivAh
namespace Go.Bk.Liv
open Go Go.Bk
/-- live behind some call, and none of its Outs -/
def AcrossP (r : RowD) (x : Int) : Prop := ∃ i c, r.code[i]? = some c ∧ c.op = 16 ∧ LiveB r i x ∧ x ∉ c.outs
/-- what was gathered of the instructions below k -/
structure AcS (r : RowD) (k : Nat) (s : List Int) : Prop where
 nd : s.Nodup
 sn : ∀ x ∈ s, AcrossP r x
 cp : ∀ (i : Nat) c x, i < k → r.code[i]? = some c → c.op = 16 → LiveB r i x → x ∉ c.outs → x ∈ s
theorem AcS.small {e : EnvD} {r : RowD} {k : Nat} {s : List Int} (h : AcS r k s) (hc : CheckP e r) : s.length ≤ 4096 := by
 have h1 := hc.p1
 have h2 := hc.p2
 have := nodup_range_len (m := r.places.toNat) h.nd (fun x hx => by
  obtain ⟨i, c, _, _, hl, _⟩ := h.sn x hx
  have := hl.range hc
  omega)
 omega
theorem AcS.start (r : RowD) : AcS r 0 [] := ⟨by simp, fun x h => by simp at h, fun i c x h => by omega⟩
theorem AcS.ins {r : RowD} {k : Nat} {s : List Int} {p : Int} (h : AcS r k s) (hp : AcrossP r p) : AcS r k (ins s p) :=
 ⟨ins_nodup h.nd, fun x hx => by
  rcases mem_ins.1 hx with hx | hx
  ·exact h.sn x hx
  ·rw [hx]; exact hp, fun i c x h1 h2 h3 h4 h5 => mem_ins.2 (.inl (h.cp i c x h1 h2 h3 h4 h5))⟩
theorem AcS.next {r : RowD} {k : Nat} {s : List Int} {c : CodeD} (h : AcS r k s) (hc : r.code[k]? = some c) (hall : c.op = 16 → ∀ x, LiveB r k x → x ∉ c.outs → x ∈ s) : AcS r (k + 1) s :=
 ⟨h.nd, h.sn, fun i c' x h1 h2 h3 h4 h5 => by
  by_cases e : i = k
  ·subst e
   rw [hc] at h2
   injection h2 with h2
   subst h2
   exact hall h3 x h4 h5
  ·exact h.cp i c' x (by omega) h2 h3 h4 h5⟩
theorem AcS.all {r : RowD} {s : List Int} (h : AcS r r.code.length s) (x : Int) : x ∈ s ↔ AcrossP r x :=
 ⟨h.sn x, fun ⟨i, c, h1, h2, h3, h4⟩ => h.cp i c x (List.getElem?_eq_some_iff.1 h1).1 h1 h2 h3 h4⟩
end Go.Bk.Liv
namespace Go.Proofs.YtgmapikcpnffhaaGreat
open Go.RowKit Go.Bk Go.Bk.Liv
set_option linter.unusedVariables false
set_option linter.unusedSimpArgs false

theorem Looked.below {r : RowD} {w w' : World} {base gF gA gB : Nat} {bA bB : List Nat} {A B : Sets} (h : Looked r w base gF gA gB bA bB A B) {N : Nat} (hb : Below N w w') (hN : w.heap.size ≤ N) : Looked r w' base gF gA gB bA bB A B :=
 { h with f := h.f.below hb (Nat.lt_of_lt_of_le h.f.lt hN), a := h.a.below hb (Nat.lt_of_lt_of_le h.a.lt hN), b := h.b.below hb (Nat.lt_of_lt_of_le h.b.lt hN), ma := fun i b s q1 q2 => (h.ma i b s q1 q2).below hb (Nat.lt_of_lt_of_le (h.ma i b s q1 q2).lt hN), mb := fun i b s q1 q2 => (h.mb i b s q1 q2).below hb (Nat.lt_of_lt_of_le (h.mb i b s q1 q2).lt hN) }
def AcRel (r : RowD) (N bS : Nat) (w1 : World) (k : Nat) (wr : World) : Prop := ∃ s, IM wr bS (setKV s) ∧ AcS r k s ∧ Below N w1 wr
def AcRel2 (r : RowD) (N bS : Nat) (w1 : World) (k : Nat) (c : CodeD) (t : List Int) (bj rI gC : Nat) (cc : Array Value) (s : List Int) (L : KV) (wr : World) : Prop :=
 IM wr bS (setKV s) ∧ AcS r k s ∧ Below N w1 wr ∧ IT wr bj rI (setKV t) L ∧ (∀ x ∈ t, x ∉ L.map (·.1) → x ∉ c.outs → x ∈ s) ∧ (∀ x ∈ L.map (·.1), x ∈ t) ∧ N ≤ rI ∧ Blk wr gC 48 cc
section
variable {r : RowD} {N bS k bj rI gC : Nat} {w1 w w' : World} {c : CodeD} {t s : List Int} {cc : Array Value} {L : KV}
theorem AcRel2.start (h1 : IM w bS (setKV s)) (h2 : AcS r k s) (h3 : Below N w1 w) (h4 : Blk w gC 48 cc) (hz : w.heap.size = rI) (hN : N ≤ rI) (hg : w.grownBy w' none) (hI : IT w' bj rI (setKV t) (setKV t)) : AcRel2 r N bS w1 k c t bj rI gC cc s (setKV t) w' := by
 subst hz
 have e : (setKV t).map (·.1) = t := by simp [setKV, Function.comp_def]
 exact ⟨h1.grown hg (by simp), h2, below_grown h3 hg hN (fun g e => by cases e), hI, fun x hx hn => absurd (by rw [e]; exact hx) hn, fun x hx => by rw [e] at hx; exact hx, hN, h4.grown hg (by simp)⟩
theorem AcRel2.done (h : AcRel2 r N bS w1 k c t bj rI gC cc s [] w) (hc : r.code[k]? = some c) (ht : ∀ x, x ∈ t ↔ LiveB r k x) : AcRel r N bS w1 (k + 1) w := by
 obtain ⟨h1, h2, h3, h4, h5, h6, h7, h8⟩ := h
 exact ⟨s, h1, h2.next hc (fun _ x hx ho => h5 x ((ht x).2 hx) (by simp) ho), h3⟩
theorem AcRel2.turn {L1 L2 : KV} {p : Int} {x : Value} (h : AcRel2 r N bS w1 k c t bj rI gC cc s (L1 ++ (p, x) :: L2) w) (hI : IT w' bj rI (setKV t) (L1 ++ L2)) (hg : w.grownBy w' (some rI)) (hN : N ≤ w.heap.size) :
  IM w' bS (setKV s) ∧ AcS r k s ∧ Below N w1 w' ∧ IT w' bj rI (setKV t) (L1 ++ L2) ∧ p ∈ t ∧ Blk w' gC 48 cc ∧ (∀ y ∈ t, y ∉ (L1 ++ L2).map (·.1) → y ≠ p → y ∉ c.outs → y ∈ s) ∧ (∀ y ∈ (L1 ++ L2).map (·.1), y ∈ t) ∧ N ≤ rI := by
 obtain ⟨h1, h2, h3, h4, h5, h6, h7, h8⟩ := h
 exact ⟨h1.grown hg (fun e => by injection e with e; exact it_ne_im h4 h1 e.symm), h2, below_grown h3 hg hN (fun g e => by injection e with e; omega), hI, h6 p (by simp), h8.grown hg (fun e => by injection e with e; exact it_blk_ne h4 h8 e), fun y hy hn hp ho => h5 y hy (kv_out hn hp) ho, fun y hy => h6 y (kv_in hy), h7⟩
end
def AcPost (e : EnvD) (r : RowD) (w : World) (en : Ending) (w' : World) : Prop :=
 (¬ CheckP e r ∧ en = .returned (.tuple #[.slice none 0 0, .int .i64 6]) ∧ Below w.heap.size w w') ∨
 (CheckP e r ∧ ∃ P A c, en = .returned (.tuple #[.slice A P.length c, .int .i64 0]) ∧ w'.ownsRow w.heap.size 3 1 (.slice A P.length c) P.length (i64s P) ∧ IsSet P (AcrossP r) ∧ Below w.heap.size w w')
set_option maxRecDepth 100000 in
set_option maxHeartbeats 4000000 in
theorem Across_any (e : EnvD) (r : RowD) (ve vr : Value) (w : World) (he : EnvV w ve e) (hr : RowV w vr r) : Calls Tryz.prog 29 #[ve, vr] w (AcPost e r w) := by
 have HE := Lib.hid he
 have HR := Lib.hid hr
 obtain ⟨va, vb, vd, rfl, h1, h2, h3⟩ := he
 obtain ⟨vp, vq, vr, vs, rfl, h4, h5, h6, h7⟩ := hr
 obtain ⟨Ac, cc, rfl, _⟩ := h7.len
 obtain ⟨_, l7, l7'⟩ := h7.lenV
 have H7 := Lib.hid h7
 clear h1 h2 h3 h4 h5 h6 h7
 have HB0 := Lib.hid (al2 w (.cells #[va, .int .i64 e.imports, vb, vd, .bool e.mem] 26) (.cells #[vp, vq, .int .i64 r.places, vr, .slice Ac r.code.length cc] 31))
 have KR0 := Lib.hid (Blk.newAt (w.alloc (.cells #[va, .int .i64 e.imports, vb, vd, .bool e.mem] 26)) (N := w.heap.size + 1) 31 #[vp, vq, .int .i64 r.places, vr, .slice Ac r.code.length cc] (by simp))
 go_enter Tryz.func29, Tryz.ntmps29
 go_wp2_with fail
 (with_reducible refine (look_any e r _ _ _ (HE.out.below HB0.out (Nat.le_refl _)) (HR.out.below HB0.out (Nat.le_refl _))).mono ?_)
 rintro en w1 (⟨hnc, rfl, hb⟩ | ⟨hc, gF, gA, gB, bA, bB, A, B, rfl, hL, hb⟩)
 ·have HB := Lib.hid (HB0.out.trans (hb.mono HB0.out.size))
  have HNC := Lib.hid hnc
  clear hnc hb
  go_wp2
  go_ret2
  exact .inl ⟨HNC.out, rfl, HB.out⟩
 ·have HB := Lib.hid (HB0.out.trans (hb.mono HB0.out.size))
  have KR1 := Lib.hid (KR0.out.below hb KR0.out.lt)
  have HC := Lib.hid hc
  have HL := Lib.hid hL
  obtain ⟨n, hn⟩ : ∃ n, r.code.length = n := ⟨_, rfl⟩
  have hn1 : n ≤ 4096 := by have := hc.n2; omega
  have hzz := hb.size
  simp at hzz
  obtain ⟨r0, r1, r2, r3, r4⟩ := blk5 (KR1.out.alloc (.map #[] 0))
  rw [hn] at r4
  have HN := Lib.hid hn
  clear hc hL hb hn r0 r1 r2 r3
  have hmm : ∀ w, (Instr.makeMap 113 none).run Tryz.prog w = .ok (.map (some w.heap.size)) (w.alloc (.map #[] 0)) := fun w => by simp [Instr.makeMap]
  go_wp2_with fail
  clear hmm
  have HI := Lib.hid (show AcRel r w1.heap.size w1.heap.size w1 0 (w1.alloc (.map #[] 0)) from ⟨[], IM.new w1, AcS.start r, (Below.refl _ _).alloc (Nat.le_refl _) _⟩)
  clear r4
  go_loopw [25] (fun i wr => ∃ k : Nat, k ≤ n ∧ i = .int .i64 k ∧ Hid (AcRel r w1.heap.size w1.heap.size w1 k wr)) (fun i _ => n - (intOf i).toNat)
  case atStart => exact ⟨0, by omega, rfl, HI⟩
  case round =>
   clear HI
   obtain ⟨k, hk, rfl, IM1⟩ := hrel
   obtain ⟨wa, rfl⟩ : ∃ wa : World, wa = wr := ⟨_, rfl⟩
   by_cases hlt : k < n
   ·have hlt' : decide ((k : Int) < n) = true := by simp; omega
    have hlt2 : (k : Int) < n := by omega
    obtain ⟨s, m1, m2, m3⟩ := IM1.out
    obtain ⟨c, hck⟩ : ∃ c, r.code[k]? = some c := ⟨_, List.getElem?_eq_getElem (by rw [HN.out]; exact hlt)⟩
    have hba : Below w.heap.size w wa := HB.out.trans (m3.mono HB.out.size)
    obtain ⟨gb, go, p, q, tt, rfl, hgb2, g0, g1, g2, g3, g4, s0, s1, s2, s3⟩ := H7.out.code hck
    replace g0 := (hba.cell (p := ⟨gb, _, none⟩) hgb2).trans g0
    replace g1 := (hba.cell (p := ⟨gb, _, none⟩) hgb2).trans g1
    replace g2 := (hba.cell (p := ⟨gb, _, none⟩) hgb2).trans g2
    replace g3 := (hba.cell (p := ⟨gb, _, none⟩) hgb2).trans g3
    replace g4 := (hba.cell (p := ⟨gb, _, none⟩) hgb2).trans g4
    have hsz := hba.size
    have hgl : gb < wa.heap.size := by omega
    have hs3 := m3.size
    obtain ⟨pA, pc, rfl⟩ := s1.shape
    obtain ⟨qA, qc, rfl⟩ := s2.shape
    obtain ⟨tA, tc, rfl⟩ := s3.shape
    obtain ⟨_, _, _, _, hoL⟩ := s2.len
    have HOL := Lib.hid (show c.outs.length ≤ 9223372036854775807 by omega)
    have HOI := Lib.hid s2.ir
    have HCK := Lib.hid hck
    have HBA := Lib.hid hba
    have hmx : IM (wa.alloc (.cells #[.int .i64 c.op, .int .u64 (c.n : Int), .slice pA c.args.length pc, .slice qA c.outs.length qc, .slice tA c.to.length tc] 48)) w1.heap.size (setKV s) := m1.alloc _
    have HMX := Lib.hid hmx
    have HM2 := Lib.hid m2
    have HM3 := Lib.hid (m3.alloc hs3 (.cells #[.int .i64 c.op, .int .u64 (c.n : Int), .slice pA c.args.length pc, .slice qA c.outs.length qc, .slice tA c.to.length tc] 48))
    have HKC := Lib.hid (Blk.newAt wa (N := wa.heap.size) 48 #[.int .i64 c.op, .int .u64 (c.n : Int), .slice pA c.args.length pc, .slice qA c.outs.length qc, .slice tA c.to.length tc] rfl)
    clear m1 m2 m3 s0 s1 s2 s3 hoL hck hba hmx hsz IM1
    by_cases hop : c.op = 16
    ·have ho' : (c.op != 16) = false := by simp [hop]
     have ho2 : (c.op == 16) = true := by simp [hop]
     have HOP := Lib.hid hop
     obtain ⟨bj, hbj⟩ : ∃ bj, bB[k]? = some bj := ⟨_, List.getElem?_eq_getElem (by rw [HL.out.lb, HL.out.s.lB, HN.out]; exact hlt)⟩
     obtain ⟨t, ht⟩ : ∃ t, B[k]? = some t := ⟨_, List.getElem?_eq_getElem (by rw [HL.out.s.lB, HN.out]; exact hlt)⟩
     have hL2 := HL.out.below HM3.out (Nat.le_refl _)
     have f0 := hL2.f.cell 1
     have f2 := hL2.b.cell k
     simp at f0
     have e0 : (mapsV bB).toArray[k]? = some (.map (some bj)) := by simp [mapsV, hbj]
     rw [e0] at f2
     rw [HN.out] at f0
     have y2 := hL2.f.lt
     have y4 := hL2.b.lt
     have hmj := Lib.hid (hL2.mb k bj t hbj ht)
     have HT := Lib.hid (fun x => HL.out.eB k t x ht)
     have HBJ := Lib.hid (HL.out.mb k bj t hbj ht).lt
     clear hL2 e0 hbj ht hop
     go_wp2_with (at_range; refine wp_range _ rfl _ 113 rfl 3 4 Tryz.underlying113 bj (setKV t) rfl hmj.out ?_)
     rintro w4 hI hg hz
     have HI := Lib.hid (AcRel2.start (c := c) (rI := wa.heap.size + 1) HMX.out HM2.out HM3.out HKC.out (by simp) (by omega) hg hI)
     clear hI hg hz hmj f0 f2 y2 y4 g0 g1 g2 g3 g4 HMX HM2 HM3 HKC
     go_wp2_with fail
     go_loopw [] (fun wr => ∃ (s : List Int) (L : KV), Hid (AcRel2 r w1.heap.size w1.heap.size w1 k c t bj (wa.heap.size + 1) wa.heap.size #[.int .i64 c.op, .int .u64 (c.n : Int), .slice pA c.args.length pc, .slice qA c.outs.length qc, .slice tA c.to.length tc] s L wr)) (fun wr => wr.rangeLeft bj (wa.heap.size + 1))
     case atStart => exact ⟨_, _, HI⟩
     case round =>
      clear HI
      obtain ⟨s, L, IV⟩ := hrel
      obtain ⟨wi, rfl⟩ : ∃ wi : World, wi = wr := ⟨_, rfl⟩
      have HLE := Lib.hid IV.out.2.2.2.1.left
      have hni := IV.out.2.2.1.size
      go_wp2_with (at_next; refine wp_next _ rfl _ rfl bj (wa.heap.size + 1) (setKV t) L rfl IV.out.2.2.2.1 ?_ ?_)
      ·rintro rfl
       have HDN := Lib.hid (IV.out.done HCK.out HT.out)
       clear IV HLE
       go_wp2
       exact ⟨⟨k + 1, by omega, by simp, HDN⟩, by simp [intOf]; omega⟩
      ·rintro L1 p x L2 w5 rfl hI2 hg2 hz2 hen
       obtain ⟨t1, t2, t3, t4, t5, t6, t7, t8, t9⟩ := IV.out.turn hI2 hg2 hni
       have f3 := t6.cell 3
       simp at f3
       have y3 := t6.lt
       have hn5 := t3.size
       have T1 := Lib.hid t1
       have T2 := Lib.hid t2
       have T3 := Lib.hid t3
       have T4 := Lib.hid t4
       have T5 := Lib.hid t5
       have T6 := Lib.hid t6
       have T7 := Lib.hid t7
       have T8 := Lib.hid t8
       have T9 := Lib.hid t9
       have hob := Lib.hid (HB.out.trans (t3.mono HB.out.size))
       clear t1 t2 t3 t4 t5 t6 t7 t8 t9 hI2 hg2 hz2 IV
       go_wp2_with fail
       (with_reducible refine (Contains_any _ c.outs p _ (HOI.out.below hob.out (Nat.le_refl _)) HOL.out).mono ?_)
       rintro en w6 ⟨rfl, rfl⟩
       by_cases ho : p ∈ c.outs
       ·rw [decide_eq_true ho]
        have HO := Lib.hid ho
        clear ho hen
        go_wp2
        refine ⟨⟨s, L1 ++ L2, Lib.hid ⟨T1.out, T2.out, T3.out, T4.out, fun y hy hn ho => ?_, T8.out, T9.out, T6.out⟩⟩, ?_⟩
        ·by_cases hp : y = p
         ·subst hp; exact absurd HO.out ho
         ·exact T7.out y hy hn hp ho
        ·rw [HLE.out, T4.out.left]; simp
       ·rw [decide_eq_false ho]
        have HO := Lib.hid ho
        have HAP := Lib.hid (show AcrossP r p from ⟨k, c, HCK.out, HOP.out, (HT.out p).1 T5.out, ho⟩)
        have hsl := T2.out.small HC.out
        clear ho hen
        go_wp2_with fail
        (with_reducible refine (Add_any w1.heap.size s [p] _ _ (T1.out.alloc _) (IR.one (Blk.new _ _ _)) (by simp) (by omega)).mono ?_)
        rintro en w7 ⟨rfl, h1, h2, h3⟩
        have T4b := Lib.hid ((T4.out.alloc (.cells #[.int .i64 p] 3)).grown h2 (fun e => by injection e with e; have := HBJ.out; omega) (fun e => by injection e with e; exact it_ne_im T4.out T1.out e))
        have T6b := Lib.hid ((T6.out.alloc (.cells #[.int .i64 p] 3)).grown h2 (fun e => by injection e with e; exact T1.out.blk_ne T6.out e))
        have T3b := Lib.hid (below_grown (T3.out.alloc hn5 (.cells #[.int .i64 p] 3)) h2 (by simp; omega) (fun g e => by injection e with e; omega))
        have T1b := Lib.hid h1
        have T2b := Lib.hid (T2.out.ins HAP.out)
        have HRL := Lib.hid T4b.out.left
        clear h1 h2 h3
        go_wp2
        refine ⟨⟨ins s p, L1 ++ L2, Lib.hid ⟨T1b.out, T2b.out, T3b.out, T4b.out, fun y hy hn ho => ?_, T8.out, T9.out, T6b.out⟩⟩, ?_⟩
        ·by_cases hp : y = p
         ·exact mem_ins.2 (.inr hp)
         ·exact mem_ins.2 (.inl (T7.out y hy hn hp ho))
        ·rw [HLE.out, HRL.out]; simp
    ·have ho' : (c.op != 16) = true := by simp [hop]
     have HOP := Lib.hid hop
     have HNX := Lib.hid (show AcRel r w1.heap.size w1.heap.size w1 (k + 1) (wa.alloc (.cells #[.int .i64 c.op, .int .u64 (c.n : Int), .slice pA c.args.length pc, .slice qA c.outs.length qc, .slice tA c.to.length tc] 48)) from ⟨s, HMX.out, HM2.out.next HCK.out (fun e => absurd e hop), HM3.out⟩)
     clear hop HMX HM2 HM3 HKC
     go_wp2
     exact ⟨⟨k + 1, by omega, by simp, HNX⟩, by simp [intOf]; omega⟩
   ·have hlt' : decide ((k : Int) < n) = false := by simp; omega
    have hkn : k = n := by omega
    subst hkn
    obtain ⟨s, m1, m2, m3⟩ := IM1.out
    have hsl := m2.small HC.out
    have M1 := Lib.hid m1
    have M2 := Lib.hid m2
    have M3 := Lib.hid m3
    clear IM1 m1 m2 m3
    go_wp2_with fail
    (with_reducible refine (List_any w1.heap.size s _ M1.out M2.out.nd (by omega)).mono ?_)
    rintro en w7 ⟨P, A', c', rfl, h1, h2, hpl, h3⟩
    clear hpl
    have hz7 := (HB.out.trans (M3.out.mono HB.out.size))
    have H1 := Lib.hid (own_mono h1 hz7.size)
    have H2 := Lib.hid h2
    have H3 := Lib.hid (hz7.trans (h3.mono hz7.size))
    clear h1 h2 h3 hz7
    go_wp2
    go_ret2
    have hall := M2.out
    rw [← HN.out] at hall
    exact .inr ⟨HC.out, P, A', c', rfl, H1.out, ⟨H2.out.1, fun x => (H2.out.2 x).trans (hall.all x)⟩, H3.out⟩
end Go.Proofs.YtgmapikcpnffhaaGreat

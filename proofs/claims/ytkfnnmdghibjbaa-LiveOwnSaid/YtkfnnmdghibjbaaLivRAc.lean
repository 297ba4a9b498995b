/-
  The document's answer of what is live behind calls: bellcrankref19.Across.
  Conditions: none.
-/
import Derived.Test.YtkfnnmdghibjbaaLivRPut
namespace Go.Bk.Liv
open Go Go.RowKit Go.Bk
set_option linter.unusedVariables false
set_option linter.unusedSimpArgs false
/-- what the calls ahead of k, and the first n of those behind k, say -/
structure AS (r : RowD) (P k : Nat) (l : List Int) (n : Nat) (f : Nat → Bool) : Prop where
  snd : ∀ p : Nat, p < P → f p = true → AcrossP r p
  req : ∀ (i : Nat) c (p : Nat), i < k → r.code[i]? = some c → c.op = 16 → p < P → LiveB r i p → (p : Int) ∉ c.outs → f p = true
  now : ∀ c (p : Nat), r.code[k]? = some c → c.op = 16 → p < P → (p : Int) ∈ l.take n → (p : Int) ∉ c.outs → f p = true
theorem AS.start (r : RowD) (P : Nat) (l : List Int) : AS r P 0 l 0 (fun _ => false) := ⟨fun p _ h => (by cases h), fun i c p h => by omega, fun c p _ _ _ h => by simp at h⟩
theorem AS.fresh {r : RowD} {P k n : Nat} {l l' : List Int} {f : Nat → Bool} (h : AS r P k l n f) : AS r P k l' 0 f := ⟨h.snd, h.req, fun c p _ _ _ h => by simp at h⟩
theorem AS.next {r : RowD} {P k n : Nat} {l l' : List Int} {f : Nat → Bool} (h : AS r P k l n f) (hl : ∀ c, r.code[k]? = some c → c.op = 16 → (∀ x, x ∈ l ↔ LiveB r k x) ∧ l.length ≤ n) : AS r P (k + 1) l' 0 f :=
  ⟨h.snd, fun i c p hi hc ho hp hb hn => by
    by_cases e : i = k
    · subst e
      have h2 := hl c hc ho
      exact h.now c p hc ho hp ((take_all h2.2).2 ((h2.1 p).2 hb)) hn
    · exact h.req i c p (by omega) hc ho hp hb hn, fun c p _ _ _ h => by simp at h⟩
theorem AS.skip {r : RowD} {P k n : Nat} {l : List Int} {f : Nat → Bool} {c : CodeD} {z : Int} (h : AS r P k l n f) (hc : r.code[k]? = some c) (hz : l[n]? = some z) (ho : z ∈ c.outs) : AS r P k l (n + 1) f :=
  ⟨h.snd, h.req, fun c' p hc' h16 hp hin hn => by
    rw [hc] at hc'
    injection hc' with hc'
    subst hc'
    rcases (take_step hz).1 hin with h1 | h1
    · exact h.now c p hc h16 hp h1 hn
    · rw [h1] at hn; exact absurd ho hn⟩
theorem AS.put {r : RowD} {P k n : Nat} {l : List Int} {f : Nat → Bool} {c : CodeD} {z : Nat} (h : AS r P k l n f) (hc : r.code[k]? = some c) (h16 : c.op = 16) (hz : l[n]? = some (z : Int)) (ho : (z : Int) ∉ c.outs) (hb : LiveB r k z) : AS r P k l (n + 1) (fun q => if q = z then true else f q) :=
  ⟨fun p hp hf => by
    by_cases e : p = z
    · subst e; exact ⟨k, c, hc, h16, hb, ho⟩
    · rw [if_neg e] at hf; exact h.snd p hp hf, fun i c' p hi hc' ho' hp hb' hn => by
      have := h.req i c' p hi hc' ho' hp hb' hn
      rw [this]; simp, fun c' p hc' h16' hp hin hn => by
    rcases (take_step hz).1 hin with h1 | h1
    · have := h.now c' p hc' h16' hp h1 hn
      rw [this]; simp
    · have : p = z := by omega
      simp [this]⟩
theorem AS.done {e : EnvD} {r : RowD} {P n : Nat} {l : List Int} {f : Nat → Bool} (h : AS r P r.code.length l n f) {p : Nat} (hp : p < P) : f p = true ↔ AcrossP r p :=
  ⟨h.snd p hp, fun ⟨i, c, hc, ho, hb, hn⟩ => h.req i c p (List.getElem?_eq_some_iff.1 hc).1 hc ho hp hb hn⟩
theorem AcrossP.range {e : EnvD} {r : RowD} (hc : CheckP e r) {x : Int} (h : AcrossP r x) : 0 ≤ x ∧ x < r.places := by
  obtain ⟨i, c, h1, h2, h3, h4⟩ := h
  exact h3.range hc
end Go.Bk.Liv
namespace Go.Proofs.Ytkfnnmdghibjbaa
open Go.RowKit Go.Bk Go.Bk.Liv
set_option linter.unusedVariables false
set_option linter.unusedSimpArgs false
/-- the row in work, in memory -/
structure AcM (w w1 : World) (gl P : Nat) (f : Nat → Bool) (wi : World) : Prop where
  l : RB 4 wi gl P f
  lo : w1.heap.size ≤ gl
  b : Below w1.heap.size w1 wi
theorem AcM.set {w w1 wi : World} {gl P : Nat} {f : Nat → Bool} (h : AcM w w1 gl P f wi) (p : Nat) : AcM w w1 gl P (fun q => if q = p then true else f q) (wi.setCell ⟨gl, p, none⟩ (.bool true)) :=
  ⟨h.l.set p true, h.lo, h.b.setCell (p := ⟨gl, p, none⟩) h.lo _⟩
theorem AcM.drewN {w w1 wi : World} {gl P : Nat} {f : Nat → Bool} (h : AcM w w1 gl P f wi) (k : Nat) : AcM w w1 gl P f (wi.drewN k) := ⟨h.l, h.lo, below_drewN h.b k⟩
def RAcPost (e : EnvD) (r : RowD) (w : World) (en : Ending) (w' : World) : Prop :=
  (¬ CheckP e r ∧ en = .returned (.tuple #[.slice none 0 0, .int .i64 6]) ∧ Below w.heap.size w w') ∨
  (CheckP e r ∧ ∃ v p, en = .returned (.tuple #[v, .int .i64 0]) ∧ w'.ownsRow w.heap.size 3 1 v p.length (i64s p) ∧ p.length ≤ 4096 ∧ IsSet p (AcrossP r) ∧ Below w.heap.size w w')
theorem rin_q {v : Value} {l : List Int} {x : Int} {w : World} {b : Bool} (hs : IR w v l) (hm : l.length ≤ 9223372036854775806) (hb : decide (x ∈ l) = b) :
    Calls Try.prog 34 #[v, .int .i64 x] w fun e w' => e = .returned (.bool b) ∧ w' = w := by
  subst hb
  exact (rin_any v l x w hs hm).mono fun _ _ h => ⟨h.1, h.2.symm⟩
set_option maxRecDepth 100000 in
set_option maxHeartbeats 8000000 in
theorem rAcross_any (e : EnvD) (r : RowD) (ve vr : Value) (w : World) (he : EnvV w ve e) (hr : RowV w vr r) : Calls Try.prog 20 #[ve, vr] w (RAcPost e r w) := by
  have HE := Lib.hid he
  obtain ⟨va, vb, vd, rfl, h1, h2, h3⟩ := he
  obtain ⟨vp, vq, vr, vs, rfl, h4, h5, h6, h7⟩ := hr
  obtain ⟨Ac, cc, rfl, _⟩ := h7.len
  have H7 := Lib.hid h7
  have HR0 := Lib.hid (show RowV w (.agg #[vp, vq, .int .i64 r.places, vr, .slice Ac r.code.length cc]) r from ⟨vp, vq, vr, _, rfl, h4, h5, h6, h7⟩)
  obtain ⟨n, hn⟩ : ∃ n, r.code.length = n := ⟨_, rfl⟩
  rw [hn] at HR0 ⊢
  have HN := Lib.hid hn
  clear h1 h2 h3 h4 h5 h6 h7 hn
  have HB0 := Lib.hid (al2 w (.cells #[va, .int .i64 e.imports, vb, vd, .bool e.mem] 26) (.cells #[vp, vq, .int .i64 r.places, vr, .slice Ac n cc] 31))
  have KR0 := Lib.hid (Blk.newAt (w.alloc (.cells #[va, .int .i64 e.imports, vb, vd, .bool e.mem] 26)) (N := w.heap.size + 1) 31 #[vp, vq, .int .i64 r.places, vr, .slice Ac n cc] (by simp))
  go_enter Try.func20, Try.ntmps20
  go_wp2_with fail
  (with_reducible refine (rBehind_any e r _ _ _ (HE.out.below HB0.out (Nat.le_refl _)) (HR0.out.below HB0.out (Nat.le_refl _))).mono ?_)
  rintro en w1 (⟨hnc, rfl, hb⟩ | ⟨hc, v, rfl, hT, hb⟩)
  · have HB := Lib.hid (HB0.out.trans (hb.mono HB0.out.size))
    have HNC := Lib.hid hnc
    clear hnc hb
    go_wp2
    go_ret2
    exact .inl ⟨HNC.out, rfl, HB.out⟩
  · have HB := Lib.hid (HB0.out.trans (hb.mono HB0.out.size))
    have HC := Lib.hid hc
    have k1 := KR0.out.below hb KR0.out.lt
    obtain ⟨P, hP⟩ : ∃ P : Nat, r.places = P := ⟨r.places.toNat, by have := hc.p1; omega⟩
    rw [hP] at k1
    have hP4 : P ≤ 4096 := by have := hc.p2; omega
    have hn4 : n ≤ 4096 := by have := hc.n2; have := HN.out; omega
    have HP := Lib.hid hP
    rw [HN.out] at hT
    have HT := Lib.hid hT
    obtain ⟨Av, cv, rfl⟩ := hT.shape
    have KR1 := Lib.hid k1
    obtain ⟨r0, r1, r2, r3, r4⟩ := blk5 k1
    have y1 := k1.lt
    have mk := run_mk (P := Try.prog) 24 4 (.bool false) 1 Try.underlying24 info_bool rfl P (by omega) (by omega)
    clear hb hc hT hP k1 r0 r1 r3 r4
    go_wp2
    have HM0 := Lib.hid (show AcM w w1 w1.heap.size P (fun _ => false) (w1.alloc (.cells (Array.replicate P (.bool false)) 4)) from ⟨RB.new (t := 4) w1 (n := P) false rfl, Nat.le_refl _, (Below.refl _ _).alloc (Nat.le_refl _) _⟩)
    clear mk r2 y1
    go_loopw [9] (fun i wi => ∃ (k : Nat) (f : Nat → Bool), k ≤ n ∧ i = .int .i64 k ∧ Hid (AcM w w1 w1.heap.size P f wi) ∧ Hid (AS r P k [] 0 f)) (fun i _ => n - (intOf i).toNat)
    case atStart => exact ⟨0, _, by omega, rfl, HM0, Lib.hid (AS.start r P _)⟩
    case round =>
      clear HM0
      obtain ⟨k, f, hk, rfl, IM, IS⟩ := hrel
      obtain ⟨r0, r1, r2, r3, r4⟩ := blk5 (KR1.out.below IM.out.b KR1.out.lt)
      have y1 := (KR1.out.below IM.out.b KR1.out.lt).lt
      by_cases hkn : k < n
      · have t1 : decide ((k : Int) < n) = true := by simp; omega
        have t2 : (k : Int) < n := by omega
        obtain ⟨c, hc⟩ : ∃ c, r.code[k]? = some c := ⟨_, List.getElem?_eq_getElem (by rw [HN.out]; exact hkn)⟩
        have HCK := Lib.hid hc
        obtain ⟨gb, go, vp', vq', vt', rfl, hgb, g0, g1, g2, g3, g4, s0, s1, s2, s3⟩ := H7.out.code hc
        obtain ⟨qA, qc, rfl⟩ := s2.shape
        have HOI := Lib.hid s2.ir
        obtain ⟨mo, hmo⟩ : ∃ m, c.outs.length = m := ⟨_, rfl⟩
        obtain ⟨_, _, _, _, hoL⟩ := s2.len
        rw [hmo] at HOI g3 hoL
        have HMO := Lib.hid hmo
        have G0 := Lib.hid g0
        have G3 := Lib.hid g3
        obtain ⟨p, hp⟩ := HT.out.get hkn
        have HPS := Lib.hid hp
        have hpl := hp.small HC.out (fun x hx => hx.range HC.out)
        obtain ⟨m, hm⟩ : ∃ m, p.length = m := ⟨_, rfl⟩
        rw [hm] at hpl
        have HM := Lib.hid hm
        have IS0 := Lib.hid (IS.out.fresh (l' := p))
        clear hc hmo g0 g1 g2 g3 g4 s0 s1 s2 s3 hp hm IS
        go_wp2_with fail
        clear r0 r1 r2 r3 r4 y1
        go_loopw [10] (fun i wi => ∃ (j : Nat) (f : Nat → Bool), j ≤ m ∧ i = .int .i64 j ∧ Hid (AcM w w1 w1.heap.size P f wi) ∧ Hid (AS r P k p j f)) (fun i _ => m - (intOf i).toNat)
        case atStart => exact ⟨0, f, by omega, rfl, IM, IS0⟩
        case round =>
          clear IS0 IM
          obtain ⟨j, f, hj, rfl, IM, IS⟩ := hrel
          have KRr := KR1.out.below IM.out.b KR1.out.lt
          obtain ⟨r0, r1, r2, r3, r4⟩ := blk5 KRr
          have y1 := KRr.lt
          have HBr := Lib.hid (HB.out.trans (IM.out.b.mono HB.out.size))
          have g0 := (HBr.out.cell (p := ⟨gb, _, none⟩) hgb).trans G0.out
          have g3 := (HBr.out.cell (p := ⟨gb, _, none⟩) hgb).trans G3.out
          have y2 : gb < wr.heap.size := by have := HBr.out.size; omega
          obtain ⟨b, o, B, kB, rfl, hb, hcl, hir⟩ := (HT.out.below IM.out.b).first hkn HPS.out
          rw [HM.out] at hcl hir
          have HIR := Lib.hid hir
          clear hir KRr
          by_cases hjm : j < m
          · have t3 : decide ((j : Int) < m) = true := by simp; omega
            have t4 : (j : Int) < m := by omega
            obtain ⟨x, hx⟩ : ∃ x, p[j]? = some x := ⟨_, List.getElem?_eq_getElem (by rw [HM.out]; exact hjm)⟩
            have hlb := (HPS.out.2 x).1 (List.mem_of_getElem? hx)
            have hxr := hlb.range HC.out
            rw [HP.out] at hxr
            obtain ⟨z, rfl⟩ : ∃ z : Nat, x = z := ⟨x.toNat, by omega⟩
            have hzP : (z : Int) < P := hxr.2
            obtain ⟨ab, ao, rfl, hab, hcx⟩ := HIR.out.cell hx
            have y3 := Blk.lt IM.out.l
            have z3 := frz IM.out.l z
            obtain ⟨u3, c3⟩ : ∃ u, wr.cell? ⟨w1.heap.size, z, none⟩ = some u := ⟨_, IM.out.l.cell (by omega)⟩
            have HX := Lib.hid hx
            have HLB := Lib.hid hlb
            clear hx hlb hxr
            by_cases hop : c.op = 16
            · have t5 : (c.op == 16) = true := by simp [hop]
              have HOP := Lib.hid hop
              clear hop
              by_cases ho : (z : Int) ∈ c.outs
              · have HW := Lib.hid (IS.out.skip HCK.out HX.out ho)
                have HO := Lib.hid (decide_eq_true ho)
                clear ho IS
                go_wp2_with fail
                go_quiet ((go_at_call 34; exact Calls.quiet_of_same (rin_q ((HOI.out.below HBr.out (Nat.le_refl _)).drewN _) (by rw [HMO.out]; omega) HO.out)))
                go_wp2
                exact ⟨⟨j + 1, f, by omega, by simp, Lib.hid (IM.out.drewN _), HW⟩, by simp [intOf]; omega⟩
              · have HW := Lib.hid (IS.out.put HCK.out HOP.out HX.out ho HLB.out)
                have HO := Lib.hid (decide_eq_false ho)
                clear ho IS
                go_wp2_with fail
                go_quiet ((go_at_call 34; exact Calls.quiet_of_same (rin_q ((HOI.out.below HBr.out (Nat.le_refl _)).drewN _) (by rw [HMO.out]; omega) HO.out)))
                go_wp2
                exact ⟨⟨j + 1, _, by omega, by simp, Lib.hid ((IM.out.drewN _).set z), HW⟩, by simp [intOf]; omega⟩
            · have t5 : (c.op == 16) = false := by simp [hop]
              have HW := Lib.hid (IS.out.next (l' := []) (fun c' hc' h16 => by rw [HCK.out] at hc'; injection hc' with hc'; subst hc'; exact absurd h16 hop))
              clear hop IS
              go_wp2
              exact ⟨⟨k + 1, f, by omega, by simp, IM, HW⟩, by simp [intOf]; omega⟩
          · have t3 : decide ((j : Int) < m) = false := by simp; omega
            have HW := Lib.hid (IS.out.next (l' := []) (fun c' hc' h16 => ⟨HPS.out.2, by rw [HM.out]; omega⟩))
            clear IS
            go_wp2
            exact ⟨⟨k + 1, f, by omega, by simp, IM, HW⟩, by simp [intOf]; omega⟩
      · have t1 : decide ((k : Int) < n) = false := by simp; omega
        have hkn2 : k = n := by omega
        subst hkn2
        have HSR := Lib.hid IM.out.l.src
        have HBr := Lib.hid (HB.out.trans (IM.out.b.mono HB.out.size))
        go_wp2_with fail
        (with_reducible refine (list_any _ P _ f _ HSR.out hP4).mono ?_)
        rintro en w3 ⟨u, q, rfl, ho, hql, hset, hb3⟩
        have HO := Lib.hid (own_mono ho HBr.out.size)
        have HQ := Lib.hid (show q.length ≤ 4096 by omega)
        have HST := Lib.hid (show IsSet q (AcrossP r) from row_live (e := e) (r := r) hset (fun z hz => by
          have h := IS.out
          rw [← HN.out] at h
          exact h.done (e := e) hz) (fun x hx => by have := hx.range HC.out; rw [HP.out] at this; exact this))
        have HB3 := Lib.hid (HBr.out.trans (hb3.mono HBr.out.size))
        clear ho hql hset hb3
        go_wp2
        go_ret2
        exact .inr ⟨HC.out, u, q, rfl, HO.out, HQ.out, HST.out, HB3.out⟩
end Go.Proofs.Ytkfnnmdghibjbaa

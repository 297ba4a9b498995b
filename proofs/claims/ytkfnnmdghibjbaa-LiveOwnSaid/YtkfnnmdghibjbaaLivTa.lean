/-
  The document's table of what is live: bellcrankref19.table.
  Conditions: the row may be.
-/
import Derived.Test.YtkfnnmdghibjbaaLivRCk3
namespace Go.Bk.Liv
open Go Go.RowKit Go.Bk
set_option linter.unusedVariables false
set_option linter.unusedSimpArgs false
/-- do two rows differ below k -/
def diffs (f g : Nat → Bool) (k : Nat) : Bool := (List.range k).any fun p => f p != g p
theorem diffs_next (f g : Nat → Bool) (k : Nat) : diffs f g (k + 1) = (diffs f g k || (f k != g k)) := by
  unfold diffs
  rw [List.range_succ, List.any_append]
  simp
theorem diffs_no {f g : Nat → Bool} {k : Nat} (h : diffs f g k = false) : ∀ p, p < k → f p = g p := by
  intro p hp
  unfold diffs at h
  rw [List.any_eq_false] at h
  have := h p (List.mem_range.2 hp)
  simpa using this
theorem diffs_yes {f g : Nat → Bool} {k : Nat} (h : diffs f g k = true) : ∃ p, p < k ∧ f p ≠ g p := by
  unfold diffs at h
  rw [List.any_eq_true] at h
  obtain ⟨p, hp, h2⟩ := h
  exact ⟨p, List.mem_range.1 hp, by simpa using h2⟩
/-- a sweep under way, down to the instruction k, in plain words -/
structure TSw (r : RowD) (n P M k : Nat) (b : Bool) (T : Nat → Nat → Bool) : Prop where
  i : TInv r P T
  le : cnt2 n P T ≤ M
  lt : b = true → cnt2 n P T < M
  st : b = false → ∀ j c p, k ≤ j → r.code[j]? = some c → p < P → Fv c j T p = true → T j p = true
theorem TSw.step {r : RowD} {n P M k : Nat} {b : Bool} {T : Nat → Nat → Bool} (h : TSw r n P M (k + 1) b T) (hf : FlowOk r) (hn : r.code.length = n) {c : CodeD} (hc : r.code[k]? = some c) : TSw r n P M k (b || diffs (Fv c k T) (T k) P) (upd T k (Fv c k T)) := by
  have hkn : k < n := by rw [← hn]; exact (List.getElem?_eq_some_iff.1 hc).1
  have hpre := fun p hp => h.i.pre k c p hc hp
  have hle : cnt2 n P (upd T k (Fv c k T)) ≤ cnt2 n P T := cnt2_le hpre
  refine ⟨h.i.step hf hc, Nat.le_trans hle h.le, fun hb => ?_, fun hb => ?_⟩
  · rcases Bool.or_eq_true_iff.1 hb with hb | hb
    · exact Nat.lt_of_le_of_lt hle (h.lt hb)
    · obtain ⟨p, hp, hd⟩ := diffs_yes hb
      exact Nat.lt_of_lt_of_le (cnt2_lt hpre hkn hp hd) h.le
  · have hb1 : b = false := by cases b <;> simp_all
    have hb2 := diffs_no (show diffs (Fv c k T) (T k) P = false by cases hd : diffs (Fv c k T) (T k) P <;> simp_all)
    have same : ∀ j p, p < P → upd T k (Fv c k T) j p = T j p := by
      intro j p hp
      by_cases e : j = k
      · subst e; rw [upd_same]; exact hb2 p hp
      · rw [upd_other e]
    intro j cj p hj hcj hp hF
    rw [Fv_congr hf hcj (T' := T) (fun j _ => same j p hp)] at hF
    rw [same j p hp]
    by_cases e : j = k
    · subst e
      rw [hc] at hcj
      injection hcj with hcj
      subst hcj
      rw [← hb2 p hp]
      exact hF
    · exact h.st hb1 j cj p (by omega) hcj hp hF
end Go.Bk.Liv
namespace Go.Proofs.Ytkfnnmdghibjbaa
open Go.RowKit Go.Bk Go.Bk.Liv
set_option linter.unusedVariables false
set_option linter.unusedSimpArgs false
theorem info_bools : (Try.prog.info? 24).map (fun i => (i.zero, i.size, i.bytes)) = some (some (.slice none 0 0), 1, 24) := by kernel_rfl
theorem one_slice (A : Option Addr) (n c : Nat) : ∀ u ∈ [Value.slice A n c], u.oneCell' = true := by
  intro u hu
  obtain rfl := List.mem_singleton.1 hu
  rfl
section
variable {w w' : World} {base n P : Nat} {v : Value} {T : Nat → Nat → Bool} {gs : List Nat}
theorem TM.other {gl : Nat} {f : Nat → Bool} (h : TM w base v n P T gs) (hg : RB 4 w gl P f) (hn : ∀ x ∈ gs, x ≠ gl) (i : Nat) (u : Value) : TM (w.setCell ⟨gl, i, none⟩ u) base v n P T gs :=
  ⟨own_other h.own (own_ne h.own hg (by decide)), h.len, h.nd, fun j x hx => ⟨(h.rows j x hx).1, blk_other (h.rows j x hx).2 (hn x (List.mem_of_getElem? hx))⟩⟩
theorem TM.at2 {gT c : Nat} (h : TM w base (.slice (some ⟨gT, 0, none⟩) n c) n P T gs) (hn : 0 < n) : base ≤ gT ∧ gT < w.heap.size ∧ (∀ i, w.frozen? ⟨gT, i, none⟩ = false) ∧ (∀ i g, gs[i]? = some g → w.cell? ⟨gT, i, none⟩ = some (.slice (some ⟨g, 0, none⟩) P P)) ∧ (∀ g ∈ gs, g ≠ gT) := by
  obtain ⟨gT', c', e, h1, h2, h3, h4, h5⟩ := h.at_ hn
  injection e with e1 e2 e3
  injection e1 with e1
  injection e1 with e1
  subst e1
  exact ⟨h1, h2, h3, h4, h5⟩
theorem TM.lt_ (h : TM w base v n P T gs) : ∀ x ∈ gs, x < w.heap.size := fun x hx => by
  obtain ⟨i, hi⟩ := List.mem_iff_getElem?.1 hx
  exact Blk.lt (h.rows i x hi).2
end
/-- the table's memory -/
structure TaM (w : World) (n P : Nat) (rv : Array Value) (v : Value) (T : Nat → Nat → Bool) (gs : List Nat) (wi : World) : Prop where
  t : TM wi w.heap.size v n P T gs
  r : Blk wi w.heap.size 31 rv
  b : Below w.heap.size w wi
theorem TaM.keep {w : World} {n P : Nat} {rv : Array Value} {v : Value} {T : Nat → Nat → Bool} {gs : List Nat} {wi wj : World} (h : TaM w n P rv v T gs wi) (hb : Below wi.heap.size wi wj) : TaM w n P rv v T gs wj :=
  ⟨h.t.below hb, h.r.below hb h.r.lt, h.b.trans (hb.mono h.b.size)⟩
/-- with a row in work -/
structure TaW (w : World) (n P : Nat) (rv : Array Value) (v : Value) (T : Nat → Nat → Bool) (gs : List Nat) (gl : Nat) (f : Nat → Bool) (wi : World) : Prop where
  m : TaM w n P rv v T gs wi
  l : RB 4 wi gl P f
  lo : w.heap.size < gl
  ne : ∀ x ∈ gs, x ≠ gl
section
variable {w : World} {n P : Nat} {rv : Array Value} {v : Value} {T : Nat → Nat → Bool} {gs : List Nat} {gl : Nat} {f : Nat → Bool} {wi wj : World}
theorem TaW.start (h : TaM w n P rv v T gs wi) (hb : Below wi.heap.size wi wj) (hl : RB 4 wj gl P f) (hg : wi.heap.size ≤ gl) : TaW w n P rv v T gs gl f wj :=
  ⟨h.keep hb, hl, by have := h.r.lt; omega, fun x hx => by have := h.t.lt_ x hx; omega⟩
theorem TaW.set (h : TaW w n P rv v T gs gl f wi) (p : Nat) (b : Bool) : TaW w n P rv v T gs gl (fun q => if q = p then b else f q) (wi.setCell ⟨gl, p, none⟩ (.bool b)) :=
  ⟨⟨h.m.t.other h.l h.ne p _, blk_other h.m.r (by have := h.lo; omega), h.m.b.setCell (p := ⟨gl, p, none⟩) (by have := h.lo; simp; omega) _⟩, h.l.set p b, h.lo, h.ne⟩
theorem TaW.congr {f' : Nat → Bool} (h : TaW w n P rv v T gs gl f wi) (he : ∀ q, q < P → f q = f' q) : TaW w n P rv v T gs gl f' wi := ⟨h.m, h.l.congr he, h.lo, h.ne⟩
theorem TaW.drewN (h : TaW w n P rv v T gs gl f wi) (k : Nat) : TaW w n P rv v T gs gl f (wi.drewN k) := ⟨⟨h.m.t.drewN k, h.m.r.drewN k, below_drewN h.m.b k⟩, h.l, h.lo, h.ne⟩
theorem TaW.done {gT c i : Nat} (h : TaW w n P rv (.slice (some ⟨gT, 0, none⟩) n c) T gs gl f wi) (hn : 0 < n) : TaM w n P rv (.slice (some ⟨gT, 0, none⟩) n c) (upd T i f) (gs.set i gl) (wi.setCell ⟨gT, i, none⟩ (.slice (some ⟨gl, 0, none⟩) P P)) := by
  have h2 := h.m.t.at2 hn
  obtain ⟨cur, hk⟩ := own_blk h.m.t.own (g := gT) rfl
  exact ⟨h.m.t.put h.l (Nat.le_of_lt h.lo) h.ne, blk_other h.m.r (blk_ne h.m.r hk (by decide)), h.m.b.setCell (p := ⟨gT, i, none⟩) h2.1 _⟩
end
def TaPost (r : RowD) (n P : Nat) (w : World) (en : Ending) (w' : World) : Prop := ∃ v gs T, en = .returned v ∧ TM w' w.heap.size v n P T gs ∧ (∀ i p, i < n → p < P → (T i p = true ↔ Live r i p)) ∧ Below w.heap.size w w'
set_option maxRecDepth 100000 in
set_option maxHeartbeats 8000000 in
theorem table_any (e : EnvD) (r : RowD) (vr : Value) (n P : Nat) (w : World) (hr : RowV w vr r) (hc : CheckP e r) (hn : r.code.length = n) (hP : r.places = P) : Calls Try.prog 25 #[vr] w (TaPost r n P w) := by
  have hP4 : P ≤ 4096 := by have := hc.p2; omega
  have hn1 : 1 ≤ n := by have := hc.n1; omega
  have hn2 : n ≤ 4096 := by have := hc.n2; omega
  obtain ⟨vp, vq, vs, vd, rfl, h4, h5, h6, h7⟩ := hr
  obtain ⟨Ac, cc, rfl, _⟩ := h7.len
  have H7 := Lib.hid h7
  have HCK := Lib.hid hc
  have HF := Lib.hid hc.flow
  have HR := Lib.hid (show RowV w (.agg #[vp, vq, .int .i64 (P : Int), vs, .slice Ac n cc]) r from ⟨vp, vq, vs, _, by rw [hP, hn], h4, h5, h6, h7⟩)
  rw [hn, hP]
  have HN := Lib.hid hn
  have HP := Lib.hid hP
  have K0 := Lib.hid (Blk.new w 31 #[vp, vq, .int .i64 (P : Int), vs, .slice Ac n cc])
  have mk := run_mk (P := Try.prog) 24 4 (.bool false) 1 Try.underlying24 info_bool rfl P (by omega) (by omega)
  clear h4 h5 h6 h7 hc hn hP
  go_enter Try.func25, Try.ntmps25
  go_wp2
  go_loopw [3, 4] (fun v i wi => ∃ (k : Nat) (gs : List Nat), k ≤ n ∧ i = .int .i64 k ∧ Hid (TM wi w.heap.size v k P (fun _ _ => false) gs) ∧ Hid (Blk wi w.heap.size 31 #[vp, vq, .int .i64 (P : Int), vs, .slice Ac n cc]) ∧ Hid (Below w.heap.size w wi)) (fun _ i _ => n - (intOf i).toNat)
  case atStart => exact ⟨0, [], by omega, rfl, Lib.hid (TM.nil _ _ _ _), K0, Lib.hid ((Below.refl _ _).alloc (Nat.le_refl _) _)⟩
  case round =>
    clear K0
    obtain ⟨k, gs, hk, rfl, IT, IK, IB⟩ := hrel
    obtain ⟨Av, cv, hv, _⟩ := own_shape IT.out.own
    subst hv
    obtain ⟨r0, r1, r2, r3, r4⟩ := blk5 IK.out
    have y1 := IK.out.lt
    have hbz := IB.out.size
    by_cases hkn : k < n
    · have t1 : decide ((k : Int) < n) = true := by simp; omega
      have t2 : (k : Int) < n := by omega
      have IO2 := Lib.hid (own_alloc (own_alloc IT.out.own (.cells (Array.replicate P (.bool false)) 4)) (.cells #[.slice (some ⟨wr.heap.size, 0, none⟩) P P] 24))
      go_wp2_with (at_builtin; refine append_at _ rfl (.tmp 18) (.tmp 22) 58 rfl w.heap.size 24 (.slice none 0 0) 1 24 Try.underlying58 info_bools rfl (by omega) (.slice Av k cv) k (rowsV gs P) rfl IO2.out (some ⟨wr.heap.size + 1, 0, none⟩) 1 1 [.slice (some ⟨wr.heap.size, 0, none⟩) P P] rfl (Blk.srcAll (cs := #[.slice (some ⟨wr.heap.size, 0, none⟩) P P]) (Blk.newAt _ _ _ (by simp)) rfl) (one_slice _ _ _) (by unfold maxLen; omega) (by omega) (by simp; omega) ?_)
      rintro v' w' h1 h2 h3 _
      have IT2 := Lib.hid (((IT.out.alloc (.cells (Array.replicate P (.bool false)) 4)).alloc (.cells #[.slice (some ⟨wr.heap.size, 0, none⟩) P P] 24)).push (g := wr.heap.size) (f := fun _ => false) (Blk.alloc (RB.new (t := 4) wr (n := P) false rfl) _) hbz (fun x hx => by have := IT.out.lt_ x hx; omega) h1 h2)
      have IT3 := Lib.hid (IT2.out.congr (T' := fun _ _ => false) (fun i p _ _ => by
        by_cases e : i = k
        · subst e; rw [upd_same]
        · rw [upd_other e]))
      have IK2 := Lib.hid (((IK.out.alloc (.cells (Array.replicate P (.bool false)) 4)).alloc (.cells #[.slice (some ⟨wr.heap.size, 0, none⟩) P P] 24)).grown h2 (own_ne IO2.out ((IK.out.alloc (.cells (Array.replicate P (.bool false)) 4)).alloc (.cells #[.slice (some ⟨wr.heap.size, 0, none⟩) P P] 24)) (by decide)))
      have IB2 := Lib.hid (below_grown ((IB.out.alloc hbz (.cells (Array.replicate P (.bool false)) 4)).alloc (by simp; omega) (.cells #[.slice (some ⟨wr.heap.size, 0, none⟩) P P] 24)) h2 (by simp; omega) (fun j hj => (IO2.out.lt j hj).1))
      clear h1 h2 h3 IT IK IB IO2 IT2
      go_wp2
      exact ⟨⟨k + 1, _, by omega, by simp, IT3, IK2, IB2⟩, by simp [intOf]; omega⟩
    · have t1 : decide ((k : Int) < n) = false := by simp; omega
      have hkn2 : k = n := by omega
      subst hkn2
      clear mk
      obtain ⟨gT, cT, hv, _⟩ := own_at IT.out.own (by omega)
      injection hv with hv1 hv2 hv3
      subst hv1
      subst hv3
      have HM0 := Lib.hid (show TaM w k P #[vp, vq, .int .i64 (P : Int), vs, .slice Ac k cc] (.slice (some ⟨gT, 0, none⟩) k cv) (fun _ _ => false) gs wr from ⟨IT.out, IK.out, IB.out⟩)
      clear IT IK IB hbz
      go_wp2
      clear r0 r1 r2 r3 r4 y1
      go_loopg [5] (cnt2 k P (fun _ _ => false) * 2 + 1) (fun gk v wi => ∃ (b : Bool) (T : Nat → Nat → Bool) (gs : List Nat), v = .bool b ∧ Hid (TaM w k P #[vp, vq, .int .i64 (P : Int), vs, .slice Ac k cc] (.slice (some ⟨gT, 0, none⟩) k cv) T gs wi) ∧ Hid (TInv r P T) ∧ Hid (b = false → ∀ j c p, r.code[j]? = some c → p < P → Fv c j T p = true → T j p = true) ∧ Hid (cnt2 k P T * 2 + (if b then 1 else 0) = gk))
      case atStart => exact ⟨true, _, gs, rfl, HM0, Lib.hid (TInv.start r P), Lib.hid (fun e => by cases e), Lib.hid rfl⟩
      case round =>
        clear HM0
        obtain ⟨b, T, gs, rfl, IM, II, IS, IG⟩ := hrel
        cases b with
        | false =>
          have HD := Lib.hid (II.out.done HCK.out HP.out (IS.out rfl))
          rw [HN.out] at HD
          go_wp2
          go_ret
          exact ⟨_, gs, T, rfl, IM.out.t, HD.out, IM.out.b⟩
        | true =>
          obtain ⟨M, hM⟩ : ∃ M, cnt2 k P T = M := ⟨_, rfl⟩
          have HK := Lib.hid (show M * 2 + 1 = gk by have := IG.out; rw [hM] at this; simpa using this)
          have HS0 := Lib.hid (show TSw r k P M k false T from ⟨II.out, Nat.le_of_eq hM, (fun e => by cases e), fun _ j c p h1 h2 => by
            have h3 := (List.getElem?_eq_some_iff.1 h2).1
            have h4 := HN.out
            omega⟩)
          obtain ⟨r0, r1, r2, r3, r4⟩ := blk5 IM.out.r
          have y1 := IM.out.r.lt
          have z1 : IntKind.i64.wrap ((k : Int) - 1) = (k : Int) - 1 := IntWalk.i64_in _ (by omega)
          clear hM II IS IG r0 r1 r2 r3
          go_wp2_with fail
          clear r4 y1
          go_loopw [5, 6] (fun tv iv wi => ∃ (q : Nat) (x : Int) (b : Bool) (T : Nat → Nat → Bool) (gs : List Nat), q ≤ k ∧ Hid (x = (q : Int) - 1) ∧ iv = .int .i64 x ∧ tv = .bool b ∧ Hid (TaM w k P #[vp, vq, .int .i64 (P : Int), vs, .slice Ac k cc] (.slice (some ⟨gT, 0, none⟩) k cv) T gs wi) ∧ Hid (TSw r k P M q b T)) (fun _ iv _ => (intOf iv + 1).toNat)
          case atStart => exact ⟨k, _, false, T, gs, by omega, Lib.hid rfl, rfl, rfl, IM, HS0⟩
          case round =>
            clear HS0 IM
            obtain ⟨q, x, b, T, gs, hq, HX, rfl, rfl, IM, IS⟩ := hrel
            rcases Nat.eq_zero_or_pos q with rfl | hpos
            · have hx : x = -1 := by have := HX.out; omega
              subst hx
              clear HX
              go_wp2
              go_roundg (cnt2 k P T * 2 + (if b then 1 else 0))
              case measure =>
                rw [← HK.out]
                have h1 := IS.out.le
                have h2 := IS.out.lt
                cases b with
                | true => have := h2 rfl; simp; omega
                | false => simp; omega
              case rel => exact ⟨b, T, gs, rfl, IM, Lib.hid IS.out.i, Lib.hid (fun e j c p h1 h2 => IS.out.st e j c p (by omega) h1 h2), Lib.hid rfl⟩
            · as_aux_lemma =>
              obtain ⟨k0, rfl⟩ : ∃ k0, q = k0 + 1 := ⟨q - 1, by omega⟩
              have hx : x = (k0 : Int) := by have := HX.out; omega
              subst hx
              have t2 : decide ((0 : Int) ≤ (k0 : Int)) = true := by simp
              have hk0 : k0 < k := by omega
              have hk02 : (k0 : Int) < k := by omega
              have z2 : IntKind.i64.wrap ((k0 : Int) - 1) = (k0 : Int) - 1 := IntWalk.i64_in _ (by omega)
              obtain ⟨c, hc⟩ : ∃ c, r.code[k0]? = some c := ⟨_, List.getElem?_eq_getElem (by rw [HN.out]; exact hk0)⟩
              have HC := Lib.hid hc
              obtain ⟨r0, r1, r2, r3, r4⟩ := blk5 IM.out.r
              have y1 := IM.out.r.lt
              clear hc HX hpos
              go_wp2_with fail
              (with_reducible refine (behind_any r _ _ k0 k P c T _ (HR.out.below IM.out.b (Nat.le_refl _)) IM.out.t.tb HC.out HN.out HP.out hP4 HF.out).mono ?_)
              rintro en w1 ⟨gl, rfl, hgl, hrb, hb⟩
              have IW := Lib.hid (TaW.start IM.out hb hrb hgl)
              clear hgl hrb hb IM r0 r1 r2 r3 r4 y1
              obtain ⟨gb, go, vp', vq', vt', rfl, hgb, g0, g1, g2, g3, g4, s0, s1, s2, s3⟩ := H7.out.code HC.out
              obtain ⟨pA, pc, rfl⟩ := s1.shape
              obtain ⟨qA, qc, rfl⟩ := s2.shape
              have HAI := Lib.hid s1.ir
              have HOI := Lib.hid s2.ir
              obtain ⟨ma, hma⟩ : ∃ m, c.args.length = m := ⟨_, rfl⟩
              obtain ⟨mo, hmo⟩ : ∃ m, c.outs.length = m := ⟨_, rfl⟩
              have hpl := Lib.hid (codeOk_places (HCK.out.code c (List.mem_of_getElem? HC.out)))
              obtain ⟨_, _, _, _, haL⟩ := s1.len
              obtain ⟨_, _, _, _, hoL⟩ := s2.len
              rw [hma] at HAI g2 haL
              rw [hmo] at HOI g3 hoL
              have HMA := Lib.hid hma
              have HMO := Lib.hid hmo
              have G2 := Lib.hid g2
              have G3 := Lib.hid g3
              clear hma hmo g0 g1 g4 s0 s1 s2 s3 g2 g3
              go_wp2_with fail
              go_loopw [8] (fun i wi => ∃ j : Nat, j ≤ mo ∧ i = .int .i64 j ∧ Hid (TaW w k P #[vp, vq, .int .i64 (P : Int), vs, .slice (some ⟨gb, go, none⟩) k cc] (.slice (some ⟨gT, 0, none⟩) k cv) T gs gl (fun q => bh (nextOf c k0) T q && !decide ((q : Int) ∈ c.outs.take j)) wi)) (fun i _ => mo - (intOf i).toNat)
              case atStart => exact ⟨0, by omega, rfl, Lib.hid (IW.out.congr fun q _ => by simp)⟩
              case round =>
                clear IW
                obtain ⟨j, hj, rfl, IW⟩ := hrel
                obtain ⟨r0, r1, r2, r3, r4⟩ := blk5 IW.out.m.r
                have y1 := IW.out.m.r.lt
                have g3 := (IW.out.m.b.cell (p := ⟨gb, _, none⟩) hgb).trans G3.out
                have y2 : gb < wr.heap.size := by have := IW.out.m.b.size; omega
                by_cases hjo : j < mo
                · have t3 : decide ((j : Int) < mo) = true := by simp; omega
                  have t4 : (j : Int) < mo := by omega
                  obtain ⟨x, hx⟩ : ∃ x, c.outs[j]? = some x := ⟨_, List.getElem?_eq_getElem (by rw [HMO.out]; exact hjo)⟩
                  have hxr := hpl.out.2.1 x (List.mem_of_getElem? hx)
                  rw [HP.out] at hxr
                  obtain ⟨z, rfl⟩ : ∃ z : Nat, x = z := ⟨x.toNat, by omega⟩
                  have hzP : (z : Int) < P := hxr.2
                  obtain ⟨ab, ao, rfl, hab, hcl⟩ := (HOI.out.below IW.out.m.b (Nat.le_refl _)).cell hx
                  have y3 := Blk.lt IW.out.l
                  have z3 := frz IW.out.l z
                  obtain ⟨u3, c3⟩ : ∃ u, wr.cell? ⟨gl, z, none⟩ = some u := ⟨_, IW.out.l.cell (by omega)⟩
                  have HW := Lib.hid ((IW.out.set z false).congr (f' := fun q => bh (nextOf c k0) T q && !decide ((q : Int) ∈ c.outs.take (j + 1))) (fun q _ => by
                    have hts := take_step (y := (q : Int)) hx
                    by_cases e : q = z
                    · subst e
                      rw [if_pos rfl, decide_eq_true (hts.2 (.inr rfl))]
                      simp
                    · rw [if_neg e]
                      have : ((q : Int) ∈ c.outs.take (j + 1)) ↔ ((q : Int) ∈ c.outs.take j) := by
                        rw [hts]
                        exact ⟨fun h => h.elim id (fun h => absurd (by omega) e), .inl⟩
                      rw [decide_eq_decide.2 this]))
                  clear IW hx hxr
                  go_wp2
                  exact ⟨⟨j + 1, by omega, by simp, HW⟩, by simp [intOf]; omega⟩
                · have t3 : decide ((j : Int) < mo) = false := by simp; omega
                  have HW0 := Lib.hid (IW.out.congr (f' := fun q => decide ((q : Int) ∈ c.args.take 0) || (bh (nextOf c k0) T q && !decide ((q : Int) ∈ c.outs))) (fun q _ => by
                    rw [List.take_of_length_le (by rw [HMO.out]; omega)]
                    simp))
                  clear IW
                  go_wp2_with fail
                  clear r0 r1 r2 r3 r4 y1 g3 y2 t3
                  go_loopw [9] (fun i wi => ∃ j : Nat, j ≤ ma ∧ i = .int .i64 j ∧ Hid (TaW w k P #[vp, vq, .int .i64 (P : Int), vs, .slice (some ⟨gb, go, none⟩) k cc] (.slice (some ⟨gT, 0, none⟩) k cv) T gs gl (fun q => decide ((q : Int) ∈ c.args.take j) || (bh (nextOf c k0) T q && !decide ((q : Int) ∈ c.outs))) wi)) (fun i _ => ma - (intOf i).toNat)
                  case atStart => exact ⟨0, by omega, rfl, HW0⟩
                  case round =>
                    clear HW0
                    obtain ⟨j, hj, rfl, IW⟩ := hrel
                    obtain ⟨r0, r1, r2, r3, r4⟩ := blk5 IW.out.m.r
                    have y1 := IW.out.m.r.lt
                    have g2 := (IW.out.m.b.cell (p := ⟨gb, _, none⟩) hgb).trans G2.out
                    have y2 : gb < wr.heap.size := by have := IW.out.m.b.size; omega
                    by_cases hja : j < ma
                    · have t3 : decide ((j : Int) < ma) = true := by simp; omega
                      have t4 : (j : Int) < ma := by omega
                      obtain ⟨x, hx⟩ : ∃ x, c.args[j]? = some x := ⟨_, List.getElem?_eq_getElem (by rw [HMA.out]; exact hja)⟩
                      have hxr := hpl.out.1 x (List.mem_of_getElem? hx)
                      rw [HP.out] at hxr
                      obtain ⟨z, rfl⟩ : ∃ z : Nat, x = z := ⟨x.toNat, by omega⟩
                      have hzP : (z : Int) < P := hxr.2
                      obtain ⟨ab, ao, rfl, hab, hcl⟩ := (HAI.out.below IW.out.m.b (Nat.le_refl _)).cell hx
                      have y3 := Blk.lt IW.out.l
                      have z3 := frz IW.out.l z
                      obtain ⟨u3, c3⟩ : ∃ u, wr.cell? ⟨gl, z, none⟩ = some u := ⟨_, IW.out.l.cell (by omega)⟩
                      have HW := Lib.hid ((IW.out.set z true).congr (f' := fun q => decide ((q : Int) ∈ c.args.take (j + 1)) || (bh (nextOf c k0) T q && !decide ((q : Int) ∈ c.outs))) (fun q _ => by
                        have hts := take_step (y := (q : Int)) hx
                        by_cases e : q = z
                        · subst e
                          rw [if_pos rfl, decide_eq_true (hts.2 (.inr rfl))]
                          simp
                        · rw [if_neg e]
                          have : ((q : Int) ∈ c.args.take (j + 1)) ↔ ((q : Int) ∈ c.args.take j) := by
                            rw [hts]
                            exact ⟨fun h => h.elim id (fun h => absurd (by omega) e), .inl⟩
                          rw [decide_eq_decide.2 this]))
                      clear IW hx hxr
                      go_wp2
                      exact ⟨⟨j + 1, by omega, by simp, HW⟩, by simp [intOf]; omega⟩
                    · have t3 : decide ((j : Int) < ma) = false := by simp; omega
                      have HW0 := Lib.hid (IW.out.congr (f' := Fv c k0 T) (fun q _ => by
                        rw [List.take_of_length_le (by rw [HMA.out]; omega)]
                        rfl))
                      clear IW
                      go_wp2_with fail
                      clear r0 r1 r2 r3 r4 y1 g2 y2 t3
                      go_loopw [5, 10] (fun tv i wi => ∃ j : Nat, j ≤ P ∧ i = .int .i64 j ∧ tv = .bool (b || diffs (Fv c k0 T) (T k0) j) ∧ Hid (TaW w k P #[vp, vq, .int .i64 (P : Int), vs, .slice (some ⟨gb, go, none⟩) k cc] (.slice (some ⟨gT, 0, none⟩) k cv) T gs gl (Fv c k0 T) wi)) (fun _ i _ => P - (intOf i).toNat)
                      case atStart => exact ⟨0, by omega, rfl, by simp [diffs], HW0⟩
                      case round =>
                        clear HW0
                        obtain ⟨j, hj, rfl, rfl, IW⟩ := hrel
                        obtain ⟨r0, r1, r2, r3, r4⟩ := blk5 IW.out.m.r
                        have y1 := IW.out.m.r.lt
                        by_cases hjP : j < P
                        · have t3 : decide ((j : Int) < P) = true := by simp; omega
                          have t4 : (j : Int) < P := by omega
                          obtain ⟨gk, hgk⟩ : ∃ gk, gs[k0]? = some gk := ⟨_, List.getElem?_eq_getElem (by rw [IW.out.m.t.len]; exact hk0)⟩
                          have h2 := IW.out.m.t.at2 (by omega)
                          have a1 := h2.2.2.2.1 k0 gk hgk
                          have a2 := h2.2.1
                          have a3 := (IW.out.m.t.rows k0 gk hgk).2.cell hjP
                          have a4 := Blk.lt (IW.out.m.t.rows k0 gk hgk).2
                          have a5 := IW.out.l.cell hjP
                          have a6 := Blk.lt IW.out.l
                          have HDN := Lib.hid (diffs_next (Fv c k0 T) (T k0) j)
                          obtain ⟨u, hu⟩ : ∃ u, Fv c k0 T j = u := ⟨_, rfl⟩
                          obtain ⟨t, ht⟩ : ∃ t, T k0 j = t := ⟨_, rfl⟩
                          obtain ⟨bd, hbd⟩ : ∃ bd, (b || diffs (Fv c k0 T) (T k0) j) = bd := ⟨_, rfl⟩
                          rw [hu] at a5 HDN
                          rw [ht] at a3 HDN
                          rw [hbd]
                          have HBD := Lib.hid hbd
                          clear hgk h2 hu ht hbd
                          cases u <;> cases t
                          all_goals
                            go_wp2_with fail
                            go_quiet (fail)
                            go_wp2
                            exact ⟨⟨j + 1, by omega, by simp, by first | (rw [HDN.out, ← HBD.out]; simp; done) | (rw [HDN.out]; simp), Lib.hid (IW.out.drewN _)⟩, by simp [intOf]; omega⟩
                        · have t3 : decide ((j : Int) < P) = false := by simp; omega
                          have hjP2 : j = P := by omega
                          subst hjP2
                          have h2 := IW.out.m.t.at2 (by omega)
                          have a2 := h2.2.1
                          have a3 := h2.2.2.1 k0
                          obtain ⟨gk, hgk⟩ : ∃ gk, gs[k0]? = some gk := ⟨_, List.getElem?_eq_getElem (by rw [IW.out.m.t.len]; exact hk0)⟩
                          have a1 := h2.2.2.2.1 k0 gk hgk
                          have HW := Lib.hid (IW.out.done (i := k0) (by omega))
                          have HS := Lib.hid (IS.out.step HF.out HN.out HC.out)
                          obtain ⟨bd, hbd⟩ : ∃ bd, (b || diffs (Fv c k0 T) (T k0) j) = bd := ⟨_, rfl⟩
                          rw [hbd] at HS ⊢
                          clear IW IS h2 hbd hgk
                          go_wp2
                          exact ⟨⟨k0, _, bd, _, _, by omega, Lib.hid rfl, rfl, rfl, HW, HS⟩, by first | (simp [intOf]; done) | (simp [intOf]; omega)⟩
end Go.Proofs.Ytkfnnmdghibjbaa

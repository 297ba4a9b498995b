/-
  The document's answer of which places clash: bellcrankref19.Clash.
  Conditions: none.
-/
import Derived.Test.YtkfnnmdghibjbaaLivRPut
import Derived.Deep.AppendLies
import Derived.StillTailTactics
namespace Go.Bk.Liv
open Go Go.RowKit Go.Bk
set_option linter.unusedVariables false
set_option linter.unusedSimpArgs false
theorem grown_undrew' {w w' : World} {r : Option Nat} (h : w.drew.grownBy w' r) : w.grownBy w' r := ⟨h.os, h.tape, h.output, h.size, h.block⟩
theorem own_lies' {v : Value} {gg n c N : Nat} (h : v.ownBlock = some gg ∨ gg = N) : (Value.slice (some ⟨gg, 0, none⟩) n c).ownBlock = v.ownBlock ∨ (Value.slice (some ⟨gg, 0, none⟩) n c).ownBlock = some N := by
  rcases h with h | h
  · left; rw [h]; rfl
  · right; subst h; rfl
end Go.Bk.Liv
namespace Go.Proofs.Ytkfnnmdghibjbaa
open Go.RowKit Go.Bk Go.Bk.Liv
set_option linter.unusedVariables false
set_option linter.unusedSimpArgs false
/-- a row is laid behind the table's others -/
theorem KM.push {w1 w w' : World} {gC k P gg cap : Nat} {v : Value} {gs : List Nat} (h : KM w1 w gC v k P (fun _ _ => false) gs)
    (ho : w'.ownsRow w1.heap.size 24 1 (.slice (some ⟨gg, 0, none⟩) (k + 1) cap) (k + 1) (rowsV gs P ++ [.slice (some ⟨w.heap.size, 0, none⟩) P P]))
    (hg : ((w.alloc (.cells (Array.replicate P (.bool false)) 4)).alloc (.cells #[.slice (some ⟨w.heap.size, 0, none⟩) P P] 24)).grownBy w' v.ownBlock) :
    KM w1 (w'.setCell ⟨gC, 0, none⟩ (.slice (some ⟨gg, 0, none⟩) (k + 1) cap)) gC (.slice (some ⟨gg, 0, none⟩) (k + 1) cap) (k + 1) P (fun _ _ => false) (gs ++ [w.heap.size]) := by
  have h2 := (h.alloc (.cells (Array.replicate P (.bool false)) 4)).alloc (.cells #[.slice (some ⟨w.heap.size, 0, none⟩) P P] 24)
  have ht := h2.t.push (g := w.heap.size) (f := fun _ => false) (Blk.alloc (RB.new (t := 4) w (n := P) false rfl) _) h.b.size (fun x hx => by have := h.t.lt_ x hx; omega) ho hg
  have hc := h2.c.grown hg (own_ne h2.t.own h2.c (by decide))
  have ht2 := ht.congr (T' := fun _ _ => false) (fun i p _ _ => by
    by_cases e : i = k
    · subst e; rw [upd_same]
    · rw [upd_other e])
  refine ⟨⟨own_other ht2.own (own_ne ht2.own hc (by decide)), ht2.len, ht2.nd, fun i g hgi => ⟨(ht2.rows i g hgi).1, blk_other (ht2.rows i g hgi).2 (blk_ne (show Blk w' g 4 _ from (ht2.rows i g hgi).2) hc (by decide))⟩⟩, ?_, h.lo, ?_⟩
  · have := blk_setSame hc 0 (.slice (some ⟨gg, 0, none⟩) (k + 1) cap)
    simpa using this
  · exact (below_grown h2.b hg h2.b.size (fun j hj => (h2.t.own.lt j hj).1)).setCell (p := ⟨gC, 0, none⟩) h.lo _
theorem KM.drew' {w1 w : World} {gC n P : Nat} {v : Value} {T : Nat → Nat → Bool} {gs : List Nat} (h : KM w1 w gC v n P T gs) : KM w1 w.drew gC v n P T gs := ⟨h.t.drew, h.c, h.lo, ⟨h.b.os, h.b.tape, h.b.output, h.b.size, h.b.block⟩⟩
theorem RK.drew' {r : RowD} {P gC : Nat} {Req : Rel2} {w1 w : World} {v : Value} {gs : List Nat} (h : RK r P Req w1 gC v gs w) : RK r P Req w1 gC v gs w.drew := by
  obtain ⟨T, h1, h2⟩ := h
  exact ⟨T, h1.drew', h2⟩
theorem RK.drewN' {r : RowD} {P gC : Nat} {Req : Rel2} {w1 w : World} {v : Value} {gs : List Nat} (h : RK r P Req w1 gC v gs w) (n : Nat) : RK r P Req w1 gC v gs (w.drewN n) := by
  induction n with
  | zero => exact h
  | succ n ih =>
    have := ih.drew'
    exact this
theorem Told.drew' {w : World} {base n : Nat} {v : Value} {Q : Nat → Int → Prop} (h : Told w base v n Q) : Told w.drew base v n Q := by
  obtain ⟨vs, P, h1, h2, h3, h4⟩ := h
  exact ⟨vs, P, h1, ⟨h2.1, h2.2⟩, h3, h4⟩
theorem own_drew' {w : World} {base : Nat} {e : TypeId} {size n : Nat} {v : Value} {xs : List Value} (h : w.ownsRow base e size v n xs) : w.drew.ownsRow base e size v n xs := h
/-- what a call of put keeps of other memory -/
theorem blk_put {S : List Nat} {w w' : World} {g : Nat} {t : TypeId} {cs : Array Value} (h : Blk w g t cs) (hk : KeptBut S w w') (hS : ∀ g ∈ S, ∃ cs, Blk w g 4 cs) (ht : t ≠ 4) : Blk w' g t cs :=
  blk_kept h hk (fun hin => by
    obtain ⟨cs', hb⟩ := hS g hin
    exact blk_ne h hb ht rfl)
set_option maxRecDepth 100000 in
set_option maxHeartbeats 16000000 in
theorem rClash_any (e : EnvD) (r : RowD) (ve vr : Value) (w : World) (he : EnvV w ve e) (hr : RowV w vr r) : Calls Try.prog 16 #[ve, vr] w (AhPost e r r.places.toNat (fun i => Clashes r (i : Int)) w) := by
  have HE := Lib.hid he
  obtain ⟨va, vb, vd, rfl, h1, h2, h3⟩ := he
  obtain ⟨vp, vq, vr, vs, rfl, h4, h5, h6, h7⟩ := hr
  obtain ⟨Ac, cc, rfl, _⟩ := h7.len
  obtain ⟨Ar, cr, rfl⟩ := h6.shape
  have H7 := Lib.hid h7
  have HPI := Lib.hid h6.ir
  obtain ⟨_, _, _, _, hpL⟩ := h6.len
  have HR0 := Lib.hid (show RowV w (.agg #[vp, vq, .int .i64 r.places, .slice Ar r.params.length cr, .slice Ac r.code.length cc]) r from ⟨vp, vq, _, _, rfl, h4, h5, h6, h7⟩)
  obtain ⟨n, hn⟩ : ∃ n, r.code.length = n := ⟨_, rfl⟩
  obtain ⟨np, hnp⟩ : ∃ np, r.params.length = np := ⟨_, rfl⟩
  rw [hn, hnp] at HR0 ⊢
  rw [hnp] at HPI hpL
  have HN := Lib.hid hn
  have HNP := Lib.hid hnp
  clear h1 h2 h3 h4 h5 h6 h7 hn hnp
  have HB0 := Lib.hid (al2 w (.cells #[va, .int .i64 e.imports, vb, vd, .bool e.mem] 26) (.cells #[vp, vq, .int .i64 r.places, .slice Ar np cr, .slice Ac n cc] 31))
  have KR0 := Lib.hid (Blk.newAt (w.alloc (.cells #[va, .int .i64 e.imports, vb, vd, .bool e.mem] 26)) (N := w.heap.size + 1) 31 #[vp, vq, .int .i64 r.places, .slice Ar np cr, .slice Ac n cc] (by simp))
  have KE0 := Lib.hid (Blk.alloc (Blk.new w 26 #[va, .int .i64 e.imports, vb, vd, .bool e.mem]) (.cells #[vp, vq, .int .i64 r.places, .slice Ar np cr, .slice Ac n cc] 31))
  go_enter Try.func16, Try.ntmps16
  go_wp2_with fail
  (with_reducible refine (rBehind_any e r _ _ _ (HE.out.below HB0.out (Nat.le_refl _)) (HR0.out.below HB0.out (Nat.le_refl _))).mono ?_)
  rintro en w1 (⟨hnc, rfl, hb⟩ | ⟨hc, v, rfl, hT, hb⟩)
  · have HB := Lib.hid (HB0.out.trans (hb.mono HB0.out.size))
    have HNC := Lib.hid hnc
    clear hnc hb
    go_wp2
    go_ret2
    exact .inl ⟨HNC.out, rfl, HB.out⟩
  · have HB := Lib.hid (HB0.out.trans (hb.mono HB0.out.size))
    have HC := Lib.hid hc
    have k1 := KR0.out.below hb KR0.out.lt
    have ke1 := KE0.out.below hb KE0.out.lt
    obtain ⟨P, hP⟩ : ∃ P : Nat, r.places = P := ⟨r.places.toNat, by have := hc.p1; omega⟩
    have hPt : r.places.toNat = P := by omega
    have HPT := Lib.hid hPt
    rw [hP] at k1 HR0
    have hP4 : P ≤ 4096 := by have := hc.p2; omega
    have hn4 : n ≤ 4096 := by have := hc.n2; have := HN.out; omega
    have hn1 : 0 < n := by have := hc.n1; have := HN.out; omega
    have HP := Lib.hid hP
    rw [HN.out] at hT
    have HT := Lib.hid hT
    obtain ⟨Av, cv, rfl⟩ := hT.shape
    have KR1 := Lib.hid k1
    have KE1 := Lib.hid ke1
    obtain ⟨gC, hgC⟩ : ∃ gC, w1.heap.size = gC := ⟨_, rfl⟩
    have HM0 := Lib.hid (show KM w1 (w1.alloc (.cells #[.slice none 0 0] 68)) gC (.slice none 0 0) 0 P (fun _ _ => false) [] from
      ⟨TM.nil _ _ _ _, Blk.newAt _ _ _ hgC, Nat.le_of_eq hgC, (Below.refl _ _).alloc (Nat.le_refl _) _⟩)
    have HGC := Lib.hid hgC
    have mk := run_mk (P := Try.prog) 24 4 (.bool false) 1 Try.underlying24 info_bool rfl P (by omega) (by omega)
    clear hb hc hT hP hPt k1 ke1 KR0 KE0 HB0
    go_wp2
    (try rw [hgC])
    clear hgC
    go_loopw [9] (fun i wr => ∃ (k : Nat) (v : Value) (gs : List Nat), k ≤ P ∧ i = .int .i64 k ∧ Hid (KM w1 wr gC v k P (fun _ _ => false) gs)) (fun i _ => P - (intOf i).toNat)
    case atStart => exact ⟨0, _, [], by omega, rfl, HM0⟩
    case round =>
      as_aux_lemma =>
      clear HM0
      obtain ⟨k, v, gs, hk, rfl, IM⟩ := hrel
      obtain ⟨Av2, cv2, hv⟩ := IM.out.t.shape
      subst hv
      have KRr := KR1.out.below IM.out.b KR1.out.lt
      obtain ⟨r0, r1, r2, r3, r4⟩ := blk5 KRr
      have y1 := KRr.lt
      have hbz := IM.out.b.size
      by_cases hkP : k < P
      · have t1 : decide ((k : Int) < P) = true := by simp; omega
        have t2 : (k : Int) < P := by omega
        have c0 := IM.out.c.cell 0
        simp at c0
        have c1 := frz IM.out.c 0
        have c2 := IM.out.c.lt
        obtain ⟨i0, hi0, hz0, hz1, hz2⟩ := info_parts info_bools
        have IO2 := Lib.hid (own_alloc (own_alloc IM.out.t.own (.cells (Array.replicate P (.bool false)) 4)) (.cells #[.slice (some ⟨wr.heap.size, 0, none⟩) P P] 24))
        have IC2 := Lib.hid ((IM.out.c.alloc (.cells (Array.replicate P (.bool false)) 4)).alloc (.cells #[.slice (some ⟨wr.heap.size, 0, none⟩) P P] 24))
        have ICn := Lib.hid (own_ne IO2.out IC2.out (by decide))
        clear KRr r0 r1 r3 r4
        go_wp2_with fail
        go_region_law
          ((refine step_append_lies _ (by rfl) _ _ _ (by rfl) w1.heap.size 24 i0 _ 1 24 Try.underlying58 hi0 hz0 hz1 hz2 rfl (by omega) _ k (rowsV gs P) (by rfl) (own_drew' IO2.out)
              ⟨wr.heap.size + 1, 0, none⟩ 1 1 [.slice (some ⟨wr.heap.size, 0, none⟩) P P] (by rfl) (by rfl) (World.news_of_block (cs := #[.slice (some ⟨wr.heap.size, 0, none⟩) P P]) (t := 24) (fr := (0, 0)) (Blk.newAt _ _ _ (by simp))) (one_slice _ _ _)
              (by omega) (by unfold maxLen; omega) (by omega) (by simp; omega) (wr.heap.size + 2) (by simp) ?_; intro gg cap w3 hown1 hgrow hat hlt3; have k0 := (IC2.out.grown (grown_undrew' hgrow) ICn.out).cell 0; have k2 := frz (IC2.out.grown (grown_undrew' hgrow) ICn.out) 0; have k3 := (IC2.out.grown (grown_undrew' hgrow) ICn.out).lt))
        all_goals
          have HM2 := Lib.hid (IM.out.push hown1 (grown_undrew' hgrow))
          clear hown1 hgrow hat hlt3 k0 k2 k3 IM IO2 IC2 ICn
          go_wp2
          exact ⟨⟨k + 1, _, _, by omega, by simp, HM2⟩, by simp [intOf]; omega⟩
      · have t1 : decide ((k : Int) < P) = false := by simp; omega
        have hkP2 : k = P := by omega
        subst hkP2
        have HK0 := Lib.hid (show RK r k (ReqC r 0) w1 gC (.slice Av2 k cv2) gs wr from ⟨_, IM.out, RS.start r k (fun x y ⟨i, _, h, _⟩ => by omega)⟩)
        clear IM KRr hbz mk
        go_wp2
        clear r0 r1 r2 r3 r4 y1 t1 hk hkP
        go_loopw [10] (fun i wr => ∃ q : Nat, q ≤ n ∧ i = .int .i64 q ∧ Hid (RK r k (ReqC r q) w1 gC (.slice Av2 k cv2) gs wr)) (fun i _ => n - (intOf i).toNat)
        case atStart => exact ⟨0, by omega, rfl, HK0⟩
        case round =>
          as_aux_lemma =>
          clear HK0
          obtain ⟨q, hq, rfl, IK⟩ := hrel
          have KRr := KR1.out.below IK.out.bel KR1.out.lt
          obtain ⟨r0, r1, r2, r3, r4⟩ := blk5 KRr
          have y1 := KRr.lt
          by_cases hqn : q < n
          · as_aux_lemma =>
            have t1 : decide ((q : Int) < n) = true := by simp; omega
            have t2 : (q : Int) < n := by omega
            obtain ⟨c, hc⟩ : ∃ c, r.code[q]? = some c := ⟨_, List.getElem?_eq_getElem (by rw [HN.out]; exact hqn)⟩
            have HCK := Lib.hid hc
            have HBr := Lib.hid (HB.out.trans (IK.out.bel.mono HB.out.size))
            obtain ⟨gb, go, vp', vq', vt', rfl, hgb, g0, g1, g2, g3, g4, s0, s1, s2, s3⟩ := H7.out.code hc
            replace g0 := (HBr.out.cell (p := ⟨gb, _, none⟩) hgb).trans g0
            replace g1 := (HBr.out.cell (p := ⟨gb, _, none⟩) hgb).trans g1
            replace g2 := (HBr.out.cell (p := ⟨gb, _, none⟩) hgb).trans g2
            replace g3 := (HBr.out.cell (p := ⟨gb, _, none⟩) hgb).trans g3
            replace g4 := (HBr.out.cell (p := ⟨gb, _, none⟩) hgb).trans g4
            have y2 : gb < wr.heap.size := by have := HBr.out.size; omega
            obtain ⟨pA, pc, rfl⟩ := s1.shape
            obtain ⟨qA, qc, rfl⟩ := s2.shape
            obtain ⟨tA, tc, rfl⟩ := s3.shape
            have HAI := Lib.hid s1.ir
            have HOI := Lib.hid s2.ir
            obtain ⟨_, _, _, _, haL⟩ := s1.len
            obtain ⟨_, _, _, _, hoL⟩ := s2.len
            obtain ⟨ma, hma⟩ : ∃ m, c.args.length = m := ⟨_, rfl⟩
            obtain ⟨mo, hmo⟩ : ∃ m, c.outs.length = m := ⟨_, rfl⟩
            rw [hma] at HAI g2 haL
            rw [hmo] at HOI g3 hoL
            have HMA := Lib.hid hma
            have HMO := Lib.hid hmo
            have hpl := Lib.hid (codeOk_places (HC.out.code c (List.mem_of_getElem? hc)))
            obtain ⟨p, hp⟩ := HT.out.get hqn
            have HPS := Lib.hid hp
            have hpz := hp.small HC.out (fun x hx => hx.range HC.out)
            obtain ⟨m, hm⟩ : ∃ m, p.length = m := ⟨_, rfl⟩
            rw [hm] at hpz
            have HM := Lib.hid hm
            obtain ⟨gk, hgk⟩ : ∃ gk, wr.heap.size = gk := ⟨_, rfl⟩
            have HK1 := Lib.hid ((IK.out.weak (Req' := ReqO r q c 0) (fun x y h => reqO_start x y h)).keep ((Below.refl wr.heap.size wr).alloc (Nat.le_refl _) (.cells #[.int .i64 c.op, .int .u64 (c.n : Int), .slice pA ma pc, .slice qA mo qc, .slice tA c.to.length tc] 43)))
            have KC1 := Lib.hid (Blk.newAt wr (N := gk) 43 #[.int .i64 c.op, .int .u64 (c.n : Int), .slice pA ma pc, .slice qA mo qc, .slice tA c.to.length tc] hgk)
            clear hc s0 s1 s2 s3 hma hmo hp hm KRr IK
            go_wp2_with fail
            (try rw [hgk])
            clear hgk g0 g1 g2 g3 g4 r0 r1 r2 r3 r4 y1 y2
            go_loopw [12] (fun i wr => ∃ j : Nat, j ≤ mo ∧ i = .int .i64 j ∧ Hid (RK r k (ReqO r q c j) w1 gC (.slice Av2 k cv2) gs wr) ∧ Hid (Blk wr gk 43 #[.int .i64 c.op, .int .u64 (c.n : Int), .slice pA ma pc, .slice qA mo qc, .slice tA c.to.length tc])) (fun i _ => mo - (intOf i).toNat)
            case atStart => exact ⟨0, by omega, rfl, HK1, KC1⟩
            case round =>
              as_aux_lemma =>
              clear HK1 KC1
              obtain ⟨j, hj, rfl, IK, IC⟩ := hrel
              obtain ⟨d0, d1, d2, d3, d4⟩ := blk5 IC.out
              have y3 := IC.out.lt
              by_cases hjo : j < mo
              · have t3 : decide ((j : Int) < mo) = true := by simp; omega
                have t4 : (j : Int) < mo := by omega
                obtain ⟨o, ho⟩ : ∃ o, c.outs[j]? = some o := ⟨_, List.getElem?_eq_getElem (by rw [HMO.out]; exact hjo)⟩
                have hor := hpl.out.2.1 o (List.mem_of_getElem? ho)
                rw [HP.out] at hor
                obtain ⟨zo, rfl⟩ : ∃ z : Nat, o = z := ⟨o.toNat, by omega⟩
                have hzo : zo < k := by omega
                have HO := Lib.hid ho
                have HK2 := Lib.hid (IK.out.weak (Req' := ReqT r q c j (zo : Int) p 0) (fun x y h => reqT_start x y h))
                clear ho hor IK
                go_wp2_with fail
                clear d0 d1 d2 d3 d4 y3
                go_loopw [13] (fun i wr => ∃ z : Nat, z ≤ m ∧ i = .int .i64 z ∧ Hid (RK r k (ReqT r q c j (zo : Int) p z) w1 gC (.slice Av2 k cv2) gs wr) ∧ Hid (Blk wr gk 43 #[.int .i64 c.op, .int .u64 (c.n : Int), .slice pA ma pc, .slice qA mo qc, .slice tA c.to.length tc])) (fun i _ => m - (intOf i).toNat)
                case atStart => exact ⟨0, by omega, rfl, HK2, IC⟩
                case round =>
                  as_aux_lemma =>
                  clear HK2 IC
                  obtain ⟨z, hz, rfl, IK, IC⟩ := hrel
                  obtain ⟨d0, d1, d2, d3, d4⟩ := blk5 IC.out
                  have y3 := IC.out.lt
                  have HBr2 := Lib.hid (HB.out.trans (IK.out.bel.mono HB.out.size))
                  obtain ⟨b, o, B, kB, rfl, hb, hcl, hir⟩ := (HT.out.below IK.out.bel).first hqn HPS.out
                  rw [HM.out] at hcl hir
                  have HIR := Lib.hid hir
                  clear hir
                  by_cases hzm : z < m
                  · have t5 : decide ((z : Int) < m) = true := by simp; omega
                    have t6 : (z : Int) < m := by omega
                    obtain ⟨x, hx⟩ : ∃ x, p[z]? = some x := ⟨_, List.getElem?_eq_getElem (by rw [HM.out]; exact hzm)⟩
                    have hlb := (HPS.out.2 x).1 (List.mem_of_getElem? hx)
                    have hxr := hlb.range HC.out
                    rw [HP.out] at hxr
                    obtain ⟨zx, rfl⟩ : ∃ z : Nat, x = z := ⟨x.toNat, by omega⟩
                    have hzx : zx < k := by omega
                    obtain ⟨ab, ao, rfl, hab, hcx⟩ := HIR.out.cell hx
                    obtain ⟨ob, oo, rfl, hob, hco⟩ := (HOI.out.below HBr2.out (Nat.le_refl _)).cell HO.out
                    have HX := Lib.hid hx
                    have HLB := Lib.hid hlb
                    clear hx hlb hxr
                    by_cases hop : c.op = 272
                    · have t7 : (c.op != 272) = false := by simp [hop]
                      have hm1 := move_args (HC.out.code c (List.mem_of_getElem? HCK.out)) hop
                      rw [HMA.out] at hm1
                      obtain ⟨a0, ha0⟩ : ∃ a, c.args[0]? = some a := ⟨_, List.getElem?_eq_getElem (by rw [HMA.out]; omega)⟩
                      obtain ⟨eb, eo, rfl, heb, hce⟩ := (HAI.out.below HBr2.out (Nat.le_refl _)).cell ha0
                      rw [Nat.add_zero] at hce
                      have t8 : (0 : Int) < (ma : Int) := by omega
                      have t8n : 0 < ma := by omega
                      have HA0 := Lib.hid ha0
                      have HOP := Lib.hid hop
                      clear ha0 hop hm1
                      by_cases hxa : (zx : Int) = a0
                      · have t9 : ((zx : Int) != a0) = false := by simp [hxa]
                        have HK3 := Lib.hid (IK.out.weak (Req' := ReqT r q c j (zo : Int) p (z + 1)) (fun x y h => reqT_skip HX.out (fun hh => hh HOP.out a0 HA0.out hxa) x y h))
                        clear hxa IK
                        go_wp2_with fail
                        go_quiet (fail)
                        go_wp2
                        exact ⟨⟨z + 1, by omega, by simp, Lib.hid (HK3.out.drewN _), Lib.hid (IC.out.drewN _)⟩, by simp [intOf]; omega⟩
                      · have t9 : ((zx : Int) != a0) = true := by simp [hxa]
                        have HS := Lib.hid (show Sall r (zo : Int) (zx : Int) from .inl ⟨q, c, HCK.out, List.mem_of_getElem? HO.out, .inl ⟨HLB.out, fun _ a ha => by rw [HA0.out] at ha; injection ha with ha; rw [← ha]; exact hxa⟩⟩)
                        clear hxa
                        go_wp2_with fail
                        go_quiet (fail)
                        have q3 : (wr.drewN nq).cell? _ = _ := d3
                        have qo : (wr.drewN nq).cell? _ = _ := hco
                        have ql : (wr.drewN nq).cell? _ = _ := hcl
                        have qx : (wr.drewN nq).cell? _ = _ := hcx
                        have qy : gk < (wr.drewN nq).heap.size := y3
                        have IKq := Lib.hid (IK.out.drewN' nq)
                        have ICq := Lib.hid (IC.out.drewN nq)
                        generalize wr.drewN nq = wq at q3 qo ql qx qy IKq ICq ⊢
                        clear d0 d1 d2 d3 d4 hco hcl hcx y3 IK IC HBr2
                        go_wp2_with fail
                        have IKd := Lib.hid (show RK r k _ w1 gC _ gs (wq.drew) from IKq.out.drew')
                        have ICd := Lib.hid (show Blk (wq.drew) gk 43 _ from ICq.out.drew)
                        go_still_tail 12, (by kernel_rfl)
                        change wpList _ _ _ _ _ (wq.drew)
                        generalize wq.drew = wd at IKd ICd ⊢
                        clear IKq ICq
                        go_wp2_with fail
                        (with_reducible refine (put_rk r k _ w1 gC _ gs zo zx _ IKd.out hzo hzx HS.out).mono ?_)
                        rintro en w6 ⟨rfl, hrk, hkb⟩
                        have HKX := Lib.hid (hrk (ReqT r q c j (zo : Int) p (z + 1)) (fun x y h => reqT_put HX.out x y h))
                        have HCX := Lib.hid (blk_put ICd.out hkb IKd.out.bools (by decide))
                        clear hrk hkb IKd ICd
                        go_wp2
                        exact ⟨⟨z + 1, by omega, by simp, HKX, HCX⟩, by simp [intOf]; omega⟩
                    · have t7 : (c.op != 272) = true := by simp [hop]
                      have HS := Lib.hid (show Sall r (zo : Int) (zx : Int) from .inl ⟨q, c, HCK.out, List.mem_of_getElem? HO.out, .inl ⟨HLB.out, fun h => absurd h hop⟩⟩)
                      clear hop
                      go_wp2_with fail
                      go_quiet (fail)
                      have q3 : (wr.drewN nq).cell? _ = _ := d3
                      have qo : (wr.drewN nq).cell? _ = _ := hco
                      have ql : (wr.drewN nq).cell? _ = _ := hcl
                      have qx : (wr.drewN nq).cell? _ = _ := hcx
                      have qy : gk < (wr.drewN nq).heap.size := y3
                      have IKq := Lib.hid (IK.out.drewN' nq)
                      have ICq := Lib.hid (IC.out.drewN nq)
                      generalize wr.drewN nq = wq at q3 qo ql qx qy IKq ICq ⊢
                      clear d0 d1 d2 d3 d4 hco hcl hcx y3 IK IC HBr2
                      go_wp2_with fail
                      have IKd := Lib.hid (show RK r k _ w1 gC _ gs (wq.drew) from IKq.out.drew')
                      have ICd := Lib.hid (show Blk (wq.drew) gk 43 _ from ICq.out.drew)
                      go_still_tail 12, (by kernel_rfl)
                      change wpList _ _ _ _ _ (wq.drew)
                      generalize wq.drew = wd at IKd ICd ⊢
                      clear IKq ICq
                      go_wp2_with fail
                      (with_reducible refine (put_rk r k _ w1 gC _ gs zo zx _ IKd.out hzo hzx HS.out).mono ?_)
                      rintro en w6 ⟨rfl, hrk, hkb⟩
                      have HKX := Lib.hid (hrk (ReqT r q c j (zo : Int) p (z + 1)) (fun x y h => reqT_put HX.out x y h))
                      have HCX := Lib.hid (blk_put ICd.out hkb IKd.out.bools (by decide))
                      clear hrk hkb IKd ICd
                      go_wp2
                      exact ⟨⟨z + 1, by omega, by simp, HKX, HCX⟩, by simp [intOf]; omega⟩
                  · have t5 : decide ((z : Int) < m) = false := by simp; omega
                    have HK3 := Lib.hid (IK.out.weak (Req' := ReqZ r q c j (zo : Int) 0) (fun x y h => reqT_done (by rw [HM.out]; omega) HPS.out.2 x y h))
                    clear IK
                    go_wp2_with fail
                    clear d0 d1 d2 d3 d4 y3 hcl hb HBr2
                    go_loopw [14] (fun i wr => ∃ z : Nat, z ≤ mo ∧ i = .int .i64 z ∧ Hid (RK r k (ReqZ r q c j (zo : Int) z) w1 gC (.slice Av2 k cv2) gs wr) ∧ Hid (Blk wr gk 43 #[.int .i64 c.op, .int .u64 (c.n : Int), .slice pA ma pc, .slice qA mo qc, .slice tA c.to.length tc])) (fun i _ => mo - (intOf i).toNat)
                    case atStart => exact ⟨0, by omega, rfl, HK3, IC⟩
                    case round =>
                      as_aux_lemma =>
                      clear HK3 IC
                      obtain ⟨z2, hz2, rfl, IK, IC⟩ := hrel
                      obtain ⟨d0, d1, d2, d3, d4⟩ := blk5 IC.out
                      have y3 := IC.out.lt
                      have HBr2 := Lib.hid (HB.out.trans (IK.out.bel.mono HB.out.size))
                      by_cases hzo2 : z2 < mo
                      · have t7 : decide ((z2 : Int) < mo) = true := by simp; omega
                        have t8 : (z2 : Int) < mo := by omega
                        obtain ⟨x, hx⟩ : ∃ x, c.outs[z2]? = some x := ⟨_, List.getElem?_eq_getElem (by rw [HMO.out]; exact hzo2)⟩
                        have hxr := hpl.out.2.1 x (List.mem_of_getElem? hx)
                        rw [HP.out] at hxr
                        obtain ⟨zx, rfl⟩ : ∃ z : Nat, x = z := ⟨x.toNat, by omega⟩
                        have hzx : zx < k := by omega
                        have hh := HOI.out.below HBr2.out (Nat.le_refl _)
                        obtain ⟨ob, oo, rfl, hob, hco⟩ := hh.cell HO.out
                        obtain ⟨ob', oo', hae, hob', hcx⟩ := hh.cell hx
                        injection hae with hae
                        injection hae with e1 e2
                        subst e1
                        subst e2
                        have HX := Lib.hid hx
                        have HS := Lib.hid (show Sall r (zo : Int) (zx : Int) from .inl ⟨q, c, HCK.out, List.mem_of_getElem? HO.out, .inr (List.mem_of_getElem? hx)⟩)
                        clear hx hxr hh
                        go_wp2_with fail
                        have IKd := Lib.hid (show RK r k _ w1 gC _ gs (wr.drew) from IK.out.drew')
                        have ICd := Lib.hid (show Blk (wr.drew) gk 43 _ from IC.out.drew)
                        go_still_tail 10, (by kernel_rfl)
                        change wpList _ _ _ _ _ (wr.drew)
                        generalize wr.drew = wd at IKd ICd ⊢
                        clear IK IC
                        go_wp2_with fail
                        (with_reducible refine (put_rk r k _ w1 gC _ gs zo zx _ IKd.out hzo hzx HS.out).mono ?_)
                        rintro en w6 ⟨rfl, hrk, hkb⟩
                        have HKX := Lib.hid (hrk (ReqZ r q c j (zo : Int) (z2 + 1)) (fun x y h => reqZ_put HX.out x y h))
                        have HCX := Lib.hid (blk_put ICd.out hkb IKd.out.bools (by decide))
                        clear hrk hkb IKd ICd
                        go_wp2
                        exact ⟨⟨z2 + 1, by omega, by simp, HKX, HCX⟩, by simp [intOf]; omega⟩
                      · have t7 : decide ((z2 : Int) < mo) = false := by simp; omega
                        have HK4 := Lib.hid (IK.out.weak (Req' := ReqO r q c (j + 1)) (fun x y h => reqZ_done HO.out (by rw [HMO.out]; omega) x y h))
                        clear IK
                        go_wp2
                        exact ⟨⟨j + 1, by omega, by simp, HK4, IC⟩, by simp [intOf]; omega⟩
              · have t3 : decide ((j : Int) < mo) = false := by simp; omega
                have HK2 := Lib.hid (IK.out.weak (Req' := ReqC r (q + 1)) (fun x y h => reqC_next HCK.out (by rw [HMO.out]; omega) x y h))
                clear IK
                go_wp2
                exact ⟨⟨q + 1, by omega, by simp, HK2⟩, by simp [intOf]; omega⟩
          · as_aux_lemma =>
            have t1 : decide ((q : Int) < n) = false := by simp; omega
            have hqn2 : q = n := by omega
            subst hqn2
            have HBr := Lib.hid (HB.out.trans (IK.out.bel.mono HB.out.size))
            have KEr := KE1.out.below IK.out.bel KE1.out.lt
            obtain ⟨e0, e1, e2, e3, e4⟩ := blk5 KEr
            have y2 := KEr.lt
            have HK1 := Lib.hid (IK.out.weak (Req' := ReqP r 0) (fun x y h => by rw [← HN.out]; exact reqP_start x y h))
            clear KEr KRr IK
            go_wp2_with fail
            (with_reducible refine (rAhead_any e r _ _ _ (HE.out.below HBr.out (Nat.le_refl _)) (HR0.out.below HBr.out (Nat.le_refl _))).mono ?_)
            rintro en w4 (⟨hnc, _, _⟩ | ⟨_, v4, rfl, hT4, hb4⟩)
            · exact absurd HC.out hnc
            obtain ⟨wb, hwb⟩ : ∃ wb, wr.heap.size = wb := ⟨_, rfl⟩
            rw [HN.out, hwb] at hT4
            obtain ⟨A4, c4, rfl⟩ := hT4.shape
            have HT4 := Lib.hid hT4
            have HK2 := Lib.hid (HK1.out.keep hb4)
            obtain ⟨u, hu⟩ := hT4.get hn1
            have HU := Lib.hid hu
            have huz := hu.small HC.out (fun x hx => hx.range HC.out)
            obtain ⟨mu, hmu⟩ : ∃ m, u.length = m := ⟨_, rfl⟩
            rw [hmu] at huz
            have HMU := Lib.hid hmu
            have hpr := Lib.hid (fun x (hx : x ∈ r.params) => within_mem HC.out.pin hx)
            rw [HP.out] at hpr
            clear hT4 hb4 hu hmu e0 e1 e2 e3 e4 r0 r1 r2 r3 r4 y1 y2 HK1 HBr
            go_wp2
            go_loopw [17] (fun i wr => ∃ j : Nat, j ≤ np ∧ i = .int .i64 j ∧ Hid (RK r k (ReqP r j) w1 gC (.slice Av2 k cv2) gs wr) ∧ Hid (Told wr wb (.slice A4 q c4) q (Live r))) (fun i _ => np - (intOf i).toNat)
            case atStart => exact ⟨0, by omega, rfl, HK2, HT4⟩
            case round =>
              as_aux_lemma =>
              clear HK2 HT4
              obtain ⟨j, hj, rfl, IK, IT⟩ := hrel
              have KRr := KR1.out.below IK.out.bel KR1.out.lt
              obtain ⟨r0, r1, r2, r3, r4⟩ := blk5 KRr
              have y1 := KRr.lt
              clear KRr
              by_cases hjn : j < np
              · have t3 : decide ((j : Int) < np) = true := by simp; omega
                have t4 : (j : Int) < np := by omega
                obtain ⟨a, ha⟩ : ∃ a, r.params[j]? = some a := ⟨_, List.getElem?_eq_getElem (by rw [HNP.out]; exact hjn)⟩
                have har := hpr.out a (List.mem_of_getElem? ha)
                obtain ⟨za, rfl⟩ : ∃ z : Nat, a = z := ⟨a.toNat, by omega⟩
                have hza : za < k := by omega
                have HA := Lib.hid ha
                have HK3 := Lib.hid (IK.out.weak (Req' := ReqQ r j (za : Int) 0) (fun x y h => reqQ_start x y h))
                clear ha har IK
                go_wp2_with fail
                clear r0 r1 r2 r3 r4 y1
                go_loopw [18] (fun i wr => ∃ z : Nat, z ≤ np ∧ i = .int .i64 z ∧ Hid (RK r k (ReqQ r j (za : Int) z) w1 gC (.slice Av2 k cv2) gs wr) ∧ Hid (Told wr wb (.slice A4 q c4) q (Live r))) (fun i _ => np - (intOf i).toNat)
                case atStart => exact ⟨0, by omega, rfl, HK3, IT⟩
                case round =>
                  as_aux_lemma =>
                  clear HK3 IT
                  obtain ⟨z, hz, rfl, IK, IT⟩ := hrel
                  have KRr := KR1.out.below IK.out.bel KR1.out.lt
                  obtain ⟨r0, r1, r2, r3, r4⟩ := blk5 KRr
                  have y1 := KRr.lt
                  have HBr2 := Lib.hid (HB.out.trans (IK.out.bel.mono HB.out.size))
                  clear KRr
                  by_cases hzn : z < np
                  · have t5 : decide ((z : Int) < np) = true := by simp; omega
                    have t6 : (z : Int) < np := by omega
                    obtain ⟨x, hx⟩ : ∃ x, r.params[z]? = some x := ⟨_, List.getElem?_eq_getElem (by rw [HNP.out]; exact hzn)⟩
                    have hxr := hpr.out x (List.mem_of_getElem? hx)
                    obtain ⟨zx, rfl⟩ : ∃ z : Nat, x = z := ⟨x.toNat, by omega⟩
                    have hzx : zx < k := by omega
                    have hh := HPI.out.below HBr2.out (Nat.le_refl _)
                    obtain ⟨ob, oo, rfl, hob, hco⟩ := hh.cell HA.out
                    obtain ⟨ob', oo', hae, hob', hcx⟩ := hh.cell hx
                    injection hae with hae
                    injection hae with e1 e2
                    subst e1
                    subst e2
                    have HX := Lib.hid hx
                    have HS := Lib.hid (show Sall r (za : Int) (zx : Int) from .inr ⟨List.mem_of_getElem? HA.out, .inl (List.mem_of_getElem? hx)⟩)
                    clear hx hxr hh
                    go_wp2_with fail
                    have IKd := Lib.hid (show RK r k _ w1 gC _ gs (wr.drew) from IK.out.drew')
                    have ITd := Lib.hid (show Told (wr.drew) wb _ q (Live r) from IT.out.drew')
                    go_still_tail 10, (by kernel_rfl)
                    change wpList _ _ _ _ _ (wr.drew)
                    generalize wr.drew = wd at IKd ITd ⊢
                    clear IK IT
                    go_wp2_with fail
                    (with_reducible refine (put_rk r k _ w1 gC _ gs za zx _ IKd.out hza hzx HS.out).mono ?_)
                    rintro en w6 ⟨rfl, hrk, hkb⟩
                    have HKX := Lib.hid (hrk (ReqQ r j (za : Int) (z + 1)) (fun x y h => reqQ_put HX.out x y h))
                    have HTX := Lib.hid (ITd.out.kept hkb IKd.out.bools)
                    clear hrk hkb IKd ITd
                    go_wp2
                    exact ⟨⟨z + 1, by omega, by simp, HKX, HTX⟩, by simp [intOf]; omega⟩
                  · have t5 : decide ((z : Int) < np) = false := by simp; omega
                    have HK4 := Lib.hid (IK.out.weak (Req' := ReqU r j (za : Int) u 0) (fun x y h => reqU_start (by rw [HNP.out]; omega) x y h))
                    clear IK
                    go_wp2_with fail
                    clear r0 r1 r2 r3 r4 y1 HBr2
                    go_loopw [19] (fun i wr => ∃ z : Nat, z ≤ mu ∧ i = .int .i64 z ∧ Hid (RK r k (ReqU r j (za : Int) u z) w1 gC (.slice Av2 k cv2) gs wr) ∧ Hid (Told wr wb (.slice A4 q c4) q (Live r))) (fun i _ => mu - (intOf i).toNat)
                    case atStart => exact ⟨0, by omega, rfl, HK4, IT⟩
                    case round =>
                      as_aux_lemma =>
                      clear HK4 IT
                      obtain ⟨z2, hz2, rfl, IK, IT⟩ := hrel
                      have KRr := KR1.out.below IK.out.bel KR1.out.lt
                      obtain ⟨r0, r1, r2, r3, r4⟩ := blk5 KRr
                      have y1 := KRr.lt
                      have HBr2 := Lib.hid (HB.out.trans (IK.out.bel.mono HB.out.size))
                      obtain ⟨b, o, B, kB, rfl, hb, hcl, hir⟩ := IT.out.first hn1 HU.out
                      rw [HMU.out] at hcl hir
                      rw [Nat.add_zero] at hcl
                      have HIR := Lib.hid hir
                      have t9 : (0 : Int) < (q : Int) := by omega
                      clear hir KRr
                      by_cases hzu : z2 < mu
                      · have t7 : decide ((z2 : Int) < mu) = true := by simp; omega
                        have t8 : (z2 : Int) < mu := by omega
                        obtain ⟨x, hx⟩ : ∃ x, u[z2]? = some x := ⟨_, List.getElem?_eq_getElem (by rw [HMU.out]; exact hzu)⟩
                        have hlv := (HU.out.2 x).1 (List.mem_of_getElem? hx)
                        have hxr := hlv.range HC.out
                        rw [HP.out] at hxr
                        obtain ⟨zx, rfl⟩ : ∃ z : Nat, x = z := ⟨x.toNat, by omega⟩
                        have hzx : zx < k := by omega
                        obtain ⟨ob, oo, rfl, hob, hco⟩ := (HPI.out.below HBr2.out (Nat.le_refl _)).cell HA.out
                        obtain ⟨xb, xo, rfl, hxb, hcx⟩ := HIR.out.cell hx
                        have HX := Lib.hid hx
                        have HS := Lib.hid (show Sall r (za : Int) (zx : Int) from .inr ⟨List.mem_of_getElem? HA.out, .inr hlv⟩)
                        clear hx hxr hlv
                        go_wp2_with fail
                        have IKd := Lib.hid (show RK r k _ w1 gC _ gs (wr.drew) from IK.out.drew')
                        have ITd := Lib.hid (show Told (wr.drew) wb _ q (Live r) from IT.out.drew')
                        go_still_tail 11, (by kernel_rfl)
                        change wpList _ _ _ _ _ (wr.drew)
                        generalize wr.drew = wd at IKd ITd ⊢
                        clear IK IT
                        go_wp2_with fail
                        (with_reducible refine (put_rk r k _ w1 gC _ gs za zx _ IKd.out hza hzx HS.out).mono ?_)
                        rintro en w6 ⟨rfl, hrk, hkb⟩
                        have HKX := Lib.hid (hrk (ReqU r j (za : Int) u (z2 + 1)) (fun x y h => reqU_put HX.out x y h))
                        have HTX := Lib.hid (ITd.out.kept hkb IKd.out.bools)
                        clear hrk hkb IKd ITd
                        go_wp2
                        exact ⟨⟨z2 + 1, by omega, by simp, HKX, HTX⟩, by simp [intOf]; omega⟩
                      · have t7 : decide ((z2 : Int) < mu) = false := by simp; omega
                        have HK5 := Lib.hid (IK.out.weak (Req' := ReqP r (j + 1)) (fun x y h => reqU_done HA.out (by rw [HMU.out]; omega) HU.out.2 x y h))
                        clear IK
                        go_wp2
                        exact ⟨⟨j + 1, by omega, by simp, HK5, IT⟩, by simp [intOf]; omega⟩
              · as_aux_lemma =>
                have t3 : decide ((j : Int) < np) = false := by simp; omega
                obtain ⟨T, hkm, hrs⟩ := IK.out
                have HD := Lib.hid (fun a b (ha : a < k) (hb : b < k) => hrs.done HC.out (fun x y h => reqP_all (by rw [HNP.out]; omega) x y h) ha hb)
                have HKM := Lib.hid hkm
                have HS0 := Lib.hid (TolS.start wr (fun i => Clashes r (i : Int)))
                have HBr2 := Lib.hid (HB.out.trans (IK.out.bel.mono HB.out.size))
                clear hkm hrs IK IT
                go_wp2
                clear r0 r1 r2 r3 r4 y1
                obtain ⟨w5, rfl⟩ : ∃ w5 : World, w5 = wr := ⟨_, rfl⟩
                go_loopw [20, 21] (fun v i wr => ∃ z : Nat, z ≤ k ∧ i = .int .i64 z ∧ Hid (TolS w5 v z (fun i => Clashes r (i : Int)) wr)) (fun _ i _ => k - (intOf i).toNat)
                case atStart => exact ⟨0, by omega, rfl, HS0⟩
                case round =>
                  as_aux_lemma =>
                  clear HS0
                  obtain ⟨z, hz, rfl, IS⟩ := hrel
                  obtain ⟨Av5, cv5, hv⟩ := IS.out.shape
                  subst hv
                  have hkm := HKM.out.keep IS.out.below
                  have c0 := hkm.c.cell 0
                  simp at c0
                  have y4 := hkm.c.lt
                  have KRr := KR1.out.below hkm.b KR1.out.lt
                  obtain ⟨r0, r1, r2, r3, r4⟩ := blk5 KRr
                  have y1 := KRr.lt
                  clear KRr
                  by_cases hzk : z < k
                  · have t5 : decide ((z : Int) < k) = true := by simp; omega
                    have t6 : (z : Int) < k := by omega
                    obtain ⟨b, o, C, kC, rfl, hb, hc, hs⟩ := hkm.t.tb.row hzk
                    have HS := Lib.hid hs
                    clear hs hkm
                    go_wp2_with fail
                    (with_reducible refine (list_any _ k _ (T z) _ HS.out hP4).mono ?_)
                    rintro en w3 ⟨u5, p, rfl, ho, hpl, hset, hb3⟩
                    have HST := Lib.hid (show IsSet p (Clashes r (z : Int)) from row_live (e := e) (r := r) hset (fun q5 hq5 => HD.out z q5 hzk hq5) (fun x hx => by have := hx.range HC.out; rw [HP.out] at this; exact this))
                    have IS1 := Lib.hid (IS.out.keep hb3)
                    have HO := Lib.hid (own_mono ho IS.out.below.size)
                    obtain ⟨q5, hq5⟩ : ∃ q, p.length = q := ⟨_, rfl⟩
                    obtain ⟨A1, c1, e1, _⟩ := own_shape ho
                    subst e1
                    rw [hq5] at ho HO hpl ⊢
                    have HQ := Lib.hid hq5
                    have HO2 := Lib.hid (own_alloc HO.out (.cells #[.slice A1 q5 c1] 23))
                    have IS2 := Lib.hid (IS1.out.keep ((Below.refl _ _).alloc (Nat.le_refl _) (.cells #[.slice A1 q5 c1] 23)))
                    have hz5 := IS1.out.below.size
                    obtain ⟨vs5, PP, hvs, hPP⟩ := IS2.out.open
                    have HVS := Lib.hid hvs
                    have HPP := Lib.hid hPP
                    clear ho hset hb3 hq5 hvs hPP IS2 IS1 c0 y4 r0 r1 r2 r3 r4 y1 hc hb
                    go_wp2_with (at_builtin; refine append_at _ rfl (.tmp 178) (.tmp 185) 32 rfl w5.heap.size 23 (.slice none 0 0) 1 24 Try.underlying32 info_ints rfl (by omega) (.slice Av5 z cv5) z vs5 rfl HVS.out (some ⟨w3.heap.size, 0, none⟩) 1 1 [.slice A1 q5 c1] rfl (Blk.srcAll (cs := #[.slice A1 q5 c1]) (Blk.newAt _ _ _ rfl) rfl) (one_slice _ _ _) (by unfold maxLen; omega) (by omega) (by simp; omega) ?_)
                    rintro v' w' g1 g2 g3 _
                    have IS3 := Lib.hid (TolS.push2 (u := .slice A1 q5 c1) (p := p) HVS.out HPP.out (by rw [HQ.out]; exact HO2.out) HST.out g1 g2)
                    clear g1 g2 g3
                    go_wp2
                    exact ⟨⟨z + 1, by omega, by simp, IS3⟩, by simp [intOf]; omega⟩
                  · have t5 : decide ((z : Int) < k) = false := by simp; omega
                    have hzk2 : z = k := by omega
                    subst hzk2
                    clear hkm
                    go_wp2
                    go_ret2
                    exact .inr ⟨HC.out, _, rfl, by rw [HPT.out]; exact IS.out.told.mono HBr2.out.size, HBr2.out.trans (IS.out.below.mono HBr2.out.size)⟩
end Go.Proofs.Ytkfnnmdghibjbaa

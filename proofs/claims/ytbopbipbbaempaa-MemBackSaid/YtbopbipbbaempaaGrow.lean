/-
  Copies of bytes, and how a memory grows.
  Conditions: the slice is within the row's own reach.
-/
import Derived.Lib.AppendZerosOnto
import Derived.Lib.SliceRun
import Derived.Test.YtbopbipbbaempaaLoad
namespace Go.Bk
open Go Go.RowKit
theorem zeroCells_one (z : Value) (k : Nat) : Builtin.zeroCells #[z] k = (List.replicate k z).toArray := by
  apply Array.ext'
  simp only [Builtin.zeroCells, List.size_toArray, List.length_cons, List.length_nil, Nat.zero_add, Nat.mul_one, Nat.mod_one]
  apply List.ext_getElem?
  intro i
  by_cases h : i < k
  · simp [h]
  · simp [h]

/-- 'append(s, make([]T, k)...)' onto a row of the call's own -/
theorem append_zeros {P : Program} {ops : Array Oper} {rest : List Oper} {o : Oper} {a : Act} {Q : Exit → Act → World → Prop} (w : World) (hgd : o.guard = none) (s x : Operand) (t tn : TypeId)
    (ho : o.op = .call { callee := .builtin .append, args := #[s, x], argTypes := #[t, tn] })
    (base : Nat) (e : TypeId) (z : Value) (bytes : Nat) (kn : IntKind) (ht : P.underlying t = some (.slice e)) (htn : P.underlying tn = some (.int kn)) (hinfo : (P.info? e).map (fun i => (i.zero, i.size, i.bytes)) = some (some z, 1, bytes)) (hzc : z.cells = #[z]) (hz1 : z.oneCell' = true)
    (v : Value) (n : Nat) (xs : List Value) (hs : a.eval s = v) (hown : w.ownsRow base e 1 v n xs)
    (kq : IntKind) (k : Nat) (K : Int) (hK : K = (k : Int)) (hx : a.eval x = .int kq K) (h63 : n + k ≤ maxLen) (hbytes : (n + k) * bytes ≤ 140737488355328) (hbase : base ≤ w.heap.size)
    (h : ∀ v' w', w'.ownsRow base e 1 v' (n + k) (xs ++ List.replicate k z) → Below base w w' → wpList P ops Q rest (a.put o.dst v') w') : wpList P ops Q (o :: rest) a w := by
  subst hK
  obtain ⟨i, hi, hz, hsz, hby⟩ := info_parts hinfo
  have hsmall : n + k ≤ 9223372036854775807 := by simp only [maxLen] at h63; omega
  have hw : IntKind.i64.wrap (k : Int) = k := by rw [IntKind.wrap_i64]; omega
  have hkb : k * bytes ≤ 140737488355328 := Nat.le_trans (Nat.mul_le_mul_right _ (by omega)) hbytes
  have h48i : ¬ (281474976710656 < (k : Int) * (bytes : Int)) := by rw [← Int.natCast_mul]; omega
  have hneg : ¬ ((k : Int) < 0) := by omega
  have hlen : xs.length = n := by simpa using hown.1
  have key : ∃ v' w', (Builtin.append_ #[t, tn] o.type #[v, .int kq k]).run P w = .ok v' w' ∧ w'.ownsRow base e 1 v' (n + k) (xs ++ List.replicate k z) ∧ w.grownBy w' v.ownBlock := by
    have grown : ∀ (old : Nat), old < n + k → ∀ (row : Option Nat),
        (w.drew.alloc (.cells (xs.toArray ++ Builtin.zeroCells z.cells k ++ Builtin.zeroCells z.cells (grownCap w (n + k) old e - (n + k))) e)).ownsRow base e 1
          (.slice (some ⟨w.heap.size, 0, none⟩) (n + k) (grownCap w (n + k) old e)) (n + k) (xs ++ List.replicate k z) ∧
        w.grownBy (w.drew.alloc (.cells (xs.toArray ++ Builtin.zeroCells z.cells k ++ Builtin.zeroCells z.cells (grownCap w (n + k) old e - (n + k))) e)) row := by
      intro old ho row
      have hge := grownCap_ge w (n + k) old e
      have hcm : grownCap w (n + k) old e ≤ maxLen := grownCap_le_maxLen w (n + k) old e h63
      refine ⟨⟨by simp [hlen], .inr ⟨w.heap.size, _, _, rfl, hbase, heap_alloc_new w.drew _, hge, hcm, ?_, ?_⟩⟩, ⟨rfl, rfl, rfl, by simp, fun k hk _ => Below.heap_alloc w.drew _ k hk⟩⟩
      · rw [hzc]
        simp [size_zeroCells, hlen]
        omega
      · rw [hzc, zeroCells_one]
        simp only [Array.toList_append, Nat.mul_one]
        rw [List.take_append_of_le_length (by simp [hlen])]
        rw [List.take_of_length_le (by simp [hlen])]
    rcases Nat.eq_zero_or_pos k with rfl | hk
    · have hw0 : IntKind.i64.wrap 0 = 0 := by rw [IntKind.wrap_i64]; omega
      refine ⟨v, w, ?_, by simpa using hown, World.grownBy.refl w _⟩
      rcases hown.2 with ⟨rfl, rfl⟩ | ⟨g, cap, cur, rfl, _, _, hnc, _⟩
      · simp [Builtin.append_, run_underlying ht, run_underlying htn, sizeOf, typeInfo, hi, asInt, asIntOf, hw0]
      · simp [Builtin.append_, run_underlying ht, run_underlying htn, sizeOf, typeInfo, hi, asInt, asIntOf, hw0, hnc, storeCells]
    · rcases hown.2 with ⟨rfl, rfl⟩ | ⟨g, cap, cur, rfl, hbg, hg, hnc, hcm, hcs, htake⟩
      · have hx : xs = [] := List.eq_nil_of_length_eq_zero hlen
        subst hx
        have hr := Lib.run_append_nil_zeros (P := P) w t tn o.type e i z kq kn ht htn hi hz k hk (by omega) (by omega) (by rw [hby]; omega)
        have hgr := grown 0 (by omega) (Value.ownBlock (.slice none 0 0))
        simp only [Nat.zero_add, List.nil_append, Array.empty_append] at hgr ⊢
        exact ⟨_, _, hr, hgr.1, hgr.2⟩
      · by_cases hroom : n + k ≤ cap
        · have hst := run_storeCells_at P g n e (List.replicate k z) 0 cur w hg (by simp; omega) (fun u hu => by rw [List.eq_of_mem_replicate hu]; exact hz1)
          simp only [Nat.add_zero] at hst
          have hk0 : k ≠ 0 := by omega
          refine ⟨.slice (some ⟨g, 0, none⟩) (n + k) cap, _, ?_, ⟨by simp [hlen], .inr ⟨g, cap, _, rfl, hbg, setRow_heap w g cur (cur.toList.take n ++ List.replicate k z ++ cur.toList.drop (n + (List.replicate k z).length)).toArray e _ hg, hroom, hcm, ?_, ?_⟩⟩, ⟨rfl, rfl, rfl, by simp, fun k _ hk => setRow_other w g k _ (fun e => hk (by simp [Value.ownBlock, e]))⟩⟩
          · simp [Builtin.append_, run_underlying ht, run_underlying htn, sizeOf, typeInfo, zeroValue, hi, hz, hsz, hby, asInt, asIntOf, hw, hneg, hk0, h48i, hroom, Addr.add_lit, hzc, zeroCells_one, hst]
          · simp
            omega
          · rw [Nat.mul_one] at htake
            rw [htake]
            simp only [Nat.mul_one]
            rw [List.take_append_of_le_length (by simp [hlen])]
            rw [List.take_of_length_le (by simp [hlen])]
        · have holds : ∀ j u, xs[j]? = some u → w.drew.cell? ((⟨g, 0, none⟩ : Addr).add j) = some u := fun j u hu => by simpa using hown.cells (g := g) rfl j u hu
          have hf := run_firstCells_some (P := P) w.drew i.size n ⟨g, 0, none⟩ n cap xs (by rw [hsz]; exact hown.1) holds
          have hr := Lib.run_append_grow_zeros (P := P) w t tn o.type e i z kq kn ht htn hi hz (some ⟨g, 0, none⟩) n cap xs hf k hk (by omega) (by omega) (by omega) (by rw [hby]; omega) (by rw [hby]; exact growslice_fits (by omega) hbytes)
          have hgr := grown cap (by omega) (Value.ownBlock (.slice (some ⟨g, 0, none⟩) n cap))
          exact ⟨_, _, hr, hgr.1, hgr.2⟩
  obtain ⟨v', w', hrun, h2, h3⟩ := key
  refine wpList_plain hgd fun K hK => ?_
  unfold Oper.wp execOp
  simp only [ho, resolve, invoke, builtin, Sem.run_bind, Sem.run_pure, Result.andThen_ok, List.map_toArray, List.map_cons, List.map_nil, hs, hx, hrun]
  exact hK _ _ (h v' w' h2 (below_append (Below.refl _ _) h3 hown (Nat.le_refl _) hbase))
end Go.Bk
namespace Go.Proofs.Ytbopbipbbaempaa
open Go.RowKit Go.Bk Go.Bk.Mem Go.Shelf

theorem info5 : (Try.prog.info? 5).map (fun i => (i.zero, i.size, i.bytes)) = some (some (.int .u8 0), 1, 1) := by kernel_rfl

set_option maxHeartbeats 400000 in
theorem same_any (A B : Option Addr) (n c m d : Nat) (x y : List Nat) (w : World) (ha : Bk.Src w A n (bys x)) (hx : AllB x) (hb : Bk.Src w B m (bys y)) (hy : AllB y) :
    Calls Try.prog 15 #[.slice A n c, .slice B m d] w fun e w' => e = .returned (.bool (decide (x = y))) ∧ w = w' := by
  have h1 := run_bstr (P := Try.prog) w 22 9 5 Try.underlying22 Try.underlying5 Try.underlying9 A n c x ha hx
  have h2 := run_bstr (P := Try.prog) w 22 9 5 Try.underlying22 Try.underlying5 Try.underlying9 B m d y hb hy
  have HE := Lib.hid (bstr_eq hx hy)
  clear ha hb
  go_enter Try.func15, Try.ntmps15
  go_wp2
  go_ret
  rw [← HE.out]
  exact ⟨rfl, rfl⟩

set_option maxHeartbeats 800000 in
theorem clone_any (A : Option Addr) (n c : Nat) (m : List Nat) (w : World) (hs : Bk.Src w A n (bys m)) (hA : A = none → n = 0 ∧ c = 0) (hn : n ≤ 140737488355328) :
    Calls Try.prog 26 #[.slice A n c] w fun e w' => ∃ v, e = .returned v ∧ w'.ownsRow w.heap.size 5 1 v n (bys m) ∧ Below w.heap.size w w' := by
  have q22 : ∀ (w : World) (a : Option Addr) (n c n' c' : Nat), (binOp .eql 22 (.slice a n c) (.slice none n' c')).run Try.prog w = .ok (.bool a.isNone) w := fun w a n c n' c' => Lib.run_eql_slice_nil w 22 5 a n c n' c' Try.underlying22
  rcases A with _ | ⟨b, o, sp⟩
  · obtain ⟨rfl, rfl⟩ := hA rfl
    have hm : m = [] := by have := hs.1; simpa [bys] using this
    subst hm
    clear hA hs
    go_enter Try.func26, Try.ntmps26
    go_wp2
    go_ret
    exact ⟨_, rfl, World.ownsRow_nil _ _ _ _, Below.refl _ _⟩
  · have HS := Lib.hid (hs.below (w' := w.alloc (.cells #[] 5)) ((Below.refl _ _).alloc (Nat.le_refl _) _) (Nat.le_refl _))
    clear hs hA
    go_enter Try.func26, Try.ntmps26
    go_wp2_with (at_builtin; refine append_own _ rfl _ (.tmp 6) 22 rfl w.heap.size 5 _ 1 Try.underlying22 info5 rfl _ 0 [] rfl (World.ownsRow_lit w #[] 0 (Nat.le_refl _) (by unfold maxLen; omega) rfl) _ n c _ rfl HS.out (bys_one _) (by unfold maxLen; omega) (by omega) (by simp) ?_)
    rintro v' w' ho hb
    have HO := Lib.hid ho
    have HB := Lib.hid hb
    clear ho hb
    go_wp2
    go_ret
    exact ⟨_, rfl, HO.out, ((Below.refl _ _).alloc (Nat.le_refl _) _).trans HB.out⟩

/-- may a memory of n bytes grow so? -/
def growOk (n : Nat) (most : Int) (pages : Nat) : Bool := decide (n % 256 = 0 ∧ (n : Int) + 256 * pages ≤ min most 4096)
def growM (m : List Nat) (most : Int) (pages : Nat) : List Nat := if growOk m.length most pages then m ++ List.replicate (256 * pages) 0 else m
def growR (n : Nat) (most : Int) (pages : Nat) : Nat := if growOk n most pages then n / 256 else 4294967295

set_option maxRecDepth 100000 in
set_option maxHeartbeats 2000000 in
theorem Grow_any (A : Option Addr) (n c : Nat) (m : List Nat) (most : Int) (pages : Nat) (w : World) (hs : Bk.Src w A n (bys m)) (hA : A = none → n = 0 ∧ c = 0) (hn : n ≤ 140737488355328)
    (hm1 : -9223372036854775808 ≤ most) (hm2 : most ≤ 9223372036854775807) (hp : pages < 18446744073709551616) :
    Calls Try.prog 13 #[.slice A n c, .int .i64 most, .int .u64 pages] w fun e w' => ∃ A' c', e = .returned (.tuple #[.slice A' (growM m most pages).length c', .int .u64 (growR n most pages)]) ∧
      w'.ownsRow w.heap.size 5 1 (.slice A' (growM m most pages).length c') (growM m most pages).length (bys (growM m most pages)) ∧ Below w.heap.size w w' := by
  have hmn : m.length = n := by have := hs.1; rwa [bys_len] at this
  have HS := Lib.hid hs
  have HA := Lib.hid hA
  have HM := Lib.hid hmn
  clear hs hA hmn
  by_cases hg : growOk n most pages = true
  · have HG := Lib.hid hg
    have HX := Lib.hid (show growM m most pages = m ++ List.replicate (256 * pages) 0 by simp [growM, HM.out, hg])
    have HR := Lib.hid (show growR n most pages = n / 256 by simp [growR, hg])
    simp only [growOk, decide_eq_true_eq] at hg
    obtain ⟨h1, h2⟩ := hg
    have h3 : (n : Int) + 256 * pages ≤ most := by omega
    have h4 : n + 256 * pages ≤ 4096 := by omega
    clear h2
    have h5 : (n : Int) % 256 = 0 := by omega
    have fin : ∀ (w1 : World) (v : Value) (tm : Array Value), w1.ownsRow w.heap.size 5 1 v (n + 256 * pages) (bys m ++ List.replicate (256 * pages) (.int .u8 0)) → Below w.heap.size w w1 → tm.getD 6 undef = v → tm.getD 7 undef = .int .u64 ((n / 256 : Nat) : Int) →
        bodyPost Try.prog Try.f13 (fun e w' => ∃ A' c', e = .returned (.tuple #[.slice A' (growM m most pages).length c', .int .u64 (growR n most pages)]) ∧
          w'.ownsRow w.heap.size 5 1 (.slice A' (growM m most pages).length c') (growM m most pages).length (bys (growM m most pages)) ∧ Below w.heap.size w w') Exit.ret { tmps := tm, defers := [] } w1 := by
      intro w1 v tm HO HB e6 e7
      refine bodyPost_ret (results_tmp2 rfl _ _ _) rfl ?_
      obtain ⟨A', c', rfl, _⟩ := own_shape HO
      have hl : (growM m most pages).length = n + 256 * pages := by rw [HX.out]; simp [HM.out]
      refine ⟨A', c', ?_, ?_, HB⟩
      · rw [hl, HR.out]
        show Ending.returned (.tuple #[tm.getD 6 undef, tm.getD 7 undef]) = _
        rw [e6, e7]
      · rw [hl, HX.out, bys_app, show bys (List.replicate (256 * pages) 0) = List.replicate (256 * pages) (.int .u8 0) from by simp [bys]]
        exact HO
    rcases Int.lt_or_le most 4096 with hmo | hmo
    · go_enter Try.func13, Try.ntmps13
      go_wp2_with fail
      refine (clone_any A n c m _ HS.out HA.out hn).mono ?_
      rintro e w1 ⟨v, rfl, ho, hb⟩
      have HO := Lib.hid ho
      have HB := Lib.hid hb
      clear ho hb
      go_wp2_with (at_builtin; refine append_zeros _ rfl _ (.tmp 38) 22 3 rfl w.heap.size 5 (.int .u8 0) 1 .i64 Try.underlying22 Try.underlying3 info5 rfl rfl _ n (bys m) rfl HO.out .i64 (256 * pages) _ (by omega) rfl (by unfold maxLen; omega) (by omega) HB.out.size ?_)
      all_goals
        rintro v' w' ho hb
        have HO' := Lib.hid ho
        have HB' := Lib.hid hb
        clear ho hb HO
        go_wp2
        refine fin _ _ _ HO'.out (HB.out.trans HB'.out) rfl ?_
        show Value.int .u64 _ = .int .u64 _
        first | rfl | (congr 1; omega)
    · go_enter Try.func13, Try.ntmps13
      go_wp2_with fail
      refine (clone_any A n c m _ HS.out HA.out hn).mono ?_
      rintro e w1 ⟨v, rfl, ho, hb⟩
      have HO := Lib.hid ho
      have HB := Lib.hid hb
      clear ho hb
      go_wp2_with (at_builtin; refine append_zeros _ rfl _ (.tmp 38) 22 3 rfl w.heap.size 5 (.int .u8 0) 1 .i64 Try.underlying22 Try.underlying3 info5 rfl rfl _ n (bys m) rfl HO.out .i64 (256 * pages) _ (by omega) rfl (by unfold maxLen; omega) (by omega) HB.out.size ?_)
      all_goals
        rintro v' w' ho hb
        have HO' := Lib.hid ho
        have HB' := Lib.hid hb
        clear ho hb HO
        go_wp2
        refine fin _ _ _ HO'.out (HB.out.trans HB'.out) rfl ?_
        show Value.int .u64 _ = .int .u64 _
        first | rfl | (congr 1; omega)
  · have hg' : growOk n most pages = false := by simpa using hg
    have HX := Lib.hid (show growM m most pages = m by simp [growM, HM.out, hg'])
    have HR := Lib.hid (show growR n most pages = 4294967295 by simp [growR, hg'])
    have hno : n % 256 ≠ 0 ∨ ((n % 256 = 0 ∧ min most 4096 < (n : Int)) ∨ (n % 256 = 0 ∧ (n : Int) ≤ min most 4096 ∧ min most 4096 < (n : Int) + 256 * pages)) := by
      simp [growOk] at hg'
      omega
    clear hg hg'
    have fin : ∀ (w1 : World) (v : Value) (tm : Array Value), w1.ownsRow w.heap.size 5 1 v n (bys m) → Below w.heap.size w w1 → tm.getD 6 undef = v → tm.getD 7 undef = .int .u64 4294967295 →
        bodyPost Try.prog Try.f13 (fun e w' => ∃ A' c', e = .returned (.tuple #[.slice A' (growM m most pages).length c', .int .u64 (growR n most pages)]) ∧
          w'.ownsRow w.heap.size 5 1 (.slice A' (growM m most pages).length c') (growM m most pages).length (bys (growM m most pages)) ∧ Below w.heap.size w w') Exit.ret { tmps := tm, defers := [] } w1 := by
      intro w1 v tm HO HB e6 e7
      refine bodyPost_ret (results_tmp2 rfl _ _ _) rfl ?_
      obtain ⟨A', c', rfl, _⟩ := own_shape HO
      refine ⟨A', c', ?_, ?_, HB⟩
      · rw [HX.out, HR.out, HM.out]
        show Ending.returned (.tuple #[tm.getD 6 undef, tm.getD 7 undef]) = _
        rw [e6, e7]
        rfl
      · rw [HX.out, HM.out]
        exact HO
    rcases hno with h1 | ⟨h1, h2⟩ | ⟨h1, h2, h3⟩
    · go_enter Try.func13, Try.ntmps13
      go_wp2_with fail
      refine (clone_any A n c m _ HS.out HA.out hn).mono ?_
      rintro e w1 ⟨v, rfl, ho, hb⟩
      have HO := Lib.hid ho
      have HB := Lib.hid hb
      clear ho hb
      go_wp2_with fail
      all_goals first | exact fin _ _ _ HO.out HB.out rfl rfl | (exfalso; omega) | skip
    · go_enter Try.func13, Try.ntmps13
      go_wp2_with fail
      refine (clone_any A n c m _ HS.out HA.out hn).mono ?_
      rintro e w1 ⟨v, rfl, ho, hb⟩
      have HO := Lib.hid ho
      have HB := Lib.hid hb
      clear ho hb
      go_wp2_with fail
      all_goals first | exact fin _ _ _ HO.out HB.out rfl rfl | (exfalso; omega) | skip
    · go_enter Try.func13, Try.ntmps13
      go_wp2_with fail
      refine (clone_any A n c m _ HS.out HA.out hn).mono ?_
      rintro e w1 ⟨v, rfl, ho, hb⟩
      have HO := Lib.hid ho
      have HB := Lib.hid hb
      clear ho hb
      go_wp2_with fail
      all_goals first | exact fin _ _ _ HO.out HB.out rfl rfl | (exfalso; omega) | skip
set_option maxRecDepth 100000 in
set_option maxHeartbeats 2000000 in
theorem refGrow_any (A : Option Addr) (n c : Nat) (m : List Nat) (most : Int) (pages : Nat) (w : World) (hs : Bk.Src w A n (bys m)) (hA : A = none → n = 0 ∧ c = 0) (hn : n ≤ 140737488355328)
    (hm1 : -9223372036854775808 ≤ most) (hm2 : most ≤ 9223372036854775807) (hp : pages < 18446744073709551616) :
    Calls Try.prog 14 #[.slice A n c, .int .i64 most, .int .u64 pages] w fun e w' => ∃ A' c', e = .returned (.tuple #[.slice A' (growM m most pages).length c', .int .u64 (growR n most pages)]) ∧
      w'.ownsRow w.heap.size 5 1 (.slice A' (growM m most pages).length c') (growM m most pages).length (bys (growM m most pages)) ∧ Below w.heap.size w w' := by
  have hmn : m.length = n := by have := hs.1; rwa [bys_len] at this
  have HS := Lib.hid hs
  have HA := Lib.hid hA
  have HM := Lib.hid hmn
  clear hs hA hmn
  by_cases hg : growOk n most pages = true
  · have HG := Lib.hid hg
    have HX := Lib.hid (show growM m most pages = m ++ List.replicate (256 * pages) 0 by simp [growM, HM.out, hg])
    have HR := Lib.hid (show growR n most pages = n / 256 by simp [growR, hg])
    simp only [growOk, decide_eq_true_eq] at hg
    obtain ⟨h1, h2⟩ := hg
    have h3 : (n : Int) + 256 * pages ≤ most := by omega
    have h4 : n + 256 * pages ≤ 4096 := by omega
    have h6 : pages ≤ 16 := by omega
    clear h2
    have h5 : (n : Int) % 256 = 0 := by omega
    have fin : ∀ (w1 : World) (v : Value) (tm : Array Value), w1.ownsRow w.heap.size 5 1 v (n + 256 * pages) (bys m ++ List.replicate (256 * pages) (.int .u8 0)) → Below w.heap.size w w1 → tm.getD 6 undef = v → tm.getD 7 undef = .int .u64 ((n / 256 : Nat) : Int) →
        bodyPost Try.prog Try.f14 (fun e w' => ∃ A' c', e = .returned (.tuple #[.slice A' (growM m most pages).length c', .int .u64 (growR n most pages)]) ∧
          w'.ownsRow w.heap.size 5 1 (.slice A' (growM m most pages).length c') (growM m most pages).length (bys (growM m most pages)) ∧ Below w.heap.size w w') Exit.ret { tmps := tm, defers := [] } w1 := by
      intro w1 v tm HO HB e6 e7
      refine bodyPost_ret (results_tmp2 rfl _ _ _) rfl ?_
      obtain ⟨A', c', rfl, _⟩ := own_shape HO
      have hl : (growM m most pages).length = n + 256 * pages := by rw [HX.out]; simp [HM.out]
      refine ⟨A', c', ?_, ?_, HB⟩
      · rw [hl, HR.out]
        show Ending.returned (.tuple #[tm.getD 6 undef, tm.getD 7 undef]) = _
        rw [e6, e7]
      · rw [hl, HX.out, bys_app, show bys (List.replicate (256 * pages) 0) = List.replicate (256 * pages) (.int .u8 0) from by simp [bys]]
        exact HO
    rcases Int.lt_or_le most 4096 with hmo | hmo
    · go_enter Try.func14, Try.ntmps14
      go_wp2_with (at_builtin; refine append_copy _ rfl _ (.tmp 9) 22 rfl 5 _ 1 Try.underlying22 info5 rfl rfl A n c _ rfl HS.out (bys_one _) (by unfold maxLen; omega) (by omega) ?_)
      rintro v w1 ho hb
      have HO := Lib.hid ho
      have HB := Lib.hid hb
      clear ho hb
      go_wp2_with (at_builtin; refine append_zeros _ rfl _ (.tmp 34) 22 3 rfl w.heap.size 5 (.int .u8 0) 1 .i64 Try.underlying22 Try.underlying3 info5 rfl rfl _ n (bys m) rfl HO.out .i64 (256 * pages) _ (by omega) rfl (by unfold maxLen; omega) (by omega) HB.out.size ?_)
      all_goals
        rintro v' w' ho hb
        have HO' := Lib.hid ho
        have HB' := Lib.hid hb
        clear ho hb HO
        go_wp2
        refine fin _ _ _ HO'.out (HB.out.trans HB'.out) rfl ?_
        show Value.int .u64 _ = .int .u64 _
        first | rfl | (congr 1; omega)
    · go_enter Try.func14, Try.ntmps14
      go_wp2_with (at_builtin; refine append_copy _ rfl _ (.tmp 9) 22 rfl 5 _ 1 Try.underlying22 info5 rfl rfl A n c _ rfl HS.out (bys_one _) (by unfold maxLen; omega) (by omega) ?_)
      rintro v w1 ho hb
      have HO := Lib.hid ho
      have HB := Lib.hid hb
      clear ho hb
      go_wp2_with (at_builtin; refine append_zeros _ rfl _ (.tmp 34) 22 3 rfl w.heap.size 5 (.int .u8 0) 1 .i64 Try.underlying22 Try.underlying3 info5 rfl rfl _ n (bys m) rfl HO.out .i64 (256 * pages) _ (by omega) rfl (by unfold maxLen; omega) (by omega) HB.out.size ?_)
      all_goals
        rintro v' w' ho hb
        have HO' := Lib.hid ho
        have HB' := Lib.hid hb
        clear ho hb HO
        go_wp2
        refine fin _ _ _ HO'.out (HB.out.trans HB'.out) rfl ?_
        show Value.int .u64 _ = .int .u64 _
        first | rfl | (congr 1; omega)
  · have hg' : growOk n most pages = false := by simpa using hg
    have HX := Lib.hid (show growM m most pages = m by simp [growM, HM.out, hg'])
    have HR := Lib.hid (show growR n most pages = 4294967295 by simp [growR, hg'])
    have hno : n % 256 ≠ 0 ∨ ((n % 256 = 0 ∧ 16 < pages) ∨ (n % 256 = 0 ∧ pages ≤ 16 ∧ min most 4096 < (n : Int) + 256 * pages)) := by
      simp [growOk] at hg'
      omega
    clear hg hg'
    have fin : ∀ (w1 : World) (v : Value) (tm : Array Value), w1.ownsRow w.heap.size 5 1 v n (bys m) → Below w.heap.size w w1 → tm.getD 6 undef = v → tm.getD 7 undef = .int .u64 4294967295 →
        bodyPost Try.prog Try.f14 (fun e w' => ∃ A' c', e = .returned (.tuple #[.slice A' (growM m most pages).length c', .int .u64 (growR n most pages)]) ∧
          w'.ownsRow w.heap.size 5 1 (.slice A' (growM m most pages).length c') (growM m most pages).length (bys (growM m most pages)) ∧ Below w.heap.size w w') Exit.ret { tmps := tm, defers := [] } w1 := by
      intro w1 v tm HO HB e6 e7
      refine bodyPost_ret (results_tmp2 rfl _ _ _) rfl ?_
      obtain ⟨A', c', rfl, _⟩ := own_shape HO
      refine ⟨A', c', ?_, ?_, HB⟩
      · rw [HX.out, HR.out, HM.out]
        show Ending.returned (.tuple #[tm.getD 6 undef, tm.getD 7 undef]) = _
        rw [e6, e7]
        rfl
      · rw [HX.out, HM.out]
        exact HO
    rcases hno with h1 | ⟨h1, h2⟩ | ⟨h1, h2, h3⟩
    · go_enter Try.func14, Try.ntmps14
      go_wp2_with (at_builtin; refine append_copy _ rfl _ (.tmp 9) 22 rfl 5 _ 1 Try.underlying22 info5 rfl rfl A n c _ rfl HS.out (bys_one _) (by unfold maxLen; omega) (by omega) ?_)
      rintro v w1 ho hb
      have HO := Lib.hid ho
      have HB := Lib.hid hb
      clear ho hb
      go_wp2_with fail
      all_goals first | exact fin _ _ _ HO.out HB.out rfl rfl | (exfalso; omega) | skip
    · go_enter Try.func14, Try.ntmps14
      go_wp2_with (at_builtin; refine append_copy _ rfl _ (.tmp 9) 22 rfl 5 _ 1 Try.underlying22 info5 rfl rfl A n c _ rfl HS.out (bys_one _) (by unfold maxLen; omega) (by omega) ?_)
      rintro v w1 ho hb
      have HO := Lib.hid ho
      have HB := Lib.hid hb
      clear ho hb
      go_wp2_with fail
      all_goals first | exact fin _ _ _ HO.out HB.out rfl rfl | (exfalso; omega) | skip
    · go_enter Try.func14, Try.ntmps14
      go_wp2_with (at_builtin; refine append_copy _ rfl _ (.tmp 9) 22 rfl 5 _ 1 Try.underlying22 info5 rfl rfl A n c _ rfl HS.out (bys_one _) (by unfold maxLen; omega) (by omega) ?_)
      rintro v w1 ho hb
      have HO := Lib.hid ho
      have HB := Lib.hid hb
      clear ho hb
      go_wp2_with fail
      all_goals first | exact fin _ _ _ HO.out HB.out rfl rfl | (exfalso; omega) | skip
end Go.Proofs.Ytbopbipbbaempaa

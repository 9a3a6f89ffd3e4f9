/- The program's copies of a net: seen, marked. -/
import Derived.Test.YtcmpcpigchlhpaaHm

namespace Go.Proofs.Ytcmpcpigchlhpaa
set_option linter.unusedSectionVars false
open Go.Av
variable [Av.Start]
set_option maxRecDepth 10000
set_option maxHeartbeats 4000000
set_option linter.unusedSimpArgs false
set_option linter.unusedVariables false

/-- the net's rows in a heap: the row of legs at q, the legs' rows from q + 1 on -/
structure NetBt (h : Hp) (q : Nat) (net : List Leg) : Prop where
  row : ob h q = .row (netD net (q + 2))
  legs : ∀ i, i < net.length → LegAt h (q + 2 + 5 * i) (net.getD i default)
omit [Av.Start] in
theorem netD_frz {h : Hp} : ∀ (net : List Leg) (q : Nat), (∀ i, i < net.length → LegAt h (q + 5 * i) (net.getD i default)) → FrzL h (netD net q) (net.flatMap Leg.cs)
  | [], q, _ => ⟨rfl, fun k h1 => nomatch h1⟩
  | l :: ls, q, H => by
    rw [netD, List.flatMap_cons]
    refine FrzL.app (by simpa using (H 0 (by simp)).frz) (netD_frz ls (q + 5) fun i hi => ?_)
    have := H (i + 1) (by simpa using hi)
    rw [show q + 5 + 5 * i = q + 5 * (i + 1) by omega]
    simpa using this
omit [Av.Start] in
theorem NetBt.fw {h : Hp} {q : Nat} {net : List Leg} (H : NetBt h q net) : FWN 0 h (.vec q true 10 0 net.length net.length) (.slice (net.map Leg.d) .no) := by
  have hp : rowPart h q 10 0 net.length = netD net (q + 2) := by
    rw [rowPart, H.row]
    simp only [rowOf]
    rw [Nat.zero_mul, List.drop_zero, List.take_of_length_le (by rw [netD_len]; exact Nat.le_refl _)]
  obtain ⟨k1, k2⟩ := netD_frz net (q + 2) H.legs
  refine ⟨.slice (chunk true 10 net.length (net.flatMap Leg.cs)) .no, .vec q true 10 0 net.length net.length (net.flatMap Leg.cs) (Nat.zero_le _) (by rw [H.row]; trivial) (by rw [H.row]; simp only [rowOf, netD_len]; omega) (by rw [hp]; exact k1) ?_ (legs_cl net 0) (by omega) (fun e => nomatch e), by rw [legs_chunk net _ rfl]; exact .refl _⟩
  simp only [hp]
  exact k2
omit [Av.Start] in
theorem netD_getD : ∀ (net : List Leg) (q j c : Nat), j < net.length → c < 10 → (netD net q).getD (j * 10 + c) .junk = ((net.getD j default).dvc (q + 5 * j)).getD c .junk
  | [], _, j, _, h, _ => absurd h (by simp)
  | l :: ls, q, 0, c, h, hc => by
    rw [netD, List.getD_eq_getElem?_getD, List.getElem?_append_left (by rw [dvc_len]; omega)]
    simp [List.getD_eq_getElem?_getD]
  | l :: ls, q, j + 1, c, h, hc => by
    have := netD_getD ls (q + 5) j c (by simpa using h) hc
    rw [netD, List.getD_eq_getElem?_getD, List.getElem?_append_right (by rw [dvc_len]; omega), dvc_len, show (j + 1) * 10 + c - 10 = j * 10 + c by omega, ← List.getD_eq_getElem?_getD, this, show q + 5 + 5 * j = q + 5 * (j + 1) by omega]
    simp
omit [Av.Start] in
theorem netG_get (x : Leg → Ob) : ∀ (net : List Leg) (i j : Nat), i < net.length → j < 4 → (netG x net)[5 * i + 1 + j]? = (net.getD i default).rows[j]?
  | [], i, j, h, _ => absurd h (by simp)
  | l :: ls, 0, j, h, hj => by
    show (x l :: l.rows ++ netG x ls)[5 * 0 + 1 + j]? = _
    rw [List.getElem?_append_left (by rw [List.length_cons, Leg.rows_len]; omega), show 5 * 0 + 1 + j = j + 1 by omega, List.getElem?_cons_succ]
    simp
  | l :: ls, i + 1, j, h, hj => by
    show (x l :: l.rows ++ netG x ls)[5 * (i + 1) + 1 + j]? = _
    rw [List.getElem?_append_right (by rw [List.length_cons, Leg.rows_len]; omega), List.length_cons, Leg.rows_len, show 5 * (i + 1) + 1 + j - (4 + 1) = 5 * i + 1 + j by omega, netG_get x ls i j (by simpa using h) hj]
    simp
omit [Av.Start] in
/-- behind copyNet -/
theorem netBt_new (x : Leg → Ob) (net : List Leg) (h tl : Hp) : NetBt (h ++ (.row (netD net (h.length + 2)) :: netG x net ++ tl)) h.length net := by
  refine ⟨by rw [show h.length = h.length + 0 from rfl, ob_app]; rfl, fun i hi => ?_⟩
  have hl := netG_len x net
  have key : ∀ j, j < 4 → (h ++ (.row (netD net (h.length + 2)) :: netG x net ++ tl))[h.length + 2 + 5 * i + j]? = (net.getD i default).rows[j]? := fun j hj => by
    rw [List.getElem?_append_right (by omega), List.cons_append, show h.length + 2 + 5 * i + j - h.length = (5 * i + 1 + j) + 1 by omega, List.getElem?_cons_succ, List.getElem?_append_left (by omega), netG_get x net i j hi hj]
  refine ⟨ob_of (key 0 (by omega)), ob_of (key 1 (by omega)), ob_of (key 2 (by omega)), ob_of (key 3 (by omega)), ?_⟩
  simp only [List.length_append, List.length_cons]
  omega
omit [Av.Start] in
theorem NetBt.app {h : Hp} {q : Nat} {net : List Leg} (H : NetBt h q net) (hq : q < h.length) (tl : Hp) : NetBt (h ++ tl) q net :=
  ⟨(ob_app_l hq tl).trans H.row, fun i hi => (H.legs i hi).app tl⟩
omit [Av.Start] in
theorem NetBt.keep {h g : Hp} {q : Nat} {net : List Leg} (H : NetBt h q net) (hl : g.length = h.length) (e : ∀ r : Nat, q ≤ r → r ≤ q + 5 * net.length → g[r]? = h[r]?) : NetBt g q net := by
  have eo : ∀ r : Nat, q ≤ r → r ≤ q + 5 * net.length → ob g r = ob h r := fun r h1 h2 => by simp only [ob, List.getD_eq_getElem?_getD, e r h1 h2]
  exact ⟨(eo q (by omega) (by omega)).trans H.row, fun i hi => (H.legs i hi).keep hl fun r h1 h2 => eo r (by omega) (by omega)⟩
structure MB (g : Hp) (q : Nat) (net : List Leg) (k0 : Int) (x : Nat × Hp) : Prop where
  le : x.1 ≤ net.length
  len : x.2.length = g.length
  out : ∀ r : Nat, (r < q ∨ q + 5 * net.length < r) → x.2[r]? = g[r]?
  row : ∃ cs, ob x.2 q = .row cs ∧ cs.length = net.length * 10 ∧ (∀ j, x.1 ≤ j → j < net.length → ∀ c, c < 4 → cs.getD (j * 10 + (6 + c)) .junk = ((net.getD j default).dvc (q + 2 + 5 * j)).getD (6 + c) .junk) ∧
    ∀ j, j < x.1 → ∀ c, c < 10 → cs.getD (j * 10 + c) .junk = ((markN (net.getD j default) (kAt net k0 j)).dvc (q + 2 + 5 * j)).getD c .junk
  legs : ∀ j, x.1 ≤ j → j < net.length → LegAt x.2 (q + 2 + 5 * j) (net.getD j default)
  done : ∀ j, j < x.1 → LegAt x.2 (q + 2 + 5 * j) (markN (net.getD j default) (kAt net k0 j))
  clo : ∀ (r : Nat) z, x.2[r]? = some z → ObCl x.2.length z
omit [Av.Start] in
theorem MB.net {g : Hp} {q : Nat} {net : List Leg} {k0 : Int} {h' : Hp} (H : MB g q net k0 (net.length, h')) : NetBt h' q (markNet net k0) := by
  obtain ⟨-, -, -, ⟨cs, r1, r2, -, r3⟩, -, d, -⟩ := H
  refine ⟨?_, fun i hi => ?_⟩
  · have e : cs = netD (markNet net k0) (q + 2) := by
      refine List.ext_getElem? fun m => ?_
      by_cases hm : m < net.length * 10
      · have h1 := r3 (m / 10) (by simp only; omega) (m % 10) (by omega)
        have h2 := netD_getD (markNet net k0) (q + 2) (m / 10) (m % 10) (by rw [markNet_len]; omega) (by omega)
        have e1 : m < cs.length := by omega
        have e2 : m < (netD (markNet net k0) (q + 2)).length := by rw [netD_len, markNet_len]; omega
        rw [markNet_get k0 (by omega), ← h1, show m / 10 * 10 + m % 10 = m by omega, List.getD_eq_getElem?_getD, List.getD_eq_getElem?_getD, List.getElem?_eq_getElem e1, List.getElem?_eq_getElem e2] at h2
        rw [List.getElem?_eq_getElem e1, List.getElem?_eq_getElem e2]
        exact congrArg some h2.symm
      · rw [List.getElem?_eq_none (by omega), List.getElem?_eq_none (by rw [netD_len, markNet_len]; omega)]
    rw [r1, e]
  · rw [markNet_len] at hi
    rw [markNet_get k0 hi]
    exact d i hi
theorem markLegSB (net : List Leg) (q : Nat) (g : Hp) (k0 : Int) (H : NetBt g q net) (hql : q < g.length) (h0 : 0 ≤ k0) (hB : kAt net k0 net.length ≤ 4000000000000000000) :
    Meets Try.prog 16 [.vec q true 10 0 net.length net.length, .int .i64 k0] g fun d' h' => d' = .int .i64 (kAt net k0 net.length) ∧ h'.length = g.length ∧ (∀ r : Nat, (r < q ∨ q + 5 * net.length < r) → h'[r]? = g[r]?) ∧ NetBt h' q (markNet net k0) ∧ ∀ (r : Nat) z, h'[r]? = some z → ObCl h'.length z := by
  refine meets_ofC [] mixed Try.func16 rfl (by kernel_rfl) (by kernel_rfl) (by rw [Try.ntmps16]; simp only [List.length_cons, List.length_nil]; omega) (fun hf hcl => ?_)
  rw [Try.results16]
  have hl := kAt_le (net := net) (k0 := k0) net.length (i := 0) (by omega)
  rw [kAt_zero, Nat.zero_add] at hl
  clear hf
  simp -implicitDefEqProofs only [push_cast, Nat.reduceEqDiff, Nat.reduceBEq, Nat.reduceBNe, Nat.reduceAdd, Nat.reduceMul, Nat.reduceLT, Nat.reduceLeDiff, Nat.reduceSub, reduceCtorEq, Int.reduceToNat, ↓reduceIte]
  refine ev_loopE (fun x : Nat × Hp => [(0, .vec q true 10 0 net.length net.length), (1, .int .i64 (kAt net k0 x.1)), (5, .int .i64 x.1)]) (fun x => x.2) (MB g q net k0) (fun x => net.length - x.1) (0, g) ?_ rfl ?_ ?_
  · refine ⟨Nat.zero_le _, rfl, fun _ _ => rfl, ⟨_, H.row, netD_len _ _, fun j _ hj c hc => netD_getD net (q + 2) j (6 + c) hj (by omega), fun j hj => absurd hj (Nat.not_lt_zero j)⟩, fun j _ hj => H.legs j hj, fun j hj => absurd hj (Nat.not_lt_zero j), hcl⟩
  · simp -implicitDefEqProofs only [SlotsOk, Int.natCast_add, Int.cast_ofNat_Int, List.length_nil, Nat.le_refl, WeakTo, tokSts, tokOks, List.append_cancel_left_eq, exists_eq_left', exists_eq_left, List.append_cancel_left_eq, List.take_length, ObCl, and_true, true_and, push_cast, Nat.reduceEqDiff, Nat.reduceBEq, Nat.reduceBNe, Nat.reduceAdd, Nat.reduceMul, Nat.reduceLT, Nat.reduceLeDiff, Nat.reduceSub, reduceCtorEq, Int.reduceToNat, ↓reduceIte, kAt_zero]
    exact hql
  · rintro ⟨i, hp⟩ ⟨h1, h2, h3, ⟨cs, h4, h5, h6, h6d⟩, h7, h7d, h8⟩
    simp only at h1 h2 h3 h4 h5 h6 h6d h7 h7d h8
    have hw : IntKind.i64.wrap ((i : Int) + 1) = i + 1 := wrap_id (by omega) (by omega)
    have hset : ∀ x, ob (hp.set q x) q = x := fun x => by simp [ob, List.getD_eq_getElem?_getD, h2, hql]
    by_cases hi : i < net.length
    · have kb := kAt_le (net := net) (k0 := k0) i (i := 0) (by omega)
      have kn := kAt_le (net := net) (k0 := k0) (net.length - (i + 1)) (i := i + 1) (by omega)
      rw [kAt_zero, Nat.zero_add] at kb
      rw [show i + 1 + (net.length - (i + 1)) = net.length by omega, kAt_succ k0 hi] at kn
      have hle := h7 i (Nat.le_refl _) hi
      have hr6 := h6 i (Nat.le_refl _) hi
      generalize hl' : net.getD i default = l at kn hle hr6
      have hks := kAt_succ k0 hi
      rw [hl'] at hks
      generalize hk' : kAt net k0 i = k at kb kn hks
      simp only [markE] at kn
      have w1 : IntKind.i64.wrap (k + 1) = k + 1 := wrap_id (by omega) (by omega)
      have w2 : IntKind.i64.wrap (k + 1 + 1) = k + 2 := by rw [wrap_id (by omega) (by omega)]; omega
      have w3 : IntKind.i64.wrap (k + 2 + 1) = k + 3 := by rw [wrap_id (by omega) (by omega)]; omega
      have w4 : IntKind.i64.wrap (k + 3 + 1) = k + 4 := by rw [wrap_id (by omega) (by omega)]; omega
      have w5 : IntKind.i64.wrap (k + 4 + 1) = k + 5 := by rw [wrap_id (by omega) (by omega)]; omega
      have w6 : IntKind.i64.wrap (k + 5 + 1) = k + 6 := by rw [wrap_id (by omega) (by omega)]; omega
      obtain ⟨c1, c2, c3, c4, c5, c6, ⟨s0, s1, s2, s3, s4, s5⟩, ⟨n1, n2, n3, n4, n5, n6⟩, sg, sm⟩ := splice6 cs (i * 10) (by omega) (.str (markT k)) (.str (markT (k + 1))) (.str (markT (k + 2))) (.int .i64 (k + 3)) (.int .i64 (k + 4)) (.int .i64 (k + 5))
      rw [h5] at n1 n2 n3 n4 n5 n6
      obtain ⟨a, ha⟩ : ∃ a, a = q + 2 + 5 * i := ⟨_, rfl⟩
      rw [← ha] at hle hr6
      have g6 : (c6.drop (i * 10 + 6)).headD .junk = .vec a false 1 0 l.limits.length l.limits.length := by rw [drop_headD, sg _ (by omega)]; exact hr6 0 (by omega)
      have g7 : (c6.drop (i * 10 + 7)).headD .junk = .vec (a + 1) false 1 0 l.sold.length l.sold.length := by rw [drop_headD, sg _ (by omega)]; exact hr6 1 (by omega)
      have g8 : (c6.drop (i * 10 + 8)).headD .junk = .vec (a + 2) false 1 0 l.bids.length l.bids.length := by rw [drop_headD, sg _ (by omega)]; exact hr6 2 (by omega)
      have g9 : (c6.drop (i * 10 + 9)).headD .junk = .vec (a + 3) true 3 0 l.holds.length l.holds.length := by rw [drop_headD, sg _ (by omega)]; exact hr6 3 (by omega)
      have hq2 : q < hp.length := by omega
      have halt := hle.lt
      obtain ⟨e1, e2, e3, e4, _⟩ := hle
      have o1 : ∀ X Y, ob ((hp.set q X).set a Y) q = X := fun X Y => by rw [ob_set_ne (by omega), ob_set_eq hq2]
      have o2 : ∀ X Y Z, ob (((hp.set q X).set a Y).set (a + 1) Z) q = X := fun X Y Z => by rw [ob_set_ne (by omega), o1]
      have o3 : ∀ X Y Z U, ob ((((hp.set q X).set a Y).set (a + 1) Z).set (a + 2) U) q = X := fun X Y Z U => by rw [ob_set_ne (by omega), o2]
      have hn : (l.holds.flatMap Hold.cs).length = l.holds.length * 3 := flatMap_length (f := Hold.cs) (m := 3) (fun _ => rfl) _
      try simp -implicitDefEqProofs only [h4, h5, hset, hw, w1, w2, w3, w4, w5, w6, s0, s1, s2, s3, s4, s5, n1, n2, n3, n4, n5, n6, g6, g7, g8, g9, o1, o2, o3, List.length_set, List.set_set, push_cast, Nat.reduceEqDiff, Nat.reduceBEq, Nat.reduceBNe, Nat.reduceAdd, Nat.reduceMul, Nat.reduceLT, Nat.reduceLeDiff, Nat.reduceSub, reduceCtorEq, Int.reduceToNat, ↓reduceIte]
      repeat'
        (first
         | (refine uYes ?_; first | exact List.mem_cons_self | (simp only [List.mem_cons, List.not_mem_nil, or_false, true_or, or_true]; done))
         | (refine uNo (by kernel_rfl))
         | (refine flatMk ?_; kernel_rfl)
         | (refine And.intro ?_ ?_)
         | (intro hx)
         | ((first
             | (refine callGF ?_)
             | (refine callQGF ?_)
             | (refine skipG ?_)
             | (refine callS (markText_gives k _ (by omega)) ?_)
             | (refine callQ (markText_gives k _ (by omega)) ?_)
             | (refine callG (fun hc => (markText_gives k _ (by omega))) ?_)
             | (refine callQG (fun hc => (markText_gives k _ (by omega))) ?_)
             | (refine callS (markText_gives (k + 1) _ (by omega)) ?_)
             | (refine callQ (markText_gives (k + 1) _ (by omega)) ?_)
             | (refine callG (fun hc => (markText_gives (k + 1) _ (by omega))) ?_)
             | (refine callQG (fun hc => (markText_gives (k + 1) _ (by omega))) ?_)
             | (refine callS (markText_gives (k + 2) _ (by omega)) ?_)
             | (refine callQ (markText_gives (k + 2) _ (by omega)) ?_)
             | (refine callG (fun hc => (markText_gives (k + 2) _ (by omega))) ?_)
             | (refine callQG (fun hc => (markText_gives (k + 2) _ (by omega))) ?_)
             | (refine callM (markIntSR (k + 6) _ a _ _ _ (by rw [ob_set_ne (by omega)]; exact e1) (by simp; omega) (by simp) (ints_cl _ _) (by omega) (by omega)) ?_)
             | (refine callM (markIntSR (k + 6 + l.limits.length) _ (a + 1) _ _ _ (by rw [ob_set_ne (by omega), ob_set_ne (by omega)]; exact e2) (by simp; omega) (by simp) (ints_cl _ _) (by omega) (by omega)) ?_)
             | (refine callM (markIntSR (k + 6 + l.limits.length + l.sold.length) _ (a + 2) _ _ _ (by rw [ob_set_ne (by omega), ob_set_ne (by omega), ob_set_ne (by omega)]; exact e3) (by simp; omega) (by simp) (ints_cl _ _) (by omega) (by omega)) ?_)
             | (refine callM (markHoldSR (k + 6 + l.limits.length + l.sold.length + l.bids.length) _ (a + 3) _ _ _ (by rw [ob_set_ne (by omega), ob_set_ne (by omega), ob_set_ne (by omega), ob_set_ne (by omega)]; exact e4) (by simp; omega) hn.symm (holds_cl _ _) (by omega) (by omega)) ?_)); simp -implicitDefEqProofs only [h4, h5, hset, hw, w1, w2, w3, w4, w5, w6, s0, s1, s2, s3, s4, s5, n1, n2, n3, n4, n5, n6, g6, g7, g8, g9, o1, o2, o3, List.length_set, List.set_set, push_cast, Nat.reduceEqDiff, Nat.reduceBEq, Nat.reduceBNe, Nat.reduceAdd, Nat.reduceMul, Nat.reduceLT, Nat.reduceLeDiff, Nat.reduceSub, reduceCtorEq, Int.reduceToNat, ↓reduceIte]))
      all_goals first
        | omega
        | skip
      obtain ⟨gl, g05⟩ := splice6_get (by omega) s0 s1 s2 s3 s4 s5
      have hs4 : ∀ X Y Z U V (r : Nat), r ≠ q → r ≠ a → r ≠ a + 1 → r ≠ a + 2 → r ≠ a + 3 → (((((hp.set q X).set a Y).set (a + 1) Z).set (a + 2) U).set (a + 3) V)[r]? = hp[r]? := fun X Y Z U V r b0 b1 b2 b3 b4 => by
        rw [List.getElem?_set_ne (Ne.symm b4), List.getElem?_set_ne (Ne.symm b3), List.getElem?_set_ne (Ne.symm b2), List.getElem?_set_ne (Ne.symm b1), List.getElem?_set_ne (Ne.symm b0)]
      have o4 : ∀ X Y Z U V, ob (((((hp.set q X).set a Y).set (a + 1) Z).set (a + 2) U).set (a + 3) V) q = X := fun X Y Z U V => by rw [ob_set_ne (by omega), o3]
      have hc6 : ∀ d, d ∈ c6 → Cl hp.length d := fun d hd => by
        rcases sm d hd with hd | rfl | rfl | rfl | rfl | rfl | rfl
        · have := h8 q _ (ob_some h4)
          exact this d hd
        all_goals first
          | exact .str _
          | exact .int _ _
      have hclo : ∀ (r : Nat) z, (((((hp.set q (.row c6)).set a (.row ((seqI (k + 6) l.limits.length).map (.int .i64)))).set (a + 1) (.row ((seqI (k + 6 + l.limits.length) l.sold.length).map (.int .i64)))).set (a + 2) (.row ((seqI (k + 6 + l.limits.length + l.sold.length) l.bids.length).map (.int .i64)))).set (a + 3) (.row ((seqI (k + 6 + l.limits.length + l.sold.length + l.bids.length) (l.holds.length * 3)).map (.int .i64))))[r]? = some z → ObCl hp.length z := fun r z hz => by
        have := old_set (old_set (old_set (old_set (old_set (old_id hp hp.length) q (x := .row c6) hc6) a (cl_ints (seqI (k + 6) l.limits.length) hp.length)) (a + 1) (cl_ints (seqI (k + 6 + l.limits.length) l.sold.length) hp.length)) (a + 2) (cl_ints (seqI (k + 6 + l.limits.length + l.sold.length) l.bids.length) hp.length)) (a + 3) (cl_ints (seqI (k + 6 + l.limits.length + l.sold.length + l.bids.length) (l.holds.length * 3)) hp.length) r z hz
        rcases this with e | e
        · exact h8 r z e
        · exact e
      refine round_mkE (i + 1, _) ⟨hi, by simp only [List.length_set]; exact h2, fun r hr => ?_, ⟨c6, o4 _ _ _ _ _, n6, fun j hj1 hj2 c hc => ?_, fun j hj1 c hc => ?_⟩, fun j hj1 hj2 => ?_, fun j hj1 => ?_, ?_⟩ (by simp only; omega) rfl (by simp only [List.length_set]) (fun r z hz => .inr ?_) ?_
      · rw [← h3 r hr]
        exact hs4 _ _ _ _ _ r (by omega) (by omega) (by omega) (by omega) (by omega)
      · rw [sg _ (by simp only at hj1; omega)]
        exact h6 j (by simp only at hj1; omega) hj2 c hc
      · simp only at hj1
        by_cases hji : j < i
        · rw [gl _ (by omega)]
          exact h6d j hji c hc
        · obtain rfl : j = i := by omega
          rw [hl', hk', ← ha, markN_dvc]
          by_cases hc6' : c < 6
          · rw [g05 c hc6']
            match c, hc6' with
            | 0, _ => rfl
            | 1, _ => rfl
            | 2, _ => rfl
            | 3, _ => rfl
            | 4, _ => rfl
            | 5, _ => rfl
          · rw [sg _ (by omega), show j * 10 + c = j * 10 + (6 + (c - 6)) by omega, hr6 (c - 6) (by omega)]
            rw [show 6 + (c - 6) = c by omega]
            have hc9 : c = 6 ∨ c = 7 ∨ c = 8 ∨ c = 9 := by omega
            rcases hc9 with rfl | rfl | rfl | rfl <;> rfl
      · refine (h7 j (by simp only at hj1; omega) hj2).keep (by simp only [List.length_set]) fun r r0 r1 => ?_
        simp only at hj1
        have := hs4 (.row c6) (.row ((seqI (k + 6) l.limits.length).map (.int .i64))) (.row ((seqI (k + 6 + l.limits.length) l.sold.length).map (.int .i64))) (.row ((seqI (k + 6 + l.limits.length + l.sold.length) l.bids.length).map (.int .i64))) (.row ((seqI (k + 6 + l.limits.length + l.sold.length + l.bids.length) (l.holds.length * 3)).map (.int .i64))) r (by omega) (by omega) (by omega) (by omega) (by omega)
        simp only [ob, List.getD_eq_getElem?_getD, this]
      · simp only at hj1
        by_cases hji : j < i
        · refine (h7d j hji).keep (by simp only [List.length_set]) fun r r0 r1 => ?_
          have := hs4 (.row c6) (.row ((seqI (k + 6) l.limits.length).map (.int .i64))) (.row ((seqI (k + 6 + l.limits.length) l.sold.length).map (.int .i64))) (.row ((seqI (k + 6 + l.limits.length + l.sold.length) l.bids.length).map (.int .i64))) (.row ((seqI (k + 6 + l.limits.length + l.sold.length + l.bids.length) (l.holds.length * 3)).map (.int .i64))) r (by omega) (by omega) (by omega) (by omega) (by omega)
          simp only [ob, List.getD_eq_getElem?_getD, this]
        · obtain rfl : j = i := by omega
          rw [hl', hk', ← ha]
          refine ⟨?_, ?_, ?_, ?_, ?_⟩
          · rw [ob_set_ne (by omega), ob_set_ne (by omega), ob_set_ne (by omega), ob_set_eq (by simp; omega)]
            rfl
          · rw [ob_set_ne (by omega), ob_set_ne (by omega), ob_set_eq (by simp; omega)]
            rfl
          · rw [ob_set_ne (by omega), ob_set_eq (by simp; omega)]
            rfl
          · rw [ob_set_eq (by simp; omega), seqH_flat]
            rfl
          · simp only [List.length_set]
            omega
      · simp only [List.length_set]
        exact hclo
      · simp only [List.length_set]
        exact hclo r z hz
      · simp -implicitDefEqProofs only [SlotsOk, hw, hks, markE, List.length_set, Int.natCast_add, Int.cast_ofNat_Int, List.length_nil, Nat.le_refl, WeakTo, tokSts, tokOks, List.append_cancel_left_eq, exists_eq_left', exists_eq_left, List.append_cancel_left_eq, List.take_length, ObCl, and_true, true_and, push_cast, Nat.reduceEqDiff, Nat.reduceBEq, Nat.reduceBNe, Nat.reduceAdd, Nat.reduceMul, Nat.reduceLT, Nat.reduceLeDiff, Nat.reduceSub, reduceCtorEq, Int.reduceToNat, ↓reduceIte]
        omega
    · obtain rfl : i = net.length := by omega
      try simp -implicitDefEqProofs only [hw, push_cast, Nat.reduceEqDiff, Nat.reduceBEq, Nat.reduceBNe, Nat.reduceAdd, Nat.reduceMul, Nat.reduceLT, Nat.reduceLeDiff, Nat.reduceSub, reduceCtorEq, Int.reduceToNat, ↓reduceIte]
      repeat'
        (first
         | (refine uYes ?_; first | exact List.mem_cons_self | (simp only [List.mem_cons, List.not_mem_nil, or_false, true_or, or_true]; done))
         | (refine uNo (by kernel_rfl))
         | (refine flatMk ?_; kernel_rfl)
         | (refine And.intro ?_ ?_)
         | (intro hx)
         | ((first
             | (refine callGF ?_)
             | (refine callQGF ?_)
             | (refine skipG ?_)
             | (refine callS (in_gives _ _ _ _) ?_)
             | (refine callQ (in_gives _ _ _ _) ?_)
             | (refine callG (fun hc => (in_gives _ _ _ _)) ?_)
             | (refine callQG (fun hc => (in_gives _ _ _ _)) ?_)); simp -implicitDefEqProofs only [hw, push_cast, Nat.reduceEqDiff, Nat.reduceBEq, Nat.reduceBNe, Nat.reduceAdd, Nat.reduceMul, Nat.reduceLT, Nat.reduceLeDiff, Nat.reduceSub, reduceCtorEq, Int.reduceToNat, ↓reduceIte]))
      all_goals first
        | omega
        | skip
      · rw [List.mem_singleton.1 hx]
        trivial
      · exact ⟨_, .int .i64 (kAt net k0 net.length), hp, .refl _, .refl _, .int _ _, ⟨Nat.le_of_eq h2.symm, Nat.le_refl _, List.take_length, fun r x hx => .inr (h8 r x hx)⟩, rfl, h2, h3, MB.net ⟨Nat.le_refl _, h2, h3, ⟨cs, h4, h5, h6, h6d⟩, h7, h7d, h8⟩, h8⟩
end Go.Proofs.Ytcmpcpigchlhpaa

/- Contracts of functions of the program (Hl). -/
import Derived.Test.YtcmpcpigchlhpaaGq

namespace Go.Proofs.Ytcmpcpigchlhpaa
set_option linter.unusedSectionVars false
open Go.Av
variable [Av.Start]
set_option maxRecDepth 10000
set_option maxHeartbeats 4000000
set_option linter.unusedSimpArgs false
set_option linter.unusedVariables false

/-! A net that is marked: what lies in its rows. -/
/-- a leg marked from k on -/
def markN (l : Leg) (k : Int) : Leg := { markL l (k + 6) with name := markT k, src := markT (k + 1), dst := markT (k + 2), dep := k + 3, arr := k + 4, cap := k + 5 }
def markNet : List Leg → Int → List Leg
  | [], _ => []
  | l :: ls, k => markN l k :: markNet ls (markE l (k + 6))
omit [Av.Start] in
theorem markNet_len : ∀ (net : List Leg) (k : Int), (markNet net k).length = net.length
  | [], _ => rfl
  | l :: ls, k => by rw [markNet, List.length_cons, markNet_len ls, List.length_cons]
omit [Av.Start] in
theorem kAt_cons (l : Leg) (ls : List Leg) (k : Int) (i : Nat) : kAt (l :: ls) k (i + 1) = kAt ls (markE l (k + 6)) i := rfl
omit [Av.Start] in
theorem markNet_get : ∀ {net : List Leg} (k : Int) {i : Nat}, i < net.length → (markNet net k).getD i default = markN (net.getD i default) (kAt net k i)
  | [], _, i, h => absurd h (by simp)
  | l :: ls, k, 0, h => rfl
  | l :: ls, k, i + 1, h => by
    have := markNet_get (net := ls) (markE l (k + 6)) (i := i) (by simpa using h)
    rw [kAt_cons]
    simpa [markNet] using this
omit [Av.Start] in
theorem markN_dvc (l : Leg) (k : Int) (q : Nat) : (markN l k).dvc q = [.str (markT k), .str (markT (k + 1)), .str (markT (k + 2)), .int .i64 (k + 3), .int .i64 (k + 4), .int .i64 (k + 5), .vec q false 1 0 l.limits.length l.limits.length, .vec (q + 1) false 1 0 l.sold.length l.sold.length, .vec (q + 2) false 1 0 l.bids.length l.bids.length, .vec (q + 3) true 3 0 l.holds.length l.holds.length] := by
  simp only [markN, markL, Leg.dvc, seqI_len, seqH_len]
omit [Av.Start] in
theorem gset_ne {cs : List D} {p m : Nat} {x : D} (h : p ≠ m) : (cs.set p x).getD m .junk = cs.getD m .junk := by
  rw [List.getD_eq_getElem?_getD, List.getD_eq_getElem?_getD, List.getElem?_set_ne h]
omit [Av.Start] in
theorem gset_eq {cs : List D} {p : Nat} {x : D} (h : p < cs.length) : (cs.set p x).getD p .junk = x := by
  rw [List.getD_eq_getElem?_getD, List.getElem?_set_self h]
  rfl
omit [Av.Start] in
theorem splice6_get {cs c1 c2 c3 c4 c5 c6 : List D} {p : Nat} (hp : p + 6 ≤ cs.length) {x0 x1 x2 x3 x4 x5 : D} (s0 : cs.take p ++ x0 :: cs.drop (p + 1) = c1) (s1 : c1.take (p + 1) ++ x1 :: c1.drop (p + 1 + 1) = c2) (s2 : c2.take (p + 2) ++ x2 :: c2.drop (p + 2 + 1) = c3)
    (s3 : c3.take (p + 3) ++ x3 :: c3.drop (p + 3 + 1) = c4) (s4 : c4.take (p + 4) ++ x4 :: c4.drop (p + 4 + 1) = c5) (s5 : c5.take (p + 5) ++ x5 :: c5.drop (p + 5 + 1) = c6) :
    (∀ m, m < p → c6.getD m .junk = cs.getD m .junk) ∧ ∀ c, c < 6 → c6.getD (p + c) .junk = [x0, x1, x2, x3, x4, x5].getD c .junk := by
  rw [set_splice (by omega)] at s0
  subst s0
  rw [set_splice (by simp; omega)] at s1
  subst s1
  rw [set_splice (by simp; omega)] at s2
  subst s2
  rw [set_splice (by simp; omega)] at s3
  subst s3
  rw [set_splice (by simp; omega)] at s4
  subst s4
  rw [set_splice (by simp; omega)] at s5
  subst s5
  refine ⟨fun m hm => ?_, fun c hc => ?_⟩
  · rw [gset_ne (by omega), gset_ne (by omega), gset_ne (by omega), gset_ne (by omega), gset_ne (by omega), gset_ne (by omega)]
  · match c, hc with
    | 0, _ => rw [gset_ne (by omega), gset_ne (by omega), gset_ne (by omega), gset_ne (by omega), gset_ne (by omega)]; exact gset_eq (by omega)
    | 1, _ => rw [gset_ne (by omega), gset_ne (by omega), gset_ne (by omega), gset_ne (by omega)]; exact gset_eq (by simp; omega)
    | 2, _ => rw [gset_ne (by omega), gset_ne (by omega), gset_ne (by omega)]; exact gset_eq (by simp; omega)
    | 3, _ => rw [gset_ne (by omega), gset_ne (by omega)]; exact gset_eq (by simp; omega)
    | 4, _ => rw [gset_ne (by omega)]; exact gset_eq (by simp; omega)
    | 5, _ => exact gset_eq (by simp; omega)
structure MX (g : Hp) (q : Nat) (net : List Leg) (k0 : Int) (x : Nat × Hp) : Prop where
  le : x.1 ≤ net.length
  len : x.2.length = g.length
  out : ∀ r : Nat, (r < q ∨ q + 4 * net.length < r) → x.2[r]? = g[r]?
  row : ∃ cs, ob x.2 q = .row cs ∧ cs.length = net.length * 10 ∧ (∀ j, x.1 ≤ j → j < net.length → ∀ c, c < 4 → cs.getD (j * 10 + (6 + c)) .junk = ((net.getD j default).dvc (q + 1 + 4 * j)).getD (6 + c) .junk) ∧
    ∀ j, j < x.1 → ∀ c, c < 10 → cs.getD (j * 10 + c) .junk = ((markN (net.getD j default) (kAt net k0 j)).dvc (q + 1 + 4 * j)).getD c .junk
  legs : ∀ j, x.1 ≤ j → j < net.length → LegAt x.2 (q + 1 + 4 * j) (net.getD j default)
  done : ∀ j, j < x.1 → LegAt x.2 (q + 1 + 4 * j) (markN (net.getD j default) (kAt net k0 j))
  clo : ∀ (r : Nat) z, x.2[r]? = some z → ObCl x.2.length z
omit [Av.Start] in
theorem MX.net {g : Hp} {q : Nat} {net : List Leg} {k0 : Int} {h' : Hp} (H : MX g q net k0 (net.length, h')) : NetAt h' q (markNet net k0) := by
  obtain ⟨-, -, -, ⟨cs, r1, r2, -, r3⟩, -, d, -⟩ := H
  refine ⟨?_, fun i hi => ?_⟩
  · have e : cs = netC (markNet net k0) (q + 1) := by
      refine List.ext_getElem? fun m => ?_
      by_cases hm : m < net.length * 10
      · have h1 := r3 (m / 10) (by simp only; omega) (m % 10) (by omega)
        have h2 := netC_getD (markNet net k0) (q + 1) (m / 10) (m % 10) (by rw [markNet_len]; omega) (by omega)
        have e1 : m < cs.length := by omega
        have e2 : m < (netC (markNet net k0) (q + 1)).length := by rw [netC_len, markNet_len]; omega
        rw [markNet_get k0 (by omega), ← h1, show m / 10 * 10 + m % 10 = m by omega, List.getD_eq_getElem?_getD, List.getD_eq_getElem?_getD, List.getElem?_eq_getElem e1, List.getElem?_eq_getElem e2] at h2
        rw [List.getElem?_eq_getElem e1, List.getElem?_eq_getElem e2]
        exact congrArg some h2.symm
      · rw [List.getElem?_eq_none (by omega), List.getElem?_eq_none (by rw [netC_len, markNet_len]; omega)]
    rw [r1, e]
  · rw [markNet_len] at hi
    rw [markNet_get k0 hi]
    exact d i hi
theorem markLegSX (net : List Leg) (q : Nat) (g : Hp) (k0 : Int) (H : NetAt g q net) (hql : q < g.length) (h0 : 0 ≤ k0) (hB : kAt net k0 net.length ≤ 4000000000000000000) :
    Meets Try.prog 16 [.vec q true 10 0 net.length net.length, .int .i64 k0] g fun d' h' => d' = .int .i64 (kAt net k0 net.length) ∧ h'.length = g.length ∧ (∀ r : Nat, (r < q ∨ q + 4 * net.length < r) → h'[r]? = g[r]?) ∧ NetAt h' q (markNet net k0) := by
  refine meets_ofC [] mixed Try.func16 rfl (by kernel_rfl) (by kernel_rfl) (by rw [Try.ntmps16]; simp only [List.length_cons, List.length_nil]; omega) (fun hf hcl => ?_)
  rw [Try.results16]
  have hl := kAt_le (net := net) (k0 := k0) net.length (i := 0) (by omega)
  rw [kAt_zero, Nat.zero_add] at hl
  clear hf
  simp -implicitDefEqProofs only [push_cast, Nat.reduceEqDiff, Nat.reduceBEq, Nat.reduceBNe, Nat.reduceAdd, Nat.reduceMul, Nat.reduceLT, Nat.reduceLeDiff, Nat.reduceSub, reduceCtorEq, Int.reduceToNat, ↓reduceIte]
  refine ev_loopE (fun x : Nat × Hp => [(0, .vec q true 10 0 net.length net.length), (1, .int .i64 (kAt net k0 x.1)), (5, .int .i64 x.1)]) (fun x => x.2) (MX g q net k0) (fun x => net.length - x.1) (0, g) ?_ rfl ?_ ?_
  · refine ⟨Nat.zero_le _, rfl, fun _ _ => rfl, ⟨_, H.row, netC_len _ _, fun j _ hj c hc => netC_getD net (q + 1) j (6 + c) hj (by omega), fun j hj => absurd hj (Nat.not_lt_zero j)⟩, fun j _ hj => H.legs j hj, fun j hj => absurd hj (Nat.not_lt_zero j), hcl⟩
  · simp -implicitDefEqProofs only [SlotsOk, Int.natCast_add, Int.cast_ofNat_Int, List.length_nil, Nat.le_refl, WeakTo, tokSts, tokOks, List.append_cancel_left_eq, exists_eq_left', exists_eq_left, List.append_cancel_left_eq, List.take_length, ObCl, and_true, true_and, push_cast, Nat.reduceEqDiff, Nat.reduceBEq, Nat.reduceBNe, Nat.reduceAdd, Nat.reduceMul, Nat.reduceLT, Nat.reduceLeDiff, Nat.reduceSub, reduceCtorEq, Int.reduceToNat, ↓reduceIte, kAt_zero]
    exact hql
  · rintro ⟨i, hp⟩ ⟨h1, h2, h3, ⟨cs, h4, h5, h6, h6d⟩, h7, h7d, h8⟩
    simp only at h1 h2 h3 h4 h5 h6 h6d h7 h7d h8
    have hw : IntKind.i64.wrap ((i : Int) + 1) = i + 1 := wrap_id (by omega) (by omega)
    have hset : ∀ x, ob (hp.set q x) q = x := fun x => by simp [ob, List.getD_eq_getElem?_getD, h2, hql]
    by_cases hi : i < net.length
    · have kb := kAt_le (net := net) (k0 := k0) i (i := 0) (by omega)
      have kn := kAt_le (net := net) (k0 := k0) (net.length - (i + 1)) (i := i + 1) (by omega)
      rw [kAt_zero, Nat.zero_add] at kb
      rw [show i + 1 + (net.length - (i + 1)) = net.length by omega, kAt_succ k0 hi] at kn
      have hle := h7 i (Nat.le_refl _) hi
      have hr6 := h6 i (Nat.le_refl _) hi
      generalize hl' : net.getD i default = l at kn hle hr6
      have hks := kAt_succ k0 hi
      rw [hl'] at hks
      generalize hk' : kAt net k0 i = k at kb kn hks
      simp only [markE] at kn
      have w1 : IntKind.i64.wrap (k + 1) = k + 1 := wrap_id (by omega) (by omega)
      have w2 : IntKind.i64.wrap (k + 1 + 1) = k + 2 := by rw [wrap_id (by omega) (by omega)]; omega
      have w3 : IntKind.i64.wrap (k + 2 + 1) = k + 3 := by rw [wrap_id (by omega) (by omega)]; omega
      have w4 : IntKind.i64.wrap (k + 3 + 1) = k + 4 := by rw [wrap_id (by omega) (by omega)]; omega
      have w5 : IntKind.i64.wrap (k + 4 + 1) = k + 5 := by rw [wrap_id (by omega) (by omega)]; omega
      have w6 : IntKind.i64.wrap (k + 5 + 1) = k + 6 := by rw [wrap_id (by omega) (by omega)]; omega
      obtain ⟨c1, c2, c3, c4, c5, c6, ⟨s0, s1, s2, s3, s4, s5⟩, ⟨n1, n2, n3, n4, n5, n6⟩, sg, sm⟩ := splice6 cs (i * 10) (by omega) (.str (markT k)) (.str (markT (k + 1))) (.str (markT (k + 2))) (.int .i64 (k + 3)) (.int .i64 (k + 4)) (.int .i64 (k + 5))
      rw [h5] at n1 n2 n3 n4 n5 n6
      obtain ⟨a, ha⟩ : ∃ a, a = q + 1 + 4 * i := ⟨_, rfl⟩
      rw [← ha] at hle hr6
      have g6 : (c6.drop (i * 10 + 6)).headD .junk = .vec a false 1 0 l.limits.length l.limits.length := by rw [drop_headD, sg _ (by omega)]; exact hr6 0 (by omega)
      have g7 : (c6.drop (i * 10 + 7)).headD .junk = .vec (a + 1) false 1 0 l.sold.length l.sold.length := by rw [drop_headD, sg _ (by omega)]; exact hr6 1 (by omega)
      have g8 : (c6.drop (i * 10 + 8)).headD .junk = .vec (a + 2) false 1 0 l.bids.length l.bids.length := by rw [drop_headD, sg _ (by omega)]; exact hr6 2 (by omega)
      have g9 : (c6.drop (i * 10 + 9)).headD .junk = .vec (a + 3) true 3 0 l.holds.length l.holds.length := by rw [drop_headD, sg _ (by omega)]; exact hr6 3 (by omega)
      have hq2 : q < hp.length := by omega
      have halt := hle.lt
      obtain ⟨e1, e2, e3, e4, _⟩ := hle
      have o1 : ∀ X Y, ob ((hp.set q X).set a Y) q = X := fun X Y => by rw [ob_set_ne (by omega), ob_set_eq hq2]
      have o2 : ∀ X Y Z, ob (((hp.set q X).set a Y).set (a + 1) Z) q = X := fun X Y Z => by rw [ob_set_ne (by omega), o1]
      have o3 : ∀ X Y Z U, ob ((((hp.set q X).set a Y).set (a + 1) Z).set (a + 2) U) q = X := fun X Y Z U => by rw [ob_set_ne (by omega), o2]
      have hn : (l.holds.flatMap Hold.cs).length = l.holds.length * 3 := flatMap_length (f := Hold.cs) (m := 3) (fun _ => rfl) _
      try simp -implicitDefEqProofs only [h4, h5, hset, hw, w1, w2, w3, w4, w5, w6, s0, s1, s2, s3, s4, s5, n1, n2, n3, n4, n5, n6, g6, g7, g8, g9, o1, o2, o3, List.length_set, List.set_set, push_cast, Nat.reduceEqDiff, Nat.reduceBEq, Nat.reduceBNe, Nat.reduceAdd, Nat.reduceMul, Nat.reduceLT, Nat.reduceLeDiff, Nat.reduceSub, reduceCtorEq, Int.reduceToNat, ↓reduceIte]
      repeat'
        (first
         | (refine uYes ?_; first | exact List.mem_cons_self | (simp only [List.mem_cons, List.not_mem_nil, or_false, true_or, or_true]; done))
         | (refine uNo (by kernel_rfl))
         | (refine flatMk ?_; kernel_rfl)
         | (refine And.intro ?_ ?_)
         | (intro hx)
         | ((first
             | (refine callGF ?_)
             | (refine callQGF ?_)
             | (refine skipG ?_)
             | (refine callS (markText_gives k _ (by omega)) ?_)
             | (refine callQ (markText_gives k _ (by omega)) ?_)
             | (refine callG (fun hc => (markText_gives k _ (by omega))) ?_)
             | (refine callQG (fun hc => (markText_gives k _ (by omega))) ?_)
             | (refine callS (markText_gives (k + 1) _ (by omega)) ?_)
             | (refine callQ (markText_gives (k + 1) _ (by omega)) ?_)
             | (refine callG (fun hc => (markText_gives (k + 1) _ (by omega))) ?_)
             | (refine callQG (fun hc => (markText_gives (k + 1) _ (by omega))) ?_)
             | (refine callS (markText_gives (k + 2) _ (by omega)) ?_)
             | (refine callQ (markText_gives (k + 2) _ (by omega)) ?_)
             | (refine callG (fun hc => (markText_gives (k + 2) _ (by omega))) ?_)
             | (refine callQG (fun hc => (markText_gives (k + 2) _ (by omega))) ?_)
             | (refine callM (markIntSR (k + 6) _ a _ _ _ (by rw [ob_set_ne (by omega)]; exact e1) (by simp; omega) (by simp) (ints_cl _ _) (by omega) (by omega)) ?_)
             | (refine callM (markIntSR (k + 6 + l.limits.length) _ (a + 1) _ _ _ (by rw [ob_set_ne (by omega), ob_set_ne (by omega)]; exact e2) (by simp; omega) (by simp) (ints_cl _ _) (by omega) (by omega)) ?_)
             | (refine callM (markIntSR (k + 6 + l.limits.length + l.sold.length) _ (a + 2) _ _ _ (by rw [ob_set_ne (by omega), ob_set_ne (by omega), ob_set_ne (by omega)]; exact e3) (by simp; omega) (by simp) (ints_cl _ _) (by omega) (by omega)) ?_)
             | (refine callM (markHoldSR (k + 6 + l.limits.length + l.sold.length + l.bids.length) _ (a + 3) _ _ _ (by rw [ob_set_ne (by omega), ob_set_ne (by omega), ob_set_ne (by omega), ob_set_ne (by omega)]; exact e4) (by simp; omega) hn.symm (holds_cl _ _) (by omega) (by omega)) ?_)); simp -implicitDefEqProofs only [h4, h5, hset, hw, w1, w2, w3, w4, w5, w6, s0, s1, s2, s3, s4, s5, n1, n2, n3, n4, n5, n6, g6, g7, g8, g9, o1, o2, o3, List.length_set, List.set_set, push_cast, Nat.reduceEqDiff, Nat.reduceBEq, Nat.reduceBNe, Nat.reduceAdd, Nat.reduceMul, Nat.reduceLT, Nat.reduceLeDiff, Nat.reduceSub, reduceCtorEq, Int.reduceToNat, ↓reduceIte]))
      all_goals first
        | omega
        | skip
      obtain ⟨gl, g05⟩ := splice6_get (by omega) s0 s1 s2 s3 s4 s5
      have hs4 : ∀ X Y Z U V (r : Nat), r ≠ q → r ≠ a → r ≠ a + 1 → r ≠ a + 2 → r ≠ a + 3 → (((((hp.set q X).set a Y).set (a + 1) Z).set (a + 2) U).set (a + 3) V)[r]? = hp[r]? := fun X Y Z U V r b0 b1 b2 b3 b4 => by
        rw [List.getElem?_set_ne (Ne.symm b4), List.getElem?_set_ne (Ne.symm b3), List.getElem?_set_ne (Ne.symm b2), List.getElem?_set_ne (Ne.symm b1), List.getElem?_set_ne (Ne.symm b0)]
      have o4 : ∀ X Y Z U V, ob (((((hp.set q X).set a Y).set (a + 1) Z).set (a + 2) U).set (a + 3) V) q = X := fun X Y Z U V => by rw [ob_set_ne (by omega), o3]
      have hc6 : ∀ d, d ∈ c6 → Cl hp.length d := fun d hd => by
        rcases sm d hd with hd | rfl | rfl | rfl | rfl | rfl | rfl
        · have := h8 q _ (ob_some h4)
          exact this d hd
        all_goals first
          | exact .str _
          | exact .int _ _
      have hclo : ∀ (r : Nat) z, (((((hp.set q (.row c6)).set a (.row ((seqI (k + 6) l.limits.length).map (.int .i64)))).set (a + 1) (.row ((seqI (k + 6 + l.limits.length) l.sold.length).map (.int .i64)))).set (a + 2) (.row ((seqI (k + 6 + l.limits.length + l.sold.length) l.bids.length).map (.int .i64)))).set (a + 3) (.row ((seqI (k + 6 + l.limits.length + l.sold.length + l.bids.length) (l.holds.length * 3)).map (.int .i64))))[r]? = some z → ObCl hp.length z := fun r z hz => by
        have := old_set (old_set (old_set (old_set (old_set (old_id hp hp.length) q (x := .row c6) hc6) a (cl_ints (seqI (k + 6) l.limits.length) hp.length)) (a + 1) (cl_ints (seqI (k + 6 + l.limits.length) l.sold.length) hp.length)) (a + 2) (cl_ints (seqI (k + 6 + l.limits.length + l.sold.length) l.bids.length) hp.length)) (a + 3) (cl_ints (seqI (k + 6 + l.limits.length + l.sold.length + l.bids.length) (l.holds.length * 3)) hp.length) r z hz
        rcases this with e | e
        · exact h8 r z e
        · exact e
      refine round_mkE (i + 1, _) ⟨hi, by simp only [List.length_set]; exact h2, fun r hr => ?_, ⟨c6, o4 _ _ _ _ _, n6, fun j hj1 hj2 c hc => ?_, fun j hj1 c hc => ?_⟩, fun j hj1 hj2 => ?_, fun j hj1 => ?_, ?_⟩ (by simp only; omega) rfl (by simp only [List.length_set]) (fun r z hz => .inr ?_) ?_
      · rw [← h3 r hr]
        exact hs4 _ _ _ _ _ r (by omega) (by omega) (by omega) (by omega) (by omega)
      · rw [sg _ (by simp only at hj1; omega)]
        exact h6 j (by simp only at hj1; omega) hj2 c hc
      · simp only at hj1
        by_cases hji : j < i
        · rw [gl _ (by omega)]
          exact h6d j hji c hc
        · obtain rfl : j = i := by omega
          rw [hl', hk', ← ha, markN_dvc]
          by_cases hc6' : c < 6
          · rw [g05 c hc6']
            match c, hc6' with
            | 0, _ => rfl
            | 1, _ => rfl
            | 2, _ => rfl
            | 3, _ => rfl
            | 4, _ => rfl
            | 5, _ => rfl
          · rw [sg _ (by omega), show j * 10 + c = j * 10 + (6 + (c - 6)) by omega, hr6 (c - 6) (by omega)]
            rw [show 6 + (c - 6) = c by omega]
            have hc9 : c = 6 ∨ c = 7 ∨ c = 8 ∨ c = 9 := by omega
            rcases hc9 with rfl | rfl | rfl | rfl <;> rfl
      · refine (h7 j (by simp only at hj1; omega) hj2).keep (by simp only [List.length_set]) fun r r0 r1 => ?_
        simp only at hj1
        have := hs4 (.row c6) (.row ((seqI (k + 6) l.limits.length).map (.int .i64))) (.row ((seqI (k + 6 + l.limits.length) l.sold.length).map (.int .i64))) (.row ((seqI (k + 6 + l.limits.length + l.sold.length) l.bids.length).map (.int .i64))) (.row ((seqI (k + 6 + l.limits.length + l.sold.length + l.bids.length) (l.holds.length * 3)).map (.int .i64))) r (by omega) (by omega) (by omega) (by omega) (by omega)
        simp only [ob, List.getD_eq_getElem?_getD, this]
      · simp only at hj1
        by_cases hji : j < i
        · refine (h7d j hji).keep (by simp only [List.length_set]) fun r r0 r1 => ?_
          have := hs4 (.row c6) (.row ((seqI (k + 6) l.limits.length).map (.int .i64))) (.row ((seqI (k + 6 + l.limits.length) l.sold.length).map (.int .i64))) (.row ((seqI (k + 6 + l.limits.length + l.sold.length) l.bids.length).map (.int .i64))) (.row ((seqI (k + 6 + l.limits.length + l.sold.length + l.bids.length) (l.holds.length * 3)).map (.int .i64))) r (by omega) (by omega) (by omega) (by omega) (by omega)
          simp only [ob, List.getD_eq_getElem?_getD, this]
        · obtain rfl : j = i := by omega
          rw [hl', hk', ← ha]
          refine ⟨?_, ?_, ?_, ?_, ?_⟩
          · rw [ob_set_ne (by omega), ob_set_ne (by omega), ob_set_ne (by omega), ob_set_eq (by simp; omega)]
            rfl
          · rw [ob_set_ne (by omega), ob_set_ne (by omega), ob_set_eq (by simp; omega)]
            rfl
          · rw [ob_set_ne (by omega), ob_set_eq (by simp; omega)]
            rfl
          · rw [ob_set_eq (by simp; omega), seqH_flat]
            rfl
          · simp only [List.length_set]
            omega
      · simp only [List.length_set]
        exact hclo
      · simp only [List.length_set]
        exact hclo r z hz
      · simp -implicitDefEqProofs only [SlotsOk, hw, hks, markE, List.length_set, Int.natCast_add, Int.cast_ofNat_Int, List.length_nil, Nat.le_refl, WeakTo, tokSts, tokOks, List.append_cancel_left_eq, exists_eq_left', exists_eq_left, List.append_cancel_left_eq, List.take_length, ObCl, and_true, true_and, push_cast, Nat.reduceEqDiff, Nat.reduceBEq, Nat.reduceBNe, Nat.reduceAdd, Nat.reduceMul, Nat.reduceLT, Nat.reduceLeDiff, Nat.reduceSub, reduceCtorEq, Int.reduceToNat, ↓reduceIte]
        omega
    · obtain rfl : i = net.length := by omega
      try simp -implicitDefEqProofs only [hw, push_cast, Nat.reduceEqDiff, Nat.reduceBEq, Nat.reduceBNe, Nat.reduceAdd, Nat.reduceMul, Nat.reduceLT, Nat.reduceLeDiff, Nat.reduceSub, reduceCtorEq, Int.reduceToNat, ↓reduceIte]
      repeat'
        (first
         | (refine uYes ?_; first | exact List.mem_cons_self | (simp only [List.mem_cons, List.not_mem_nil, or_false, true_or, or_true]; done))
         | (refine uNo (by kernel_rfl))
         | (refine flatMk ?_; kernel_rfl)
         | (refine And.intro ?_ ?_)
         | (intro hx)
         | ((first
             | (refine callGF ?_)
             | (refine callQGF ?_)
             | (refine skipG ?_)
             | (refine callS (in_gives _ _ _ _) ?_)
             | (refine callQ (in_gives _ _ _ _) ?_)
             | (refine callG (fun hc => (in_gives _ _ _ _)) ?_)
             | (refine callQG (fun hc => (in_gives _ _ _ _)) ?_)); simp -implicitDefEqProofs only [hw, push_cast, Nat.reduceEqDiff, Nat.reduceBEq, Nat.reduceBNe, Nat.reduceAdd, Nat.reduceMul, Nat.reduceLT, Nat.reduceLeDiff, Nat.reduceSub, reduceCtorEq, Int.reduceToNat, ↓reduceIte]))
      all_goals first
        | omega
        | skip
      · rw [List.mem_singleton.1 hx]
        trivial
      · exact ⟨_, .int .i64 (kAt net k0 net.length), hp, .refl _, .refl _, .int _ _, ⟨Nat.le_of_eq h2.symm, Nat.le_refl _, List.take_length, fun r x hx => .inr (h8 r x hx)⟩, rfl, h2, h3, MX.net ⟨Nat.le_refl _, h2, h3, ⟨cs, h4, h5, h6, h6d⟩, h7, h7d, h8⟩⟩
end Go.Proofs.Ytcmpcpigchlhpaa

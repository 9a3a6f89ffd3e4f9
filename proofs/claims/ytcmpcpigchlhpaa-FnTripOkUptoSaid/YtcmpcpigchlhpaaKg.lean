/- A trip is drawn. -/
import Derived.Test.YtcmpcpigchlhpaaKf

namespace Go.Proofs.Ytcmpcpigchlhpaa
set_option linter.unusedSectionVars false
open Go.Av
variable [Av.Start]
set_option maxRecDepth 10000
set_option maxHeartbeats 4000000
set_option linter.unusedSimpArgs false
set_option linter.unusedVariables false

/-- the next leg that is taken, and the place behind -/
def tripIn (bs : List Int) (l : Leg) : List Leg → Int → Option Leg × Int
  | [], q => (none, q)
  | m :: ms, q => if nextB l m = true then (if pickV bs q 2 = 0 then (some m, q + 1) else tripIn bs l ms (q + 1)) else tripIn bs l ms q
theorem tripIn_place (bs : List Int) (l : Leg) : ∀ (ms : List Leg) (q : Int), q ≤ (tripIn bs l ms q).2 ∧ (tripIn bs l ms q).2 ≤ q + ms.length
  | [], q => by simp [tripIn]
  | m :: ms, q => by
    have h1 := tripIn_place bs l ms q
    have h2 := tripIn_place bs l ms (q + 1)
    rw [tripIn, List.length_cons]
    split
    · split
      · simp only; omega
      · omega
    · omega
theorem tripIn_drop (bs : List Int) (l : Leg) {net : List Leg} {i : Nat} (q : Int) (hi : i < net.length) : tripIn bs l (net.drop i) q = if nextB l (net.getD i default) = true then (if pickV bs q 2 = 0 then (some (net.getD i default), q + 1) else tripIn bs l (net.drop (i + 1)) (q + 1)) else tripIn bs l (net.drop (i + 1)) q := by
  rw [List.drop_eq_getElem_cons hi, tripIn, List.getD_eq_getElem?_getD, List.getElem?_eq_getElem hi]
  rfl
def tripOut (bs : List Int) (net : List Leg) : Nat → Leg × List (List UInt8) × Int → Leg × List (List UInt8) × Int
  | 0, s => s
  | n + 1, s => tripOut bs net n (match (tripIn bs s.1 net s.2.2).1 with
    | some m => (m, s.2.1 ++ [m.name], (tripIn bs s.1 net s.2.2).2)
    | none => (s.1, s.2.1, (tripIn bs s.1 net s.2.2).2))
theorem tripOut_place (bs : List Int) {net : List Leg} (h7 : net.length ≤ 7) : ∀ (n : Nat) (s : Leg × List (List UInt8) × Int), s.2.2 ≤ (tripOut bs net n s).2.2 ∧ (tripOut bs net n s).2.2 ≤ s.2.2 + 7 * n ∧ (tripOut bs net n s).2.1.length ≤ s.2.1.length + n
  | 0, s => by simp [tripOut]
  | n + 1, s => by
    have h1 := tripIn_place bs s.1 net s.2.2
    rw [tripOut]
    cases h : (tripIn bs s.1 net s.2.2).1 with
    | some m =>
      have h2 := tripOut_place bs h7 n (m, s.2.1 ++ [m.name], (tripIn bs s.1 net s.2.2).2)
      simp only [List.length_append, List.length_singleton] at h2 ⊢
      omega
    | none =>
      have h2 := tripOut_place bs h7 n (s.1, s.2.1, (tripIn bs s.1 net s.2.2).2)
      simp only at h2 ⊢
      omega
def trRows (b : Nat) (legs : List (List UInt8)) (fare : List UInt8) (seats : Int) (l : Leg) : Hp :=
  [.row [.slice [] .full, .str [], .int .i64 0], .row [.slice (legs.map .str) (.buf (b + 3) 1), .str fare, .int .i64 seats], .row l.cs, .buf legs.length]
omit [Av.Start] in
theorem trRows_cl (b : Nat) (legs : List (List UInt8)) (fare : List UInt8) (seats : Int) (l : Leg) : ∀ x, x ∈ trRows b legs fare seats l → ObCl (b + (trRows b legs fare seats l).length) x := by
  intro x hx
  simp only [trRows, List.mem_cons, List.not_mem_nil, or_false] at hx
  rcases hx with rfl | rfl | rfl | rfl <;> simp -implicitDefEqProofs only [trRows, Int.natCast_add, Int.cast_ofNat_Int, List.length_nil, Nat.le_refl, WeakTo, tokSts, tokOks, List.append_cancel_left_eq, exists_eq_left', exists_eq_left, List.append_cancel_left_eq, List.take_length, ObCl, and_true, true_and, push_cast, Nat.reduceEqDiff, Nat.reduceBEq, Nat.reduceBNe, Nat.reduceAdd, Nat.reduceMul, Nat.reduceLT, Nat.reduceLeDiff, Nat.reduceSub, reduceCtorEq, Int.reduceToNat, ↓reduceIte]
  all_goals omega
theorem l14Trip_ex (bs : List Int) (net : List Leg) (fs : List Far) (hn1 : 1 ≤ net.length) (hn7 : net.length ≤ 7) (hf1 : 1 ≤ fs.length) (hf3 : fs.length ≤ 3) (p : Int) (hp0 : 0 ≤ p) (H : Rd bs (p + 100)) : ∃ (t : Trip) (p' : Int), p ≤ p' ∧ p' ≤ p + 50 ∧
    ∀ (r : Nat) (h : Hp), ob h r = .row (rdC bs p) → r < h.length → Meets Try.prog 21 [.ptr r 0, .slice (net.map Leg.d) .no, .slice (fs.map Far.d) .no] h fun d' h' => d' = t.d ∧ h' = h.set r (.row (rdC bs p')) := by
  have hhi := H.hi
  have h0L : ∀ k, k ≤ 64 → (k ≤ lenMax) = True := fun k hk => eq_true (Nat.le_trans hk (by simp [lenMax]))
  -- the fare, the seats
  have vF := pickV_range (p := p) (H.up (by omega) (by omega)) fs.length (by omega)
  obtain ⟨kf, hkf⟩ : ∃ k : Nat, pickV bs p fs.length = k := ⟨_, (Int.toNat_of_nonneg vF.1).symm⟩
  have hkfl : kf < fs.length := by omega
  have hFa := far_at hkfl
  have vS := pickV_range (p := p + 1) (H.up (by omega) (by omega)) 2 (by omega)
  have wS : IntKind.i64.wrap (1 + pickV bs (p + 1) 2) = 1 + pickV bs (p + 1) 2 := wrap_id (by omega) (by omega)
  generalize fs.getD kf default = fa at hFa
  obtain ⟨S, q1, hS, hq1⟩ : ∃ (S q1 : Int), (pickV bs (p + 1 + 1) 8 = 0 ∧ S = pickV bs (p + 1 + 1 + 1) 6 ∧ q1 = p + 1 + 1 + 1 + 1 ∨ pickV bs (p + 1 + 1) 8 ≠ 0 ∧ S = 1 + pickV bs (p + 1) 2 ∧ q1 = p + 1 + 1 + 1) ∧ p ≤ q1 ∧ q1 ≤ p + 4 := by
    by_cases c : pickV bs (p + 1 + 1) 8 = 0
    · exact ⟨_, _, .inl ⟨c, rfl, rfl⟩, by omega, by omega⟩
    · exact ⟨_, _, .inr ⟨c, rfl, rfl⟩, by omega, by omega⟩
  -- the first leg
  have vL := pickV_range (p := q1) (H.up (by omega) (by omega)) net.length (by omega)
  obtain ⟨kl, hkl⟩ : ∃ k : Nat, pickV bs q1 net.length = k := ⟨_, (Int.toNat_of_nonneg vL.1).symm⟩
  have hkll : kl < net.length := by omega
  have hLe := leg_at hkll
  obtain ⟨l0, hl0⟩ : ∃ l0, net.getD kl default = l0 := ⟨_, rfl⟩
  rw [hl0] at hLe
  have vN := pickV_range (p := q1 + 1) (H.up (by omega) (by omega)) 3 (by omega)
  obtain ⟨N, hN, hN2⟩ : ∃ N : Nat, pickV bs (q1 + 1) 3 = N ∧ N ≤ 2 := ⟨(pickV bs (q1 + 1) 3).toNat, by omega, by omega⟩
  obtain ⟨V, hV⟩ : ∃ V, tripOut bs net N (l0, [l0.name], q1 + 1 + 1) = V := ⟨_, rfl⟩
  have hVp := tripOut_place bs hn7 N (l0, [l0.name], q1 + 1 + 1)
  rw [hV] at hVp
  simp only [List.length_singleton] at hVp
  -- what stands behind
  obtain ⟨q4, hq4⟩ : ∃ q4, V.2.2 = q4 := ⟨_, rfl⟩
  have vX := pickV_range (p := q4 + 1) (H.up (by omega) (by omega)) net.length (by omega)
  obtain ⟨kx, hkx⟩ : ∃ k : Nat, pickV bs (q4 + 1) net.length = k := ⟨_, (Int.toNat_of_nonneg vX.1).symm⟩
  have hkxl : kx < net.length := by omega
  have hXe := leg_at hkxl
  obtain ⟨legs2, q5, hE, hq5⟩ : ∃ (legs2 : List (List UInt8)) (q5 : Int), (pickV bs q4 12 = 0 ∧ legs2 = V.2.1 ++ [(net.getD kx default).name] ∧ q5 = q4 + 1 + 1 ∨ pickV bs q4 12 ≠ 0 ∧ legs2 = V.2.1 ∧ q5 = q4 + 1) ∧ q4 ≤ q5 ∧ q5 ≤ q4 + 2 := by
    by_cases c : pickV bs q4 12 = 0
    · exact ⟨_, _, .inl ⟨c, rfl, rfl⟩, by omega, by omega⟩
    · exact ⟨_, _, .inr ⟨c, rfl, rfl⟩, by omega, by omega⟩
  have hO := fun r g q1 q2 => of_gives bs (q5 + 1) [[110, 111, 110, 101], [65], []] .full r g q1 q2 (H.up (by omega) (by omega)) (by decide)
  obtain ⟨nm, hnm⟩ : ∃ nm, ([[110, 111, 110, 101], [65], []] : List (List UInt8)).getD (pickV bs (q5 + 1) ((3 : Nat) : Int)).toNat [] = nm := ⟨_, rfl⟩
  simp only [show ([[110, 111, 110, 101], [65], []] : List (List UInt8)).length = 3 from rfl, hnm, List.map_cons, List.map_nil] at hO
  clear hnm
  obtain ⟨fare2, q6, hG, hq6⟩ : ∃ (fare2 : List UInt8) (q6 : Int), (pickV bs q5 20 = 0 ∧ fare2 = nm ∧ q6 = q5 + 1 + 1 ∨ pickV bs q5 20 ≠ 0 ∧ fare2 = fa.name ∧ q6 = q5 + 1) ∧ q5 ≤ q6 ∧ q6 ≤ q5 + 2 := by
    by_cases c : pickV bs q5 20 = 0
    · exact ⟨_, _, .inl ⟨c, rfl, rfl⟩, by omega, by omega⟩
    · exact ⟨_, _, .inr ⟨c, rfl, rfl⟩, by omega, by omega⟩
  refine ⟨⟨legs2, fare2, S⟩, q6, by omega, by omega, fun r h hr hrl => ?_⟩
  obtain ⟨r1, r2, r3, r4, r5, r6, r7, r8, r9⟩ := rdf hrl
  have r4' := fun ls => (r4 ls).trans hr
  have hln : ∀ x ls, r < (h.set r x ++ ls).length := fun x ls => by rw [List.length_append, List.length_set]; omega
  rcases hS with ⟨c1, hSe, hq1e⟩ | ⟨c1, hSe, hq1e⟩
  · have hc1 : decide (pickV bs (p + 1 + 1) 8 = 0) = true := decide_eq_true c1
    rw [hq1e] at hkl hN
    refine meets_ofC [1000012] mixed Try.func21 rfl (by kernel_rfl) (by kernel_rfl) (by rw [Try.ntmps21]; simp only [List.length_cons, List.length_nil]; omega) (fun hf hcl => ?_)
    rw [Try.results21]
    clear hf
    try simp -implicitDefEqProofs only [hc1, hkf, hFa, hkl, hLe, hN, wS, h0L, r1, r2, r5, r6, r7, r8, List.length_set, List.set_set, push_cast, Nat.reduceEqDiff, Nat.reduceBEq, Nat.reduceBNe, Nat.reduceAdd, Nat.reduceMul, Nat.reduceLT, Nat.reduceLeDiff, Nat.reduceSub, reduceCtorEq, Int.reduceToNat, ↓reduceIte]
    repeat'
      (first
       | (refine uYes ?_; first | exact List.mem_cons_self | (simp only [List.mem_cons, List.not_mem_nil, or_false, true_or, or_true]; done))
       | (refine uNo (by kernel_rfl))
       | (refine flatMk ?_; kernel_rfl)
       | (refine And.intro ?_ ?_)
       | (intro hx)
       | ((first
           | (refine callGF ?_)
           | (refine callQGF ?_)
           | (refine skipG ?_)
           | (refine inX_mkS [r] [h.length + 1] (by rfl) (by kernel_rfl) (by simp; omega) ?_)
           | (refine callXR (dst := some 15) (r := r) (by simp) (by simp; omega) (fun h' hr' hl' => pick_gives bs p _ r h' (hr'.trans (r4' _)) hl' (H.up (by omega) (by omega))) ?_)
           | (refine callXR (dst := some 20) (r := r) (by simp) (by simp; omega) (fun h' hr' hl' => pick_gives bs _ _ r h' (hr'.trans (r3 _ _)) hl' (H.up (by omega) (by omega))) ?_)
           | (refine callM (dst := some 24) (pick_gives bs _ _ r _ (r3 _ _) (hln _ _) (H.up (by omega) (by omega))) ?_)
           | (refine callM (dst := some 27) (pick_gives bs _ _ r _ (r3 _ _) (hln _ _) (H.up (by omega) (by omega))) ?_)
           | (refine callM (dst := some 33) (pick_gives bs _ _ r _ (r3 _ _) (hln _ _) (H.up (by omega) (by omega))) ?_)
           | (refine callM (dst := some 44) (pick_gives bs _ _ r _ (r3 _ _) (hln _ _) (H.up (by omega) (by omega))) ?_)); simp -implicitDefEqProofs only [hc1, hkf, hFa, hkl, hLe, hN, wS, h0L, r1, r2, r5, r6, r7, r8, List.length_set, List.set_set, push_cast, Nat.reduceEqDiff, Nat.reduceBEq, Nat.reduceBNe, Nat.reduceAdd, Nat.reduceMul, Nat.reduceLT, Nat.reduceLeDiff, Nat.reduceSub, reduceCtorEq, Int.reduceToNat, ↓reduceIte]))
    all_goals first
      | omega
      | (simp only [lenMax]; omega)
      | exact .inr (by kernel_rfl)
      | skip
    rw [← hSe, ← hq1e]
    refine ev_loopT r (fun x : Nat × Leg × List (List UInt8) × Int => [(0, .ptr r 0), (1, .slice (net.map Leg.d) .no), (6, .ptr h.length 0), (7, .ptr (h.length + 1) 0), (8, .ptr (h.length + 2) 0), (9, .int .i64 x.1)]) (fun x => rdC bs x.2.2.2)
      (fun x => trRows h.length x.2.2.1 fa.name S x.2.1) (fun x => x.1 ≤ 2 ∧ p ≤ x.2.2.2 ∧ x.2.2.2 + 7 * x.1 ≤ p + 20 ∧ x.2.2.1.length + x.1 ≤ 3 ∧ tripOut bs net x.1 x.2 = V) (fun x => x.1) (N, l0, [l0.name], q1 + 1 + 1) ⟨hN2, by simp only; omega, by simp only; omega, by simp only [List.length_singleton]; omega, hV⟩ ?_ ?_
    · refine ⟨⟨_, ?_, Nat.le_refl _, List.take_length⟩, Nat.le_refl _, trRows_cl _ _ _ _ _, rdC_cl _ _ _, ?_⟩
      · first
          | rfl
          | (simp only [trRows, Leg.cs]; rfl)
          | trace_state
      · simp -implicitDefEqProofs only [SlotsOk, trRows, Int.natCast_add, Int.cast_ofNat_Int, List.length_nil, Nat.le_refl, WeakTo, tokSts, tokOks, List.append_cancel_left_eq, exists_eq_left', exists_eq_left, List.append_cancel_left_eq, List.take_length, ObCl, and_true, true_and, push_cast, Nat.reduceEqDiff, Nat.reduceBEq, Nat.reduceBNe, Nat.reduceAdd, Nat.reduceMul, Nat.reduceLT, Nat.reduceLeDiff, Nat.reduceSub, reduceCtorEq, Int.reduceToNat, ↓reduceIte]
        omega
    · rintro ⟨n, l, legs, q⟩ ⟨i1, i2, i3, i4, i5⟩
      simp only at i1 i2 i3 i4 i5 ⊢
      have hml : (legs.map D.str).length = legs.length := List.length_map ..
      have hmn : legs.length + 1 ≤ 64 := by omega
      simp only [trRows]
      cases n with
      | zero =>
        have hc : decide ((0 : Int) < ((0 : Nat) : Int)) = false := by decide
        obtain rfl : V = (l, legs, q) := by rw [← i5]; rfl
        simp only at hq4 hE
        subst hq4
        rcases hE with ⟨c3, e3, e4⟩ | ⟨c3, e3, e4⟩
        · have hc3 : decide (pickV bs q 12 = 0) = true := decide_eq_true c3
          subst e3 e4
          rcases hG with ⟨c4, e5, e6⟩ | ⟨c4, e5, e6⟩
          · have hc4 : decide (pickV bs (q + 1 + 1) 20 = 0) = true := decide_eq_true c4
            subst e5 e6
            try simp -implicitDefEqProofs only [hc, hc3, hc4, hkx, hXe, hml, hmn, h0L, r1, r2, r5, r6, r7, r8, List.length_set, List.set_set, push_cast, Nat.reduceEqDiff, Nat.reduceBEq, Nat.reduceBNe, Nat.reduceAdd, Nat.reduceMul, Nat.reduceLT, Nat.reduceLeDiff, Nat.reduceSub, reduceCtorEq, Int.reduceToNat, ↓reduceIte]
            repeat'
              (first
               | (refine uYes ?_; first | exact List.mem_cons_self | (simp only [List.mem_cons, List.not_mem_nil, or_false, true_or, or_true]; done))
               | (refine uNo (by kernel_rfl))
               | (refine flatMk ?_; kernel_rfl)
               | (refine And.intro ?_ ?_)
               | (intro hx)
               | ((first
                   | (refine callGF ?_)
                   | (refine callQGF ?_)
                   | (refine skipG ?_)
                   | (refine callM (dst := some 78) (pick_gives bs _ _ r _ (r3 _ _) (hln _ _) (H.up (by omega) (by omega))) ?_)
                   | (refine inX_mkS [r, h.length + 3] [] (by rfl) (by kernel_rfl) (by simp; omega) ?_)
                   | (refine callXR (dst := some 86) (r := r) (by simp) (by simp; omega) (fun h' hr' hl' => pick_gives bs _ _ r h' (hr'.trans (r3 _ _)) hl' (H.up (by omega) (by omega))) ?_)
                   | (refine callM (dst := some 94) (pick_gives bs _ _ r _ (r3 _ _) (hln _ _) (H.up (by omega) (by omega))) ?_)
                   | (refine callM (dst := some 98) (hO r _ (r3 _ _) (hln _ _)) ?_)); simp -implicitDefEqProofs only [hc, hc3, hc4, hkx, hXe, hml, hmn, h0L, r1, r2, r5, r6, r7, r8, List.length_set, List.set_set, push_cast, Nat.reduceEqDiff, Nat.reduceBEq, Nat.reduceBNe, Nat.reduceAdd, Nat.reduceMul, Nat.reduceLT, Nat.reduceLeDiff, Nat.reduceSub, reduceCtorEq, Int.reduceToNat, ↓reduceIte]))
            all_goals first
              | omega
              | (simp only [lenMax]; omega)
              | exact back_rd hrl _ _ _
              | (simp; done)
              | trace_state
          · have hc4 : decide (pickV bs (q + 1 + 1) 20 = 0) = false := decide_eq_false c4
            subst e5 e6
            try simp -implicitDefEqProofs only [hc, hc3, hc4, hkx, hXe, hml, hmn, h0L, r1, r2, r5, r6, r7, r8, List.length_set, List.set_set, push_cast, Nat.reduceEqDiff, Nat.reduceBEq, Nat.reduceBNe, Nat.reduceAdd, Nat.reduceMul, Nat.reduceLT, Nat.reduceLeDiff, Nat.reduceSub, reduceCtorEq, Int.reduceToNat, ↓reduceIte]
            repeat'
              (first
               | (refine uYes ?_; first | exact List.mem_cons_self | (simp only [List.mem_cons, List.not_mem_nil, or_false, true_or, or_true]; done))
               | (refine uNo (by kernel_rfl))
               | (refine flatMk ?_; kernel_rfl)
               | (refine And.intro ?_ ?_)
               | (intro hx)
               | ((first
                   | (refine callGF ?_)
                   | (refine callQGF ?_)
                   | (refine skipG ?_)
                   | (refine callM (dst := some 78) (pick_gives bs _ _ r _ (r3 _ _) (hln _ _) (H.up (by omega) (by omega))) ?_)
                   | (refine inX_mkS [r, h.length + 3] [] (by rfl) (by kernel_rfl) (by simp; omega) ?_)
                   | (refine callXR (dst := some 86) (r := r) (by simp) (by simp; omega) (fun h' hr' hl' => pick_gives bs _ _ r h' (hr'.trans (r3 _ _)) hl' (H.up (by omega) (by omega))) ?_)
                   | (refine callM (dst := some 94) (pick_gives bs _ _ r _ (r3 _ _) (hln _ _) (H.up (by omega) (by omega))) ?_)); simp -implicitDefEqProofs only [hc, hc3, hc4, hkx, hXe, hml, hmn, h0L, r1, r2, r5, r6, r7, r8, List.length_set, List.set_set, push_cast, Nat.reduceEqDiff, Nat.reduceBEq, Nat.reduceBNe, Nat.reduceAdd, Nat.reduceMul, Nat.reduceLT, Nat.reduceLeDiff, Nat.reduceSub, reduceCtorEq, Int.reduceToNat, ↓reduceIte]))
            all_goals first
              | omega
              | (simp only [lenMax]; omega)
              | exact back_rd hrl _ _ _
              | (simp; done)
              | trace_state
        · have hc3 : decide (pickV bs q 12 = 0) = false := decide_eq_false c3
          subst e3 e4
          rcases hG with ⟨c4, e5, e6⟩ | ⟨c4, e5, e6⟩
          · have hc4 : decide (pickV bs (q + 1) 20 = 0) = true := decide_eq_true c4
            subst e5 e6
            try simp -implicitDefEqProofs only [hc, hc3, hc4, hkx, hXe, hml, hmn, h0L, r1, r2, r5, r6, r7, r8, List.length_set, List.set_set, push_cast, Nat.reduceEqDiff, Nat.reduceBEq, Nat.reduceBNe, Nat.reduceAdd, Nat.reduceMul, Nat.reduceLT, Nat.reduceLeDiff, Nat.reduceSub, reduceCtorEq, Int.reduceToNat, ↓reduceIte]
            repeat'
              (first
               | (refine uYes ?_; first | exact List.mem_cons_self | (simp only [List.mem_cons, List.not_mem_nil, or_false, true_or, or_true]; done))
               | (refine uNo (by kernel_rfl))
               | (refine flatMk ?_; kernel_rfl)
               | (refine And.intro ?_ ?_)
               | (intro hx)
               | ((first
                   | (refine callGF ?_)
                   | (refine callQGF ?_)
                   | (refine skipG ?_)
                   | (refine callM (dst := some 78) (pick_gives bs _ _ r _ (r3 _ _) (hln _ _) (H.up (by omega) (by omega))) ?_)
                   | (refine callM (dst := some 94) (pick_gives bs _ _ r _ (r3 _ _) (hln _ _) (H.up (by omega) (by omega))) ?_)
                   | (refine callM (dst := some 98) (hO r _ (r3 _ _) (hln _ _)) ?_)); simp -implicitDefEqProofs only [hc, hc3, hc4, hkx, hXe, hml, hmn, h0L, r1, r2, r5, r6, r7, r8, List.length_set, List.set_set, push_cast, Nat.reduceEqDiff, Nat.reduceBEq, Nat.reduceBNe, Nat.reduceAdd, Nat.reduceMul, Nat.reduceLT, Nat.reduceLeDiff, Nat.reduceSub, reduceCtorEq, Int.reduceToNat, ↓reduceIte]))
            all_goals first
              | omega
              | (simp only [lenMax]; omega)
              | exact back_rd hrl _ _ _
              | (simp; done)
              | trace_state
          · have hc4 : decide (pickV bs (q + 1) 20 = 0) = false := decide_eq_false c4
            subst e5 e6
            try simp -implicitDefEqProofs only [hc, hc3, hc4, hkx, hXe, hml, hmn, h0L, r1, r2, r5, r6, r7, r8, List.length_set, List.set_set, push_cast, Nat.reduceEqDiff, Nat.reduceBEq, Nat.reduceBNe, Nat.reduceAdd, Nat.reduceMul, Nat.reduceLT, Nat.reduceLeDiff, Nat.reduceSub, reduceCtorEq, Int.reduceToNat, ↓reduceIte]
            repeat'
              (first
               | (refine uYes ?_; first | exact List.mem_cons_self | (simp only [List.mem_cons, List.not_mem_nil, or_false, true_or, or_true]; done))
               | (refine uNo (by kernel_rfl))
               | (refine flatMk ?_; kernel_rfl)
               | (refine And.intro ?_ ?_)
               | (intro hx)
               | ((first
                   | (refine callGF ?_)
                   | (refine callQGF ?_)
                   | (refine skipG ?_)
                   | (refine callM (dst := some 78) (pick_gives bs _ _ r _ (r3 _ _) (hln _ _) (H.up (by omega) (by omega))) ?_)
                   | (refine callM (dst := some 94) (pick_gives bs _ _ r _ (r3 _ _) (hln _ _) (H.up (by omega) (by omega))) ?_)); simp -implicitDefEqProofs only [hc, hc3, hc4, hkx, hXe, hml, hmn, h0L, r1, r2, r5, r6, r7, r8, List.length_set, List.set_set, push_cast, Nat.reduceEqDiff, Nat.reduceBEq, Nat.reduceBNe, Nat.reduceAdd, Nat.reduceMul, Nat.reduceLT, Nat.reduceLeDiff, Nat.reduceSub, reduceCtorEq, Int.reduceToNat, ↓reduceIte]))
            all_goals first
              | omega
              | (simp only [lenMax]; omega)
              | exact back_rd hrl _ _ _
              | (simp; done)
              | trace_state
      | succ n =>
        have hc : decide ((0 : Int) < (n : Int) + 1) = true := decide_eq_true (by omega)
        have wn : IntKind.i64.wrap ((n : Int) + 1 - 1) = n := (wrap_id (by omega) (by omega)).trans (by omega)
        have hpl := tripIn_place bs l net q
        rw [tripOut] at i5
        simp only at i5
        generalize hR : tripIn bs l net q = R at i5 hpl
        try simp -implicitDefEqProofs only [hc, h0L, r1, r2, r5, r6, r7, r8, List.length_set, List.set_set, push_cast, Nat.reduceEqDiff, Nat.reduceBEq, Nat.reduceBNe, Nat.reduceAdd, Nat.reduceMul, Nat.reduceLT, Nat.reduceLeDiff, Nat.reduceSub, reduceCtorEq, Int.reduceToNat, ↓reduceIte]
        repeat'
          (first
           | (refine uYes ?_; first | exact List.mem_cons_self | (simp only [List.mem_cons, List.not_mem_nil, or_false, true_or, or_true]; done))
           | (refine uNo (by kernel_rfl))
           | (refine flatMk ?_; kernel_rfl)
           | (refine And.intro ?_ ?_)
           | (intro hx)
           | ((first
               | (refine callGF ?_)
               | (refine callQGF ?_)
               | (refine skipG ?_)
               | (refine callS (in_gives _ _ _ _) ?_)
               | (refine callQ (in_gives _ _ _ _) ?_)
               | (refine callG (fun hc => (in_gives _ _ _ _)) ?_)
               | (refine callQG (fun hc => (in_gives _ _ _ _)) ?_)); simp -implicitDefEqProofs only [hc, h0L, r1, r2, r5, r6, r7, r8, List.length_set, List.set_set, push_cast, Nat.reduceEqDiff, Nat.reduceBEq, Nat.reduceBNe, Nat.reduceAdd, Nat.reduceMul, Nat.reduceLT, Nat.reduceLeDiff, Nat.reduceSub, reduceCtorEq, Int.reduceToNat, ↓reduceIte]))
        refine ev_loopT r (fun s : Nat × Int => [(0, .ptr r 0), (1, .slice (net.map Leg.d) .no), (6, .ptr h.length 0), (7, .ptr (h.length + 1) 0), (8, .ptr (h.length + 2) 0), (9, .int .i64 ((n : Int) + 1)), (10, .int .i64 s.1)]) (fun s => rdC bs s.2)
          (fun _ => trRows h.length legs fa.name S l) (fun s => s.1 ≤ net.length ∧ q ≤ s.2 ∧ s.2 ≤ q + s.1 ∧ tripIn bs l (net.drop s.1) s.2 = R) (fun s => net.length - s.1) (0, q) ⟨Nat.zero_le _, by simp only; omega, by simp only; omega, hR⟩ ?_ ?_
        · refine ⟨⟨_, ?_, Nat.le_refl _, List.take_length⟩, Nat.le_refl _, trRows_cl _ _ _ _ _, rdC_cl _ _ _, ?_⟩
          · first
              | rfl
              | trace_state
          · simp -implicitDefEqProofs only [SlotsOk, trRows, Int.natCast_add, Int.cast_ofNat_Int, List.length_nil, Nat.le_refl, WeakTo, tokSts, tokOks, List.append_cancel_left_eq, exists_eq_left', exists_eq_left, List.append_cancel_left_eq, List.take_length, ObCl, and_true, true_and, push_cast, Nat.reduceEqDiff, Nat.reduceBEq, Nat.reduceBNe, Nat.reduceAdd, Nat.reduceMul, Nat.reduceLT, Nat.reduceLeDiff, Nat.reduceSub, reduceCtorEq, Int.reduceToNat, ↓reduceIte]
            omega
        · rintro ⟨i, u⟩ ⟨j1, j2, j3, j4⟩
          simp only at j1 j2 j3 j4 ⊢
          simp only [trRows]
          have wi : IntKind.i64.wrap ((i : Int) + 1) = (i : Int) + 1 := wrap_id (by omega) (by omega)
          by_cases hlt : i < net.length
          · have hci : decide ((i : Int) < net.length) = true := decide_eq_true (by omega)
            have hIe := leg_at hlt
            have v := pickV_range (p := u) (H.up (by omega) (by omega)) 2 (by omega)
            rw [tripIn_drop bs l u hlt] at j4
            generalize net.getD i default = m at hIe j4
            have hNx := fun g => next_gives l m g
            cases hb : nextB l m with
            | true =>
              rw [if_pos hb] at j4
              rw [hb] at hNx
              by_cases hz : pickV bs u 2 = 0
              · have hcz : decide (pickV bs u 2 = 0) = true := decide_eq_true hz
                rw [if_pos hz] at j4
                subst j4
                try simp -implicitDefEqProofs only [hci, hcz, hIe, wi, wn, hml, hmn, h0L, r1, r2, r5, r6, r7, r8, List.length_set, List.set_set, push_cast, Nat.reduceEqDiff, Nat.reduceBEq, Nat.reduceBNe, Nat.reduceAdd, Nat.reduceMul, Nat.reduceLT, Nat.reduceLeDiff, Nat.reduceSub, reduceCtorEq, Int.reduceToNat, ↓reduceIte]
                repeat'
                  (first
                   | (refine uYes ?_; first | exact List.mem_cons_self | (simp only [List.mem_cons, List.not_mem_nil, or_false, true_or, or_true]; done))
                   | (refine uNo (by kernel_rfl))
                   | (refine flatMk ?_; kernel_rfl)
                   | (refine And.intro ?_ ?_)
                   | (intro hx)
                   | ((first
                       | (refine callGF ?_)
                       | (refine callQGF ?_)
                       | (refine skipG ?_)
                       | (refine inX_mk [r] (by kernel_rfl) (by simp; omega) ?_)
                       | (refine callXR (dst := some 63) (r := r) (by simp) (by simp; omega) (fun h' hr' hl' => pick_gives bs _ _ r h' (hr'.trans (r3 _ _)) hl' (H.up (by omega) (by omega))) ?_)
                       | (refine callXG (dst := some 60) (fun g => hNx g) ?_)); simp -implicitDefEqProofs only [hci, hcz, hIe, wi, wn, hml, hmn, h0L, r1, r2, r5, r6, r7, r8, List.length_set, List.set_set, push_cast, Nat.reduceEqDiff, Nat.reduceBEq, Nat.reduceBNe, Nat.reduceAdd, Nat.reduceMul, Nat.reduceLT, Nat.reduceLeDiff, Nat.reduceSub, reduceCtorEq, Int.reduceToNat, ↓reduceIte]))
                all_goals first
                  | omega
                  | (simp only [lenMax]; omega)
                  | skip
                simp only at i5 hpl
                refine round_mkT (n, m, legs ++ [m.name], u + 1) ⟨by omega, by simp only; omega, by simp only; omega, by simp only [List.length_append, List.length_singleton]; omega, i5⟩ (by simp only; omega) ⟨⟨_, by simp [trRows, Leg.cs], Nat.le_refl _, List.take_length⟩, by simp [trRows], trRows_cl _ _ _ _ _, rdC_cl _ _ _, ?_⟩
                simp -implicitDefEqProofs only [SlotsOk, trRows, Int.natCast_add, Int.cast_ofNat_Int, List.length_nil, Nat.le_refl, WeakTo, tokSts, tokOks, List.append_cancel_left_eq, exists_eq_left', exists_eq_left, List.append_cancel_left_eq, List.take_length, ObCl, and_true, true_and, push_cast, Nat.reduceEqDiff, Nat.reduceBEq, Nat.reduceBNe, Nat.reduceAdd, Nat.reduceMul, Nat.reduceLT, Nat.reduceLeDiff, Nat.reduceSub, reduceCtorEq, Int.reduceToNat, ↓reduceIte]
                omega
              · have hcz : decide (pickV bs u 2 = 0) = false := decide_eq_false hz
                rw [if_neg hz] at j4
                try simp -implicitDefEqProofs only [hci, hcz, hIe, wi, wn, h0L, r1, r2, r5, r6, r7, r8, List.length_set, List.set_set, push_cast, Nat.reduceEqDiff, Nat.reduceBEq, Nat.reduceBNe, Nat.reduceAdd, Nat.reduceMul, Nat.reduceLT, Nat.reduceLeDiff, Nat.reduceSub, reduceCtorEq, Int.reduceToNat, ↓reduceIte]
                repeat'
                  (first
                   | (refine uYes ?_; first | exact List.mem_cons_self | (simp only [List.mem_cons, List.not_mem_nil, or_false, true_or, or_true]; done))
                   | (refine uNo (by kernel_rfl))
                   | (refine flatMk ?_; kernel_rfl)
                   | (refine And.intro ?_ ?_)
                   | (intro hx)
                   | ((first
                       | (refine callGF ?_)
                       | (refine callQGF ?_)
                       | (refine skipG ?_)
                       | (refine inX_mk [r] (by kernel_rfl) (by simp; omega) ?_)
                       | (refine callXR (dst := some 63) (r := r) (by simp) (by simp; omega) (fun h' hr' hl' => pick_gives bs _ _ r h' (hr'.trans (r3 _ _)) hl' (H.up (by omega) (by omega))) ?_)
                       | (refine callXG (dst := some 60) (fun g => hNx g) ?_)); simp -implicitDefEqProofs only [hci, hcz, hIe, wi, wn, h0L, r1, r2, r5, r6, r7, r8, List.length_set, List.set_set, push_cast, Nat.reduceEqDiff, Nat.reduceBEq, Nat.reduceBNe, Nat.reduceAdd, Nat.reduceMul, Nat.reduceLT, Nat.reduceLeDiff, Nat.reduceSub, reduceCtorEq, Int.reduceToNat, ↓reduceIte]))
                all_goals first
                  | omega
                  | (simp only [lenMax]; omega)
                  | skip
                refine round_mkT (i + 1, u + 1) ⟨by omega, by simp only; omega, by simp only; omega, j4⟩ (by simp only; omega) ⟨⟨_, rfl, Nat.le_refl _, List.take_length⟩, by simp [trRows], trRows_cl _ _ _ _ _, rdC_cl _ _ _, ?_⟩
                simp -implicitDefEqProofs only [SlotsOk, trRows, Int.natCast_add, Int.cast_ofNat_Int, List.length_nil, Nat.le_refl, WeakTo, tokSts, tokOks, List.append_cancel_left_eq, exists_eq_left', exists_eq_left, List.append_cancel_left_eq, List.take_length, ObCl, and_true, true_and, push_cast, Nat.reduceEqDiff, Nat.reduceBEq, Nat.reduceBNe, Nat.reduceAdd, Nat.reduceMul, Nat.reduceLT, Nat.reduceLeDiff, Nat.reduceSub, reduceCtorEq, Int.reduceToNat, ↓reduceIte]
                omega
            | false =>
              rw [if_neg (by rw [hb]; exact Bool.false_ne_true)] at j4
              rw [hb] at hNx
              try simp -implicitDefEqProofs only [hci, hIe, wi, wn, h0L, r1, r2, r5, r6, r7, r8, List.length_set, List.set_set, push_cast, Nat.reduceEqDiff, Nat.reduceBEq, Nat.reduceBNe, Nat.reduceAdd, Nat.reduceMul, Nat.reduceLT, Nat.reduceLeDiff, Nat.reduceSub, reduceCtorEq, Int.reduceToNat, ↓reduceIte]
              repeat'
                (first
                 | (refine uYes ?_; first | exact List.mem_cons_self | (simp only [List.mem_cons, List.not_mem_nil, or_false, true_or, or_true]; done))
                 | (refine uNo (by kernel_rfl))
                 | (refine flatMk ?_; kernel_rfl)
                 | (refine And.intro ?_ ?_)
                 | (intro hx)
                 | ((first
                     | (refine callGF ?_)
                     | (refine callQGF ?_)
                     | (refine skipG ?_)
                     | (refine inX_mk [r] (by kernel_rfl) (by simp; omega) ?_)
                     | (refine callXR (dst := some 63) (r := r) (by simp) (by simp; omega) (fun h' hr' hl' => pick_gives bs _ _ r h' (hr'.trans (r3 _ _)) hl' (H.up (by omega) (by omega))) ?_)
                     | (refine callXG (dst := some 60) (fun g => hNx g) ?_)); simp -implicitDefEqProofs only [hci, hIe, wi, wn, h0L, r1, r2, r5, r6, r7, r8, List.length_set, List.set_set, push_cast, Nat.reduceEqDiff, Nat.reduceBEq, Nat.reduceBNe, Nat.reduceAdd, Nat.reduceMul, Nat.reduceLT, Nat.reduceLeDiff, Nat.reduceSub, reduceCtorEq, Int.reduceToNat, ↓reduceIte]))
              all_goals first
                | omega
                | (simp only [lenMax]; omega)
                | skip
              refine round_mkT (i + 1, u) ⟨by omega, by simp only; omega, by simp only; omega, j4⟩ (by simp only; omega) ⟨⟨_, rfl, Nat.le_refl _, List.take_length⟩, by simp [trRows], trRows_cl _ _ _ _ _, rdC_cl _ _ _, ?_⟩
              simp -implicitDefEqProofs only [SlotsOk, trRows, Int.natCast_add, Int.cast_ofNat_Int, List.length_nil, Nat.le_refl, WeakTo, tokSts, tokOks, List.append_cancel_left_eq, exists_eq_left', exists_eq_left, List.append_cancel_left_eq, List.take_length, ObCl, and_true, true_and, push_cast, Nat.reduceEqDiff, Nat.reduceBEq, Nat.reduceBNe, Nat.reduceAdd, Nat.reduceMul, Nat.reduceLT, Nat.reduceLeDiff, Nat.reduceSub, reduceCtorEq, Int.reduceToNat, ↓reduceIte]
              omega
          · obtain rfl : i = net.length := by omega
            have hci : decide ((net.length : Int) < net.length) = false := decide_eq_false (by omega)
            rw [List.drop_length, tripIn] at j4
            subst j4
            try simp -implicitDefEqProofs only [hc, hci, wn, h0L, r1, r2, r5, r6, r7, r8, List.length_set, List.set_set, push_cast, Nat.reduceEqDiff, Nat.reduceBEq, Nat.reduceBNe, Nat.reduceAdd, Nat.reduceMul, Nat.reduceLT, Nat.reduceLeDiff, Nat.reduceSub, reduceCtorEq, Int.reduceToNat, ↓reduceIte]
            repeat'
              (first
               | (refine uYes ?_; first | exact List.mem_cons_self | (simp only [List.mem_cons, List.not_mem_nil, or_false, true_or, or_true]; done))
               | (refine uNo (by kernel_rfl))
               | (refine flatMk ?_; kernel_rfl)
               | (refine And.intro ?_ ?_)
               | (intro hx)
               | ((first
                   | (refine callGF ?_)
                   | (refine callQGF ?_)
                   | (refine skipG ?_)
                   | (refine callS (in_gives _ _ _ _) ?_)
                   | (refine callQ (in_gives _ _ _ _) ?_)
                   | (refine callG (fun hc => (in_gives _ _ _ _)) ?_)
                   | (refine callQG (fun hc => (in_gives _ _ _ _)) ?_)); simp -implicitDefEqProofs only [hc, hci, wn, h0L, r1, r2, r5, r6, r7, r8, List.length_set, List.set_set, push_cast, Nat.reduceEqDiff, Nat.reduceBEq, Nat.reduceBNe, Nat.reduceAdd, Nat.reduceMul, Nat.reduceLT, Nat.reduceLeDiff, Nat.reduceSub, reduceCtorEq, Int.reduceToNat, ↓reduceIte]))
            all_goals first
              | omega
              | (simp only [lenMax]; omega)
              | skip
            simp only at i5 hpl
            refine round_mkT (n, l, legs, u) ⟨by omega, by simp only; omega, by simp only; omega, by simp only; omega, i5⟩ (by simp only; omega) ⟨⟨_, rfl, Nat.le_refl _, List.take_length⟩, by simp [trRows], trRows_cl _ _ _ _ _, rdC_cl _ _ _, ?_⟩
            simp -implicitDefEqProofs only [SlotsOk, trRows, Int.natCast_add, Int.cast_ofNat_Int, List.length_nil, Nat.le_refl, WeakTo, tokSts, tokOks, List.append_cancel_left_eq, exists_eq_left', exists_eq_left, List.append_cancel_left_eq, List.take_length, ObCl, and_true, true_and, push_cast, Nat.reduceEqDiff, Nat.reduceBEq, Nat.reduceBNe, Nat.reduceAdd, Nat.reduceMul, Nat.reduceLT, Nat.reduceLeDiff, Nat.reduceSub, reduceCtorEq, Int.reduceToNat, ↓reduceIte]
            omega
  · have hc1 : decide (pickV bs (p + 1 + 1) 8 = 0) = false := decide_eq_false c1
    rw [hq1e] at hkl hN
    refine meets_ofC [1000012] mixed Try.func21 rfl (by kernel_rfl) (by kernel_rfl) (by rw [Try.ntmps21]; simp only [List.length_cons, List.length_nil]; omega) (fun hf hcl => ?_)
    rw [Try.results21]
    clear hf
    try simp -implicitDefEqProofs only [hc1, hkf, hFa, hkl, hLe, hN, wS, h0L, r1, r2, r5, r6, r7, r8, List.length_set, List.set_set, push_cast, Nat.reduceEqDiff, Nat.reduceBEq, Nat.reduceBNe, Nat.reduceAdd, Nat.reduceMul, Nat.reduceLT, Nat.reduceLeDiff, Nat.reduceSub, reduceCtorEq, Int.reduceToNat, ↓reduceIte]
    repeat'
      (first
       | (refine uYes ?_; first | exact List.mem_cons_self | (simp only [List.mem_cons, List.not_mem_nil, or_false, true_or, or_true]; done))
       | (refine uNo (by kernel_rfl))
       | (refine flatMk ?_; kernel_rfl)
       | (refine And.intro ?_ ?_)
       | (intro hx)
       | ((first
           | (refine callGF ?_)
           | (refine callQGF ?_)
           | (refine skipG ?_)
           | (refine inX_mkS [r] [h.length + 1] (by rfl) (by kernel_rfl) (by simp; omega) ?_)
           | (refine callXR (dst := some 15) (r := r) (by simp) (by simp; omega) (fun h' hr' hl' => pick_gives bs p _ r h' (hr'.trans (r4' _)) hl' (H.up (by omega) (by omega))) ?_)
           | (refine callXR (dst := some 20) (r := r) (by simp) (by simp; omega) (fun h' hr' hl' => pick_gives bs _ _ r h' (hr'.trans (r3 _ _)) hl' (H.up (by omega) (by omega))) ?_)
           | (refine callM (dst := some 24) (pick_gives bs _ _ r _ (r3 _ _) (hln _ _) (H.up (by omega) (by omega))) ?_)
           | (refine callM (dst := some 33) (pick_gives bs _ _ r _ (r3 _ _) (hln _ _) (H.up (by omega) (by omega))) ?_)
           | (refine callM (dst := some 44) (pick_gives bs _ _ r _ (r3 _ _) (hln _ _) (H.up (by omega) (by omega))) ?_)); simp -implicitDefEqProofs only [hc1, hkf, hFa, hkl, hLe, hN, wS, h0L, r1, r2, r5, r6, r7, r8, List.length_set, List.set_set, push_cast, Nat.reduceEqDiff, Nat.reduceBEq, Nat.reduceBNe, Nat.reduceAdd, Nat.reduceMul, Nat.reduceLT, Nat.reduceLeDiff, Nat.reduceSub, reduceCtorEq, Int.reduceToNat, ↓reduceIte]))
    all_goals first
      | omega
      | (simp only [lenMax]; omega)
      | exact .inr (by kernel_rfl)
      | skip
    rw [← hSe, ← hq1e]
    refine ev_loopT r (fun x : Nat × Leg × List (List UInt8) × Int => [(0, .ptr r 0), (1, .slice (net.map Leg.d) .no), (6, .ptr h.length 0), (7, .ptr (h.length + 1) 0), (8, .ptr (h.length + 2) 0), (9, .int .i64 x.1)]) (fun x => rdC bs x.2.2.2)
      (fun x => trRows h.length x.2.2.1 fa.name S x.2.1) (fun x => x.1 ≤ 2 ∧ p ≤ x.2.2.2 ∧ x.2.2.2 + 7 * x.1 ≤ p + 20 ∧ x.2.2.1.length + x.1 ≤ 3 ∧ tripOut bs net x.1 x.2 = V) (fun x => x.1) (N, l0, [l0.name], q1 + 1 + 1) ⟨hN2, by simp only; omega, by simp only; omega, by simp only [List.length_singleton]; omega, hV⟩ ?_ ?_
    · refine ⟨⟨_, ?_, Nat.le_refl _, List.take_length⟩, Nat.le_refl _, trRows_cl _ _ _ _ _, rdC_cl _ _ _, ?_⟩
      · first
          | rfl
          | (simp only [trRows, Leg.cs]; rfl)
          | trace_state
      · simp -implicitDefEqProofs only [SlotsOk, trRows, Int.natCast_add, Int.cast_ofNat_Int, List.length_nil, Nat.le_refl, WeakTo, tokSts, tokOks, List.append_cancel_left_eq, exists_eq_left', exists_eq_left, List.append_cancel_left_eq, List.take_length, ObCl, and_true, true_and, push_cast, Nat.reduceEqDiff, Nat.reduceBEq, Nat.reduceBNe, Nat.reduceAdd, Nat.reduceMul, Nat.reduceLT, Nat.reduceLeDiff, Nat.reduceSub, reduceCtorEq, Int.reduceToNat, ↓reduceIte]
        omega
    · rintro ⟨n, l, legs, q⟩ ⟨i1, i2, i3, i4, i5⟩
      simp only at i1 i2 i3 i4 i5 ⊢
      have hml : (legs.map D.str).length = legs.length := List.length_map ..
      have hmn : legs.length + 1 ≤ 64 := by omega
      simp only [trRows]
      cases n with
      | zero =>
        have hc : decide ((0 : Int) < ((0 : Nat) : Int)) = false := by decide
        obtain rfl : V = (l, legs, q) := by rw [← i5]; rfl
        simp only at hq4 hE
        subst hq4
        rcases hE with ⟨c3, e3, e4⟩ | ⟨c3, e3, e4⟩
        · have hc3 : decide (pickV bs q 12 = 0) = true := decide_eq_true c3
          subst e3 e4
          rcases hG with ⟨c4, e5, e6⟩ | ⟨c4, e5, e6⟩
          · have hc4 : decide (pickV bs (q + 1 + 1) 20 = 0) = true := decide_eq_true c4
            subst e5 e6
            try simp -implicitDefEqProofs only [hc, hc3, hc4, hkx, hXe, hml, hmn, h0L, r1, r2, r5, r6, r7, r8, List.length_set, List.set_set, push_cast, Nat.reduceEqDiff, Nat.reduceBEq, Nat.reduceBNe, Nat.reduceAdd, Nat.reduceMul, Nat.reduceLT, Nat.reduceLeDiff, Nat.reduceSub, reduceCtorEq, Int.reduceToNat, ↓reduceIte]
            repeat'
              (first
               | (refine uYes ?_; first | exact List.mem_cons_self | (simp only [List.mem_cons, List.not_mem_nil, or_false, true_or, or_true]; done))
               | (refine uNo (by kernel_rfl))
               | (refine flatMk ?_; kernel_rfl)
               | (refine And.intro ?_ ?_)
               | (intro hx)
               | ((first
                   | (refine callGF ?_)
                   | (refine callQGF ?_)
                   | (refine skipG ?_)
                   | (refine callM (dst := some 78) (pick_gives bs _ _ r _ (r3 _ _) (hln _ _) (H.up (by omega) (by omega))) ?_)
                   | (refine inX_mkS [r, h.length + 3] [] (by rfl) (by kernel_rfl) (by simp; omega) ?_)
                   | (refine callXR (dst := some 86) (r := r) (by simp) (by simp; omega) (fun h' hr' hl' => pick_gives bs _ _ r h' (hr'.trans (r3 _ _)) hl' (H.up (by omega) (by omega))) ?_)
                   | (refine callM (dst := some 94) (pick_gives bs _ _ r _ (r3 _ _) (hln _ _) (H.up (by omega) (by omega))) ?_)
                   | (refine callM (dst := some 98) (hO r _ (r3 _ _) (hln _ _)) ?_)); simp -implicitDefEqProofs only [hc, hc3, hc4, hkx, hXe, hml, hmn, h0L, r1, r2, r5, r6, r7, r8, List.length_set, List.set_set, push_cast, Nat.reduceEqDiff, Nat.reduceBEq, Nat.reduceBNe, Nat.reduceAdd, Nat.reduceMul, Nat.reduceLT, Nat.reduceLeDiff, Nat.reduceSub, reduceCtorEq, Int.reduceToNat, ↓reduceIte]))
            all_goals first
              | omega
              | (simp only [lenMax]; omega)
              | exact back_rd hrl _ _ _
              | (simp; done)
              | trace_state
          · have hc4 : decide (pickV bs (q + 1 + 1) 20 = 0) = false := decide_eq_false c4
            subst e5 e6
            try simp -implicitDefEqProofs only [hc, hc3, hc4, hkx, hXe, hml, hmn, h0L, r1, r2, r5, r6, r7, r8, List.length_set, List.set_set, push_cast, Nat.reduceEqDiff, Nat.reduceBEq, Nat.reduceBNe, Nat.reduceAdd, Nat.reduceMul, Nat.reduceLT, Nat.reduceLeDiff, Nat.reduceSub, reduceCtorEq, Int.reduceToNat, ↓reduceIte]
            repeat'
              (first
               | (refine uYes ?_; first | exact List.mem_cons_self | (simp only [List.mem_cons, List.not_mem_nil, or_false, true_or, or_true]; done))
               | (refine uNo (by kernel_rfl))
               | (refine flatMk ?_; kernel_rfl)
               | (refine And.intro ?_ ?_)
               | (intro hx)
               | ((first
                   | (refine callGF ?_)
                   | (refine callQGF ?_)
                   | (refine skipG ?_)
                   | (refine callM (dst := some 78) (pick_gives bs _ _ r _ (r3 _ _) (hln _ _) (H.up (by omega) (by omega))) ?_)
                   | (refine inX_mkS [r, h.length + 3] [] (by rfl) (by kernel_rfl) (by simp; omega) ?_)
                   | (refine callXR (dst := some 86) (r := r) (by simp) (by simp; omega) (fun h' hr' hl' => pick_gives bs _ _ r h' (hr'.trans (r3 _ _)) hl' (H.up (by omega) (by omega))) ?_)
                   | (refine callM (dst := some 94) (pick_gives bs _ _ r _ (r3 _ _) (hln _ _) (H.up (by omega) (by omega))) ?_)); simp -implicitDefEqProofs only [hc, hc3, hc4, hkx, hXe, hml, hmn, h0L, r1, r2, r5, r6, r7, r8, List.length_set, List.set_set, push_cast, Nat.reduceEqDiff, Nat.reduceBEq, Nat.reduceBNe, Nat.reduceAdd, Nat.reduceMul, Nat.reduceLT, Nat.reduceLeDiff, Nat.reduceSub, reduceCtorEq, Int.reduceToNat, ↓reduceIte]))
            all_goals first
              | omega
              | (simp only [lenMax]; omega)
              | exact back_rd hrl _ _ _
              | (simp; done)
              | trace_state
        · have hc3 : decide (pickV bs q 12 = 0) = false := decide_eq_false c3
          subst e3 e4
          rcases hG with ⟨c4, e5, e6⟩ | ⟨c4, e5, e6⟩
          · have hc4 : decide (pickV bs (q + 1) 20 = 0) = true := decide_eq_true c4
            subst e5 e6
            try simp -implicitDefEqProofs only [hc, hc3, hc4, hkx, hXe, hml, hmn, h0L, r1, r2, r5, r6, r7, r8, List.length_set, List.set_set, push_cast, Nat.reduceEqDiff, Nat.reduceBEq, Nat.reduceBNe, Nat.reduceAdd, Nat.reduceMul, Nat.reduceLT, Nat.reduceLeDiff, Nat.reduceSub, reduceCtorEq, Int.reduceToNat, ↓reduceIte]
            repeat'
              (first
               | (refine uYes ?_; first | exact List.mem_cons_self | (simp only [List.mem_cons, List.not_mem_nil, or_false, true_or, or_true]; done))
               | (refine uNo (by kernel_rfl))
               | (refine flatMk ?_; kernel_rfl)
               | (refine And.intro ?_ ?_)
               | (intro hx)
               | ((first
                   | (refine callGF ?_)
                   | (refine callQGF ?_)
                   | (refine skipG ?_)
                   | (refine callM (dst := some 78) (pick_gives bs _ _ r _ (r3 _ _) (hln _ _) (H.up (by omega) (by omega))) ?_)
                   | (refine callM (dst := some 94) (pick_gives bs _ _ r _ (r3 _ _) (hln _ _) (H.up (by omega) (by omega))) ?_)
                   | (refine callM (dst := some 98) (hO r _ (r3 _ _) (hln _ _)) ?_)); simp -implicitDefEqProofs only [hc, hc3, hc4, hkx, hXe, hml, hmn, h0L, r1, r2, r5, r6, r7, r8, List.length_set, List.set_set, push_cast, Nat.reduceEqDiff, Nat.reduceBEq, Nat.reduceBNe, Nat.reduceAdd, Nat.reduceMul, Nat.reduceLT, Nat.reduceLeDiff, Nat.reduceSub, reduceCtorEq, Int.reduceToNat, ↓reduceIte]))
            all_goals first
              | omega
              | (simp only [lenMax]; omega)
              | exact back_rd hrl _ _ _
              | (simp; done)
              | trace_state
          · have hc4 : decide (pickV bs (q + 1) 20 = 0) = false := decide_eq_false c4
            subst e5 e6
            try simp -implicitDefEqProofs only [hc, hc3, hc4, hkx, hXe, hml, hmn, h0L, r1, r2, r5, r6, r7, r8, List.length_set, List.set_set, push_cast, Nat.reduceEqDiff, Nat.reduceBEq, Nat.reduceBNe, Nat.reduceAdd, Nat.reduceMul, Nat.reduceLT, Nat.reduceLeDiff, Nat.reduceSub, reduceCtorEq, Int.reduceToNat, ↓reduceIte]
            repeat'
              (first
               | (refine uYes ?_; first | exact List.mem_cons_self | (simp only [List.mem_cons, List.not_mem_nil, or_false, true_or, or_true]; done))
               | (refine uNo (by kernel_rfl))
               | (refine flatMk ?_; kernel_rfl)
               | (refine And.intro ?_ ?_)
               | (intro hx)
               | ((first
                   | (refine callGF ?_)
                   | (refine callQGF ?_)
                   | (refine skipG ?_)
                   | (refine callM (dst := some 78) (pick_gives bs _ _ r _ (r3 _ _) (hln _ _) (H.up (by omega) (by omega))) ?_)
                   | (refine callM (dst := some 94) (pick_gives bs _ _ r _ (r3 _ _) (hln _ _) (H.up (by omega) (by omega))) ?_)); simp -implicitDefEqProofs only [hc, hc3, hc4, hkx, hXe, hml, hmn, h0L, r1, r2, r5, r6, r7, r8, List.length_set, List.set_set, push_cast, Nat.reduceEqDiff, Nat.reduceBEq, Nat.reduceBNe, Nat.reduceAdd, Nat.reduceMul, Nat.reduceLT, Nat.reduceLeDiff, Nat.reduceSub, reduceCtorEq, Int.reduceToNat, ↓reduceIte]))
            all_goals first
              | omega
              | (simp only [lenMax]; omega)
              | exact back_rd hrl _ _ _
              | (simp; done)
              | trace_state
      | succ n =>
        have hc : decide ((0 : Int) < (n : Int) + 1) = true := decide_eq_true (by omega)
        have wn : IntKind.i64.wrap ((n : Int) + 1 - 1) = n := (wrap_id (by omega) (by omega)).trans (by omega)
        have hpl := tripIn_place bs l net q
        rw [tripOut] at i5
        simp only at i5
        generalize hR : tripIn bs l net q = R at i5 hpl
        try simp -implicitDefEqProofs only [hc, h0L, r1, r2, r5, r6, r7, r8, List.length_set, List.set_set, push_cast, Nat.reduceEqDiff, Nat.reduceBEq, Nat.reduceBNe, Nat.reduceAdd, Nat.reduceMul, Nat.reduceLT, Nat.reduceLeDiff, Nat.reduceSub, reduceCtorEq, Int.reduceToNat, ↓reduceIte]
        repeat'
          (first
           | (refine uYes ?_; first | exact List.mem_cons_self | (simp only [List.mem_cons, List.not_mem_nil, or_false, true_or, or_true]; done))
           | (refine uNo (by kernel_rfl))
           | (refine flatMk ?_; kernel_rfl)
           | (refine And.intro ?_ ?_)
           | (intro hx)
           | ((first
               | (refine callGF ?_)
               | (refine callQGF ?_)
               | (refine skipG ?_)
               | (refine callS (in_gives _ _ _ _) ?_)
               | (refine callQ (in_gives _ _ _ _) ?_)
               | (refine callG (fun hc => (in_gives _ _ _ _)) ?_)
               | (refine callQG (fun hc => (in_gives _ _ _ _)) ?_)); simp -implicitDefEqProofs only [hc, h0L, r1, r2, r5, r6, r7, r8, List.length_set, List.set_set, push_cast, Nat.reduceEqDiff, Nat.reduceBEq, Nat.reduceBNe, Nat.reduceAdd, Nat.reduceMul, Nat.reduceLT, Nat.reduceLeDiff, Nat.reduceSub, reduceCtorEq, Int.reduceToNat, ↓reduceIte]))
        refine ev_loopT r (fun s : Nat × Int => [(0, .ptr r 0), (1, .slice (net.map Leg.d) .no), (6, .ptr h.length 0), (7, .ptr (h.length + 1) 0), (8, .ptr (h.length + 2) 0), (9, .int .i64 ((n : Int) + 1)), (10, .int .i64 s.1)]) (fun s => rdC bs s.2)
          (fun _ => trRows h.length legs fa.name S l) (fun s => s.1 ≤ net.length ∧ q ≤ s.2 ∧ s.2 ≤ q + s.1 ∧ tripIn bs l (net.drop s.1) s.2 = R) (fun s => net.length - s.1) (0, q) ⟨Nat.zero_le _, by simp only; omega, by simp only; omega, hR⟩ ?_ ?_
        · refine ⟨⟨_, ?_, Nat.le_refl _, List.take_length⟩, Nat.le_refl _, trRows_cl _ _ _ _ _, rdC_cl _ _ _, ?_⟩
          · first
              | rfl
              | trace_state
          · simp -implicitDefEqProofs only [SlotsOk, trRows, Int.natCast_add, Int.cast_ofNat_Int, List.length_nil, Nat.le_refl, WeakTo, tokSts, tokOks, List.append_cancel_left_eq, exists_eq_left', exists_eq_left, List.append_cancel_left_eq, List.take_length, ObCl, and_true, true_and, push_cast, Nat.reduceEqDiff, Nat.reduceBEq, Nat.reduceBNe, Nat.reduceAdd, Nat.reduceMul, Nat.reduceLT, Nat.reduceLeDiff, Nat.reduceSub, reduceCtorEq, Int.reduceToNat, ↓reduceIte]
            omega
        · rintro ⟨i, u⟩ ⟨j1, j2, j3, j4⟩
          simp only at j1 j2 j3 j4 ⊢
          simp only [trRows]
          have wi : IntKind.i64.wrap ((i : Int) + 1) = (i : Int) + 1 := wrap_id (by omega) (by omega)
          by_cases hlt : i < net.length
          · have hci : decide ((i : Int) < net.length) = true := decide_eq_true (by omega)
            have hIe := leg_at hlt
            have v := pickV_range (p := u) (H.up (by omega) (by omega)) 2 (by omega)
            rw [tripIn_drop bs l u hlt] at j4
            generalize net.getD i default = m at hIe j4
            have hNx := fun g => next_gives l m g
            cases hb : nextB l m with
            | true =>
              rw [if_pos hb] at j4
              rw [hb] at hNx
              by_cases hz : pickV bs u 2 = 0
              · have hcz : decide (pickV bs u 2 = 0) = true := decide_eq_true hz
                rw [if_pos hz] at j4
                subst j4
                try simp -implicitDefEqProofs only [hci, hcz, hIe, wi, wn, hml, hmn, h0L, r1, r2, r5, r6, r7, r8, List.length_set, List.set_set, push_cast, Nat.reduceEqDiff, Nat.reduceBEq, Nat.reduceBNe, Nat.reduceAdd, Nat.reduceMul, Nat.reduceLT, Nat.reduceLeDiff, Nat.reduceSub, reduceCtorEq, Int.reduceToNat, ↓reduceIte]
                repeat'
                  (first
                   | (refine uYes ?_; first | exact List.mem_cons_self | (simp only [List.mem_cons, List.not_mem_nil, or_false, true_or, or_true]; done))
                   | (refine uNo (by kernel_rfl))
                   | (refine flatMk ?_; kernel_rfl)
                   | (refine And.intro ?_ ?_)
                   | (intro hx)
                   | ((first
                       | (refine callGF ?_)
                       | (refine callQGF ?_)
                       | (refine skipG ?_)
                       | (refine inX_mk [r] (by kernel_rfl) (by simp; omega) ?_)
                       | (refine callXR (dst := some 63) (r := r) (by simp) (by simp; omega) (fun h' hr' hl' => pick_gives bs _ _ r h' (hr'.trans (r3 _ _)) hl' (H.up (by omega) (by omega))) ?_)
                       | (refine callXG (dst := some 60) (fun g => hNx g) ?_)); simp -implicitDefEqProofs only [hci, hcz, hIe, wi, wn, hml, hmn, h0L, r1, r2, r5, r6, r7, r8, List.length_set, List.set_set, push_cast, Nat.reduceEqDiff, Nat.reduceBEq, Nat.reduceBNe, Nat.reduceAdd, Nat.reduceMul, Nat.reduceLT, Nat.reduceLeDiff, Nat.reduceSub, reduceCtorEq, Int.reduceToNat, ↓reduceIte]))
                all_goals first
                  | omega
                  | (simp only [lenMax]; omega)
                  | skip
                simp only at i5 hpl
                refine round_mkT (n, m, legs ++ [m.name], u + 1) ⟨by omega, by simp only; omega, by simp only; omega, by simp only [List.length_append, List.length_singleton]; omega, i5⟩ (by simp only; omega) ⟨⟨_, by simp [trRows, Leg.cs], Nat.le_refl _, List.take_length⟩, by simp [trRows], trRows_cl _ _ _ _ _, rdC_cl _ _ _, ?_⟩
                simp -implicitDefEqProofs only [SlotsOk, trRows, Int.natCast_add, Int.cast_ofNat_Int, List.length_nil, Nat.le_refl, WeakTo, tokSts, tokOks, List.append_cancel_left_eq, exists_eq_left', exists_eq_left, List.append_cancel_left_eq, List.take_length, ObCl, and_true, true_and, push_cast, Nat.reduceEqDiff, Nat.reduceBEq, Nat.reduceBNe, Nat.reduceAdd, Nat.reduceMul, Nat.reduceLT, Nat.reduceLeDiff, Nat.reduceSub, reduceCtorEq, Int.reduceToNat, ↓reduceIte]
                omega
              · have hcz : decide (pickV bs u 2 = 0) = false := decide_eq_false hz
                rw [if_neg hz] at j4
                try simp -implicitDefEqProofs only [hci, hcz, hIe, wi, wn, h0L, r1, r2, r5, r6, r7, r8, List.length_set, List.set_set, push_cast, Nat.reduceEqDiff, Nat.reduceBEq, Nat.reduceBNe, Nat.reduceAdd, Nat.reduceMul, Nat.reduceLT, Nat.reduceLeDiff, Nat.reduceSub, reduceCtorEq, Int.reduceToNat, ↓reduceIte]
                repeat'
                  (first
                   | (refine uYes ?_; first | exact List.mem_cons_self | (simp only [List.mem_cons, List.not_mem_nil, or_false, true_or, or_true]; done))
                   | (refine uNo (by kernel_rfl))
                   | (refine flatMk ?_; kernel_rfl)
                   | (refine And.intro ?_ ?_)
                   | (intro hx)
                   | ((first
                       | (refine callGF ?_)
                       | (refine callQGF ?_)
                       | (refine skipG ?_)
                       | (refine inX_mk [r] (by kernel_rfl) (by simp; omega) ?_)
                       | (refine callXR (dst := some 63) (r := r) (by simp) (by simp; omega) (fun h' hr' hl' => pick_gives bs _ _ r h' (hr'.trans (r3 _ _)) hl' (H.up (by omega) (by omega))) ?_)
                       | (refine callXG (dst := some 60) (fun g => hNx g) ?_)); simp -implicitDefEqProofs only [hci, hcz, hIe, wi, wn, h0L, r1, r2, r5, r6, r7, r8, List.length_set, List.set_set, push_cast, Nat.reduceEqDiff, Nat.reduceBEq, Nat.reduceBNe, Nat.reduceAdd, Nat.reduceMul, Nat.reduceLT, Nat.reduceLeDiff, Nat.reduceSub, reduceCtorEq, Int.reduceToNat, ↓reduceIte]))
                all_goals first
                  | omega
                  | (simp only [lenMax]; omega)
                  | skip
                refine round_mkT (i + 1, u + 1) ⟨by omega, by simp only; omega, by simp only; omega, j4⟩ (by simp only; omega) ⟨⟨_, rfl, Nat.le_refl _, List.take_length⟩, by simp [trRows], trRows_cl _ _ _ _ _, rdC_cl _ _ _, ?_⟩
                simp -implicitDefEqProofs only [SlotsOk, trRows, Int.natCast_add, Int.cast_ofNat_Int, List.length_nil, Nat.le_refl, WeakTo, tokSts, tokOks, List.append_cancel_left_eq, exists_eq_left', exists_eq_left, List.append_cancel_left_eq, List.take_length, ObCl, and_true, true_and, push_cast, Nat.reduceEqDiff, Nat.reduceBEq, Nat.reduceBNe, Nat.reduceAdd, Nat.reduceMul, Nat.reduceLT, Nat.reduceLeDiff, Nat.reduceSub, reduceCtorEq, Int.reduceToNat, ↓reduceIte]
                omega
            | false =>
              rw [if_neg (by rw [hb]; exact Bool.false_ne_true)] at j4
              rw [hb] at hNx
              try simp -implicitDefEqProofs only [hci, hIe, wi, wn, h0L, r1, r2, r5, r6, r7, r8, List.length_set, List.set_set, push_cast, Nat.reduceEqDiff, Nat.reduceBEq, Nat.reduceBNe, Nat.reduceAdd, Nat.reduceMul, Nat.reduceLT, Nat.reduceLeDiff, Nat.reduceSub, reduceCtorEq, Int.reduceToNat, ↓reduceIte]
              repeat'
                (first
                 | (refine uYes ?_; first | exact List.mem_cons_self | (simp only [List.mem_cons, List.not_mem_nil, or_false, true_or, or_true]; done))
                 | (refine uNo (by kernel_rfl))
                 | (refine flatMk ?_; kernel_rfl)
                 | (refine And.intro ?_ ?_)
                 | (intro hx)
                 | ((first
                     | (refine callGF ?_)
                     | (refine callQGF ?_)
                     | (refine skipG ?_)
                     | (refine inX_mk [r] (by kernel_rfl) (by simp; omega) ?_)
                     | (refine callXR (dst := some 63) (r := r) (by simp) (by simp; omega) (fun h' hr' hl' => pick_gives bs _ _ r h' (hr'.trans (r3 _ _)) hl' (H.up (by omega) (by omega))) ?_)
                     | (refine callXG (dst := some 60) (fun g => hNx g) ?_)); simp -implicitDefEqProofs only [hci, hIe, wi, wn, h0L, r1, r2, r5, r6, r7, r8, List.length_set, List.set_set, push_cast, Nat.reduceEqDiff, Nat.reduceBEq, Nat.reduceBNe, Nat.reduceAdd, Nat.reduceMul, Nat.reduceLT, Nat.reduceLeDiff, Nat.reduceSub, reduceCtorEq, Int.reduceToNat, ↓reduceIte]))
              all_goals first
                | omega
                | (simp only [lenMax]; omega)
                | skip
              refine round_mkT (i + 1, u) ⟨by omega, by simp only; omega, by simp only; omega, j4⟩ (by simp only; omega) ⟨⟨_, rfl, Nat.le_refl _, List.take_length⟩, by simp [trRows], trRows_cl _ _ _ _ _, rdC_cl _ _ _, ?_⟩
              simp -implicitDefEqProofs only [SlotsOk, trRows, Int.natCast_add, Int.cast_ofNat_Int, List.length_nil, Nat.le_refl, WeakTo, tokSts, tokOks, List.append_cancel_left_eq, exists_eq_left', exists_eq_left, List.append_cancel_left_eq, List.take_length, ObCl, and_true, true_and, push_cast, Nat.reduceEqDiff, Nat.reduceBEq, Nat.reduceBNe, Nat.reduceAdd, Nat.reduceMul, Nat.reduceLT, Nat.reduceLeDiff, Nat.reduceSub, reduceCtorEq, Int.reduceToNat, ↓reduceIte]
              omega
          · obtain rfl : i = net.length := by omega
            have hci : decide ((net.length : Int) < net.length) = false := decide_eq_false (by omega)
            rw [List.drop_length, tripIn] at j4
            subst j4
            try simp -implicitDefEqProofs only [hc, hci, wn, h0L, r1, r2, r5, r6, r7, r8, List.length_set, List.set_set, push_cast, Nat.reduceEqDiff, Nat.reduceBEq, Nat.reduceBNe, Nat.reduceAdd, Nat.reduceMul, Nat.reduceLT, Nat.reduceLeDiff, Nat.reduceSub, reduceCtorEq, Int.reduceToNat, ↓reduceIte]
            repeat'
              (first
               | (refine uYes ?_; first | exact List.mem_cons_self | (simp only [List.mem_cons, List.not_mem_nil, or_false, true_or, or_true]; done))
               | (refine uNo (by kernel_rfl))
               | (refine flatMk ?_; kernel_rfl)
               | (refine And.intro ?_ ?_)
               | (intro hx)
               | ((first
                   | (refine callGF ?_)
                   | (refine callQGF ?_)
                   | (refine skipG ?_)
                   | (refine callS (in_gives _ _ _ _) ?_)
                   | (refine callQ (in_gives _ _ _ _) ?_)
                   | (refine callG (fun hc => (in_gives _ _ _ _)) ?_)
                   | (refine callQG (fun hc => (in_gives _ _ _ _)) ?_)); simp -implicitDefEqProofs only [hc, hci, wn, h0L, r1, r2, r5, r6, r7, r8, List.length_set, List.set_set, push_cast, Nat.reduceEqDiff, Nat.reduceBEq, Nat.reduceBNe, Nat.reduceAdd, Nat.reduceMul, Nat.reduceLT, Nat.reduceLeDiff, Nat.reduceSub, reduceCtorEq, Int.reduceToNat, ↓reduceIte]))
            all_goals first
              | omega
              | (simp only [lenMax]; omega)
              | skip
            simp only at i5 hpl
            refine round_mkT (n, l, legs, u) ⟨by omega, by simp only; omega, by simp only; omega, by simp only; omega, i5⟩ (by simp only; omega) ⟨⟨_, rfl, Nat.le_refl _, List.take_length⟩, by simp [trRows], trRows_cl _ _ _ _ _, rdC_cl _ _ _, ?_⟩
            simp -implicitDefEqProofs only [SlotsOk, trRows, Int.natCast_add, Int.cast_ofNat_Int, List.length_nil, Nat.le_refl, WeakTo, tokSts, tokOks, List.append_cancel_left_eq, exists_eq_left', exists_eq_left, List.append_cancel_left_eq, List.take_length, ObCl, and_true, true_and, push_cast, Nat.reduceEqDiff, Nat.reduceBEq, Nat.reduceBNe, Nat.reduceAdd, Nat.reduceMul, Nat.reduceLT, Nat.reduceLeDiff, Nat.reduceSub, reduceCtorEq, Int.reduceToNat, ↓reduceIte]
            omega
end Go.Proofs.Ytcmpcpigchlhpaa

/- Contracts of functions of the program (D4). -/
import Derived.Test.YtmehbbepppjikaaD3

namespace Go.Proofs.Ytmehbbepppjikaa
open Go.Av
set_option maxRecDepth 10000
set_option maxHeartbeats 1000000
set_option linter.unusedSimpArgs false
set_option linter.unusedVariables false
attribute [local irreducible] finS

theorem limB_range {bs : List Int} {a q : Int} (H : Rd bs q) (h0 : 0 ≤ a) : 0 ≤ limB bs a q ∧ limB bs a q ≤ a := by
  have := pickV_range H 3 (by omega)
  rw [limB]
  split <;> omega
theorem bidN_range {bs : List Int} {x u : Int} (H : Rd bs u) (h0 : 0 ≤ x) : 0 ≤ bidN bs x u ∧ bidN bs x u ≤ x := by
  have hv := pickV_range H 10 (by omega)
  exact (quo10 h0 hv.1 (by omega)).2.2
theorem bidL_lim {bs : List Int} {b0 n u : Int} (H : Rd bs (u + 1)) (hu : 0 ≤ u) (h0 : 0 ≤ b0) : (bidL bs b0 n u).Lim b0 := by
  have hh := H.hi
  have h1 := bidN_range (H.up hu (by omega)) h0
  have h2 := bidN_range H h1.1
  rw [bidL]
  split
  · exact rfl
  · split
    · exact ⟨rfl, h1⟩
    · exact ⟨rfl, h1.1, h1.2, h2⟩
theorem legV_ok {bs : List Int} {p dep : Int} {nm src dst : List UInt8} (H : Rd bs (p + 100)) (hp0 : 0 ≤ p) (hn : nameB nm = true) (hs : nameB src = true) (hd : nameB dst = true) (hne : src ≠ dst) (h0 : 0 ≤ dep) (h1 : dep ≤ 1000) :
    LegP (legV bs p nm src dst dep).1 ∧ p ≤ (legV bs p nm src dst dep).2 ∧ (legV bs p nm src dst dep).2 ≤ p + 20 := by
  have hh := H.hi
  have v1 := pickV_range (p := p) (H.up (by omega) (by omega)) 6 (by omega)
  have v2 := pickV_range (p := p + 1) (H.up (by omega) (by omega)) 6 (by omega)
  have v3 := pickV_range (p := p + 1 + 1) (H.up (by omega) (by omega)) 900 (by omega)
  have v4 := pickV_range (p := p + 1 + 1 + 1) (H.up (by omega) (by omega)) 3 (by omega)
  have v5 := pickV_range (p := p + 6) (H.up (by omega) (by omega)) 3 (by omega)
  have l1 := limB_range (a := 1 + pickV bs p 6) (q := p + 4) (H.up (by omega) (by omega)) (by omega)
  have l2 := limB_range (a := limB bs (1 + pickV bs p 6) (p + 4)) (q := p + 4 + 1) (H.up (by omega) (by omega)) l1.1
  have hb : 0 ≤ [0, 0, pickV bs (p + 1 + 1) 900].getD (pickV bs (p + 1 + 1 + 1) 3).toNat 0 ∧ [0, 0, pickV bs (p + 1 + 1) 900].getD (pickV bs (p + 1 + 1 + 1) 3).toNat 0 ≤ 899 := by
    have hi : (pickV bs (p + 1 + 1 + 1) 3).toNat = 0 ∨ (pickV bs (p + 1 + 1 + 1) 3).toNat = 1 ∨ (pickV bs (p + 1 + 1 + 1) 3).toNat = 2 := by omega
    rcases hi with e | e | e <;> rw [e]
    · exact ⟨Int.le_refl _, show (0 : Int) ≤ 899 by decide⟩
    · exact ⟨Int.le_refl _, show (0 : Int) ≤ 899 by decide⟩
    · exact ⟨v3.1, show pickV bs (p + 1 + 1) 900 ≤ 899 by omega⟩
  refine ⟨mkL_ok hn hs hd hne h0 (by omega) (by omega) (by omega) (by omega) rfl ⟨l1.1, l1.2, l2.1, l2.2⟩ (bidL_lim (H.up (by omega) (by omega)) (by omega) hb.1) hb.1 hb.2, ?_, ?_⟩
  · show p ≤ p + 7 + pickV bs (p + 6) 3
    omega
  · show p + 7 + pickV bs (p + 6) 3 ≤ p + 20
    omega

/-- what a round of l14Sold does -/
def drawH (bs : List Int) (q : Int) : Hold := ⟨1 + pickV bs (q + 1) 8, pickV bs q 3, [1, 2, 1, -1].getD (pickV bs (q + 1 + 1) 4).toNat 0⟩
def stepS (bs : List Int) (s : Leg × Int) : Leg × Int :=
  if canB s.1 (drawH bs s.2) 1000000000 = true then
    if pickV bs (s.2 + 1 + 1 + 1) 2 = 0 then (keepL (holdL s.1 (drawH bs s.2)) ((holdL s.1 (drawH bs s.2)).holds.getD (pickV bs (s.2 + 1 + 1 + 1 + 1) (holdL s.1 (drawH bs s.2)).holds.length).toNat default).txn, s.2 + 1 + 1 + 1 + 1 + 1)
    else (holdL s.1 (drawH bs s.2), s.2 + 1 + 1 + 1 + 1)
  else (s.1, s.2 + 1 + 1 + 1)
def iterS (bs : List Int) : Nat → Leg × Int → Leg × Int
  | 0, s => s
  | n + 1, s => iterS bs n (stepS bs s)
def nmLa : List UInt8 := [108, 97]
def nmX : List UInt8 := [120]
def nmY : List UInt8 := [121]
def soldS (bs : List Int) (p : Int) : Leg × Int :=
  iterS bs (pickV bs (legV bs (p + 1) nmLa nmX nmY (pickV bs p 9)).2 5).toNat ((legV bs (p + 1) nmLa nmX nmY (pickV bs p 9)).1, (legV bs (p + 1) nmLa nmX nmY (pickV bs p 9)).2 + 1)
theorem stepS_ok {bs : List Int} {s : Leg × Int} (H : LegP s.1) : LegP (stepS bs s).1 ∧ s.2 ≤ (stepS bs s).2 ∧ (stepS bs s).2 ≤ s.2 + 5 := by
  rw [stepS]
  split
  · rename_i hc
    have h1 := hold_ok H hc
    split
    · exact ⟨(keep_ok h1 _).1, by simp only; omega, by simp only; omega⟩
    · exact ⟨h1, by simp only; omega, by simp only; omega⟩
  · exact ⟨H, by simp only; omega, by simp only; omega⟩
theorem iterS_ok {bs : List Int} : ∀ (n : Nat) {s : Leg × Int}, LegP s.1 → LegP (iterS bs n s).1 ∧ s.2 ≤ (iterS bs n s).2 ∧ (iterS bs n s).2 ≤ s.2 + 5 * n
  | 0, s, H => ⟨H, by simp [iterS], by simp [iterS]⟩
  | n + 1, s, H => by
    obtain ⟨a1, a2, a3⟩ := stepS_ok (bs := bs) H
    obtain ⟨b1, b2, b3⟩ := iterS_ok n a1
    exact ⟨b1, by rw [iterS]; omega, by rw [iterS]; omega⟩
theorem names_ok : nameB nmLa = true ∧ nameB nmX = true ∧ nameB nmY = true ∧ nmX ≠ nmY := by decide
theorem soldS_ok {bs : List Int} {p : Int} (H : Rd bs (p + 200)) (hp0 : 0 ≤ p) : LegP (soldS bs p).1 ∧ p ≤ (soldS bs p).2 ∧ (soldS bs p).2 ≤ p + 60 := by
  have hh := H.hi
  have v1 := pickV_range (p := p) (H.up (by omega) (by omega)) 9 (by omega)
  obtain ⟨n1, n2, n3, n4⟩ := names_ok
  obtain ⟨l1, l2, l3⟩ := legV_ok (bs := bs) (p := p + 1) (dep := pickV bs p 9) (H.up (by omega) (by omega)) (by omega) n1 n2 n3 n4 v1.1 (by omega)
  have v2 := pickV_range (p := (legV bs (p + 1) nmLa nmX nmY (pickV bs p 9)).2) (H.up (by omega) (by omega)) 5 (by omega)
  obtain ⟨i1, i2, i3⟩ := iterS_ok (bs := bs) (pickV bs (legV bs (p + 1) nmLa nmX nmY (pickV bs p 9)).2 5).toNat (s := ((legV bs (p + 1) nmLa nmX nmY (pickV bs p 9)).1, (legV bs (p + 1) nmLa nmX nmY (pickV bs p 9)).2 + 1)) l1
  rw [soldS]
  simp only at i2 i3
  exact ⟨i1, by omega, by omega⟩
theorem getD4 (i : Nat) : [D.int .i64 1, .int .i64 2, .int .i64 1, .int .i64 (-1)].getD i (.int .i64 0) = .int .i64 ([1, 2, 1, -1].getD i 0) := getD_map (D.int .i64) 0 [1, 2, 1, -1] i
theorem soldRows_cl {N : Nat} (l : Leg) : ∀ x, x ∈ [zeroLeg, .row l.cs] → ObCl N x := by
  intro x hx
  simp only [List.mem_cons, List.not_mem_nil, or_false] at hx
  rcases hx with rfl | rfl
  · intro d hd
    simp only [List.mem_cons, List.not_mem_nil, or_false] at hd
    rcases hd with rfl | rfl | rfl | rfl | rfl | rfl | rfl | rfl | rfl | rfl
    all_goals first
      | exact .str _
      | exact .int _ _
      | exact .slice _ _ (fun _ _ e => nomatch e)
  · exact l.cl N
theorem l14Sold_gives (bs : List Int) (p : Int) (r : Nat) (h : Hp) (hr : ob h r = .row (rdC bs p)) (hrl : r < h.length) (H : Rd bs (p + 200)) (hp0 : 0 ≤ p) :
    Meets Try.prog 122 [.ptr r 0] h fun d' h' => d' = (soldS bs p).1.d ∧ h' = h.set r (.row (rdC bs (soldS bs p).2)) := by
  have hhi := H.hi
  obtain ⟨r1, r2, r3, r4, r5, r6, r7, r8, r9⟩ := rdf hrl
  have v1 := pickV_range (p := p) (H.up (by omega) (by omega)) 9 (by omega)
  obtain ⟨n1, n2, n3, n4⟩ := names_ok
  obtain ⟨l1, l2, l3⟩ := legV_ok (bs := bs) (p := p + 1) (dep := pickV bs p 9) (H.up (by omega) (by omega)) (by omega) n1 n2 n3 n4 v1.1 (by omega)
  have v2 := pickV_range (p := (legV bs (p + 1) nmLa nmX nmY (pickV bs p 9)).2) (H.up (by omega) (by omega)) 5 (by omega)
  have hsold : soldS bs p = iterS bs (pickV bs (legV bs (p + 1) nmLa nmX nmY (pickV bs p 9)).2 5).toNat ((legV bs (p + 1) nmLa nmX nmY (pickV bs p 9)).1, (legV bs (p + 1) nmLa nmX nmY (pickV bs p 9)).2 + 1) := rfl
  have hG := fun h hr hrl => l14Leg_gives bs (p + 1) nmLa nmX nmY (pickV bs p 9) r h hr hrl (H.up (by omega) (by omega)) (by omega) n1 n2 n3 n4 v1.1 (by omega)
  generalize legV bs (p + 1) nmLa nmX nmY (pickV bs p 9) = L at l1 l2 l3 v2 hsold hG
  obtain ⟨L, u⟩ := L
  simp only at l1 l2 l3 v2 hsold hG
  rw [hsold]
  refine meets_of [2000040] mixed Try.func122 rfl (by kernel_rfl) (by kernel_rfl) (by rw [Try.ntmps122]; simp only [List.length_cons, List.length_nil]; omega) (fun hf => ?_)
  rw [Try.results122]
  clear hf
  try simp -implicitDefEqProofs only [r1, r2, r5, r6, r7, r8, lenMax, List.length_set, push_cast, Nat.reduceEqDiff, Nat.reduceBEq, Nat.reduceBNe, Nat.reduceAdd, Nat.reduceMul, Nat.reduceLT, Nat.reduceLeDiff, Nat.reduceSub, reduceCtorEq, Int.reduceToNat, ↓reduceIte]
  repeat'
    (first
     | (refine uYes ?_; first | exact List.mem_cons_self | (simp only [List.mem_cons, List.not_mem_nil, or_false, true_or, or_true]; done))
     | (refine uNo (by kernel_rfl))
     | (refine flatMk ?_; kernel_rfl)
     | (refine And.intro ?_ ?_)
     | (intro hx)
     | ((first
         | (refine callGF ?_)
         | (refine callQGF ?_)
         | (refine skipG ?_)
         | (refine callM (pick_gives bs p _ r _ ((r4 _).trans hr) (by simp; omega) (H.up (by omega) (by omega))) ?_)
         | (refine callM (dst := some 11) (hG _ (r3 _ _) (by simp; omega)) ?_)
         | (refine callM (dst := some 13) (pick_gives bs _ _ r _ (r3 _ _) (by simp; omega) (H.up (by omega) (by omega))) ?_)); simp -implicitDefEqProofs only [r1, r2, r5, r6, r7, r8, lenMax, List.length_set, push_cast, Nat.reduceEqDiff, Nat.reduceBEq, Nat.reduceBNe, Nat.reduceAdd, Nat.reduceMul, Nat.reduceLT, Nat.reduceLeDiff, Nat.reduceSub, reduceCtorEq, Int.reduceToNat, ↓reduceIte]))
  all_goals try omega
  refine ev_loopT r (fun s : Leg × Int × Int => [(0, .ptr r 0), (2, .ptr h.length 0), (3, .ptr (h.length + 1) 0), (4, .int .i64 s.2.1)]) (fun s => rdC bs s.2.2)
    (fun s => [zeroLeg, .row s.1.cs]) (fun s => LegP s.1 ∧ 0 ≤ s.2.1 ∧ s.2.1 ≤ 4 ∧ u ≤ s.2.2 ∧ s.2.2 + 5 * s.2.1 ≤ u + 30 ∧ iterS bs s.2.1.toNat (s.1, s.2.2) = iterS bs (pickV bs u 5).toNat (L, u + 1)) (fun s => s.2.1.toNat) (L, pickV bs u 5, u + 1) ?_ ?_ ?_
  · exact ⟨l1, v2.1, by simp only; omega, by simp only; omega, by simp only; omega, rfl⟩
  · refine ⟨⟨_, rfl, Nat.le_refl _, rfl⟩, Nat.le_refl _, soldRows_cl _, rdC_cl _ _ _, ?_⟩
    simp -implicitDefEqProofs only [SlotsOk, Int.natCast_add, Int.cast_ofNat_Int, List.length_nil, Nat.le_refl, WeakTo, tokSts, tokOks, List.append_cancel_left_eq, exists_eq_left', exists_eq_left, List.append_cancel_left_eq, List.take_length, ObCl, and_true, true_and, push_cast, Nat.reduceEqDiff, Nat.reduceBEq, Nat.reduceBNe, Nat.reduceAdd, Nat.reduceMul, Nat.reduceLT, Nat.reduceLeDiff, Nat.reduceSub, reduceCtorEq, Int.reduceToNat, ↓reduceIte]
    omega
  · rintro ⟨l, n, q⟩ ⟨hl, hn0, hn4, hq0, hq1, hI⟩
    simp only at hl hn0 hn4 hq0 hq1 hI
    by_cases hnz : n ≤ 0
    · have e : iterS bs (pickV bs u 5).toNat (L, u + 1) = (l, q) := by
        rw [← hI, show n.toNat = 0 by omega]; rfl
      rw [e]
      try simp -implicitDefEqProofs only [zeroLeg, r1, r2, r5, r6, r7, r8, lenMax, List.length_set, push_cast, Nat.reduceEqDiff, Nat.reduceBEq, Nat.reduceBNe, Nat.reduceAdd, Nat.reduceMul, Nat.reduceLT, Nat.reduceLeDiff, Nat.reduceSub, reduceCtorEq, Int.reduceToNat, ↓reduceIte]
      repeat'
        (first
         | (refine uYes ?_; first | exact List.mem_cons_self | (simp only [List.mem_cons, List.not_mem_nil, or_false, true_or, or_true]; done))
         | (refine uNo (by kernel_rfl))
         | (refine flatMk ?_; kernel_rfl)
         | (refine And.intro ?_ ?_)
         | (intro hx)
         | ((first
             | (refine callGF ?_)
             | (refine callQGF ?_)
             | (refine skipG ?_)
             | (refine callS (l6Copy_gives l _) ?_)
             | (refine callQ (l6Copy_gives l _) ?_)
             | (refine callG (fun hc => (l6Copy_gives l _)) ?_)
             | (refine callQG (fun hc => (l6Copy_gives l _)) ?_)); simp -implicitDefEqProofs only [zeroLeg, r1, r2, r5, r6, r7, r8, lenMax, List.length_set, push_cast, Nat.reduceEqDiff, Nat.reduceBEq, Nat.reduceBNe, Nat.reduceAdd, Nat.reduceMul, Nat.reduceLT, Nat.reduceLeDiff, Nat.reduceSub, reduceCtorEq, Int.reduceToNat, ↓reduceIte]))
      all_goals first
        | omega
        | exact back_rd hrl bs q _
        | trace_state
    · have vq := pickV_range (p := q + 1) (H.up (by omega) (by omega)) 8 (by omega)
      have vq0 := pickV_range (p := q) (H.up (by omega) (by omega)) 3 (by omega)
      have vq2 := pickV_range (p := q + 1 + 1) (H.up (by omega) (by omega)) 4 (by omega)
      have w1 : IntKind.i64.wrap (1 + pickV bs (q + 1) 8) = 1 + pickV bs (q + 1) 8 := wrap_id (by omega) (by omega)
      have w2 : IntKind.i64.wrap (n - 1) = n - 1 := wrap_id (by omega) (by omega)
      have hI2 : iterS bs (n - 1).toNat (stepS bs (l, q)) = iterS bs (pickV bs u 5).toNat (L, u + 1) := by
        rw [← hI, show n.toNat = (n - 1).toNat + 1 by omega]; rfl
      cases hcb : canB l (drawH bs q) 1000000000 with
      | false =>
        have hst : stepS bs (l, q) = (l, q + 1 + 1 + 1) := by rw [stepS]; simp only [hcb, Bool.false_eq_true, if_false]
        try simp -implicitDefEqProofs only [zeroLeg, r1, r2, r5, r6, r7, r8, lenMax, List.length_set, w1, w2, getD4, hcb, push_cast, Nat.reduceEqDiff, Nat.reduceBEq, Nat.reduceBNe, Nat.reduceAdd, Nat.reduceMul, Nat.reduceLT, Nat.reduceLeDiff, Nat.reduceSub, reduceCtorEq, Int.reduceToNat, ↓reduceIte]
        repeat'
          (first
           | (refine uYes ?_; first | exact List.mem_cons_self | (simp only [List.mem_cons, List.not_mem_nil, or_false, true_or, or_true]; done))
           | (refine uNo (by kernel_rfl))
           | (refine flatMk ?_; kernel_rfl)
           | (refine And.intro ?_ ?_)
           | (intro hx)
           | ((first
               | (refine callGF ?_)
               | (refine callQGF ?_)
               | (refine skipG ?_)
               | (refine inX_mkU [r] [h.length + 2] (by kernel_rfl) (by simp; omega) ?_)
               | (refine callM (dst := some 19) (pick_gives bs _ _ r _ (r3 _ _) (by simp; omega) (H.up (by omega) (by omega))) ?_)
               | (refine callXR (r := r) (by simp) (by simp; omega) (fun h' hr' hl' => pick_gives bs _ _ r h' (hr'.trans (r3 _ _)) hl' (H.up (by omega) (by omega))) ?_)
               | (refine callXG (fun _ => l6Hold_gives l (drawH bs q) 1000000000 _ hl) ?_)); simp -implicitDefEqProofs only [zeroLeg, r1, r2, r5, r6, r7, r8, lenMax, List.length_set, w1, w2, getD4, hcb, push_cast, Nat.reduceEqDiff, Nat.reduceBEq, Nat.reduceBNe, Nat.reduceAdd, Nat.reduceMul, Nat.reduceLT, Nat.reduceLeDiff, Nat.reduceSub, reduceCtorEq, Int.reduceToNat, ↓reduceIte]))
        all_goals first
          | omega
          | (right; kernel_rfl)
          | (refine round_mkT (l, n - 1, q + 1 + 1 + 1) ⟨hl, by simp only; omega, by simp only; omega, by simp only; omega, by simp only; omega, by rw [hst] at hI2; exact hI2⟩ (by simp only; omega) ⟨⟨_, rfl, by simp, rfl⟩, Nat.le_refl _, soldRows_cl l, rdC_cl _ _ _, ?_⟩
             simp -implicitDefEqProofs only [SlotsOk, Int.natCast_add, Int.cast_ofNat_Int, List.length_nil, Nat.le_refl, WeakTo, tokSts, tokOks, List.append_cancel_left_eq, exists_eq_left', exists_eq_left, List.append_cancel_left_eq, List.take_length, ObCl, and_true, true_and, push_cast, Nat.reduceEqDiff, Nat.reduceBEq, Nat.reduceBNe, Nat.reduceAdd, Nat.reduceMul, Nat.reduceLT, Nat.reduceLeDiff, Nat.reduceSub, reduceCtorEq, Int.reduceToNat, ↓reduceIte]
             omega)
          | trace_state
      | true =>
        have hl2 := hold_ok hl hcb
        have hw : ∃ x, holdL l (drawH bs q) = x := ⟨_, rfl⟩
        obtain ⟨x, hx0⟩ := hw
        rw [hx0] at hl2
        have vq3 := pickV_range (p := q + 1 + 1 + 1) (H.up (by omega) (by omega)) 2 (by omega)
        have hxl : 1 ≤ x.holds.length := by
          rw [← hx0]
          simp only [holdL, List.length_append, List.length_cons]
          omega
        have vq4 := pickV_range (p := q + 1 + 1 + 1 + 1) (H.up (by omega) (by omega)) x.holds.length (by omega)
        by_cases hz : pickV bs (q + 1 + 1 + 1) 2 = 0
        · have hst : stepS bs (l, q) = (keepL x (x.holds.getD (pickV bs (q + 1 + 1 + 1 + 1) x.holds.length).toNat default).txn, q + 1 + 1 + 1 + 1 + 1) := by rw [stepS]; simp only [hcb, hx0, hz, if_true]
          have hk := (keep_ok hl2 (x.holds.getD (pickV bs (q + 1 + 1 + 1 + 1) x.holds.length).toNat default).txn).1
          have hK := fun g => l6Keep_gives x (x.holds.getD (pickV bs (q + 1 + 1 + 1 + 1) x.holds.length).toNat default).txn g (fun ht => hl2.cls (thereB_t ht))
          generalize keepL x (x.holds.getD (pickV bs (q + 1 + 1 + 1 + 1) x.holds.length).toNat default).txn = y at hst hk hK
          try simp -implicitDefEqProofs only [zeroLeg, r1, r2, r5, r6, r7, r8, lenMax, List.length_set, w1, w2, getD4, hcb, hx0, hz, push_cast, Nat.reduceEqDiff, Nat.reduceBEq, Nat.reduceBNe, Nat.reduceAdd, Nat.reduceMul, Nat.reduceLT, Nat.reduceLeDiff, Nat.reduceSub, reduceCtorEq, Int.reduceToNat, ↓reduceIte]
          repeat'
            (first
             | (refine uYes ?_; first | exact List.mem_cons_self | (simp only [List.mem_cons, List.not_mem_nil, or_false, true_or, or_true]; done))
             | (refine uNo (by kernel_rfl))
             | (refine flatMk ?_; kernel_rfl)
             | (refine And.intro ?_ ?_)
             | (intro hx)
             | ((first
                 | (refine callGF ?_)
                 | (refine callQGF ?_)
                 | (refine skipG ?_)
                 | (refine inX_mkU [r] [h.length + 2] (by kernel_rfl) (by simp; omega) ?_)
                 | (refine callM (dst := some 19) (pick_gives bs _ _ r _ (r3 _ _) (by simp; omega) (H.up (by omega) (by omega))) ?_)
                 | (refine callM (dst := some 40) (pick_gives bs _ _ r _ (r3 _ _) (by simp; omega) (H.up (by omega) (by omega))) ?_)
                 | (refine callXR (r := r) (by simp) (by simp; omega) (fun h' hr' hl' => pick_gives bs _ _ r h' (hr'.trans (r3 _ _)) hl' (H.up (by omega) (by omega))) ?_)
                 | (refine callXG (fun _ => l6Hold_gives l (drawH bs q) 1000000000 _ hl) ?_)
                 | (refine callXG hK ?_)); simp -implicitDefEqProofs only [zeroLeg, r1, r2, r5, r6, r7, r8, lenMax, List.length_set, w1, w2, getD4, hcb, hx0, hz, push_cast, Nat.reduceEqDiff, Nat.reduceBEq, Nat.reduceBNe, Nat.reduceAdd, Nat.reduceMul, Nat.reduceLT, Nat.reduceLeDiff, Nat.reduceSub, reduceCtorEq, Int.reduceToNat, ↓reduceIte]))
          all_goals first
            | omega
            | (right; kernel_rfl)
            | (refine round_mkT (y, n - 1, q + 1 + 1 + 1 + 1 + 1) ⟨hk, by simp only; omega, by simp only; omega, by simp only; omega, by simp only; omega, by rw [hst] at hI2; exact hI2⟩ (by simp only; omega) ⟨⟨_, rfl, by simp, rfl⟩, Nat.le_refl _, soldRows_cl y, rdC_cl _ _ _, ?_⟩
               simp -implicitDefEqProofs only [SlotsOk, Int.natCast_add, Int.cast_ofNat_Int, List.length_nil, Nat.le_refl, WeakTo, tokSts, tokOks, List.append_cancel_left_eq, exists_eq_left', exists_eq_left, List.append_cancel_left_eq, List.take_length, ObCl, and_true, true_and, push_cast, Nat.reduceEqDiff, Nat.reduceBEq, Nat.reduceBNe, Nat.reduceAdd, Nat.reduceMul, Nat.reduceLT, Nat.reduceLeDiff, Nat.reduceSub, reduceCtorEq, Int.reduceToNat, ↓reduceIte]
               omega)
            | trace_state
        · have hst : stepS bs (l, q) = (x, q + 1 + 1 + 1 + 1) := by rw [stepS]; simp only [hcb, hx0, hz, if_true, if_false]
          have hz' : decide (pickV bs (q + 1 + 1 + 1) 2 = 0) = false := decide_eq_false hz
          try simp -implicitDefEqProofs only [zeroLeg, r1, r2, r5, r6, r7, r8, lenMax, List.length_set, w1, w2, getD4, hcb, hx0, hz', push_cast, Nat.reduceEqDiff, Nat.reduceBEq, Nat.reduceBNe, Nat.reduceAdd, Nat.reduceMul, Nat.reduceLT, Nat.reduceLeDiff, Nat.reduceSub, reduceCtorEq, Int.reduceToNat, ↓reduceIte]
          repeat'
            (first
             | (refine uYes ?_; first | exact List.mem_cons_self | (simp only [List.mem_cons, List.not_mem_nil, or_false, true_or, or_true]; done))
             | (refine uNo (by kernel_rfl))
             | (refine flatMk ?_; kernel_rfl)
             | (refine And.intro ?_ ?_)
             | (intro hx)
             | ((first
                 | (refine callGF ?_)
                 | (refine callQGF ?_)
                 | (refine skipG ?_)
                 | (refine inX_mkU [r] [h.length + 2] (by kernel_rfl) (by simp; omega) ?_)
                 | (refine callM (dst := some 19) (pick_gives bs _ _ r _ (r3 _ _) (by simp; omega) (H.up (by omega) (by omega))) ?_)
                 | (refine callM (dst := some 40) (pick_gives bs _ _ r _ (r3 _ _) (by simp; omega) (H.up (by omega) (by omega))) ?_)
                 | (refine callXR (r := r) (by simp) (by simp; omega) (fun h' hr' hl' => pick_gives bs _ _ r h' (hr'.trans (r3 _ _)) hl' (H.up (by omega) (by omega))) ?_)
                 | (refine callXG (fun _ => l6Hold_gives l (drawH bs q) 1000000000 _ hl) ?_)); simp -implicitDefEqProofs only [zeroLeg, r1, r2, r5, r6, r7, r8, lenMax, List.length_set, w1, w2, getD4, hcb, hx0, hz', push_cast, Nat.reduceEqDiff, Nat.reduceBEq, Nat.reduceBNe, Nat.reduceAdd, Nat.reduceMul, Nat.reduceLT, Nat.reduceLeDiff, Nat.reduceSub, reduceCtorEq, Int.reduceToNat, ↓reduceIte]))
          all_goals first
            | omega
            | (right; kernel_rfl)
            | (refine round_mkT (x, n - 1, q + 1 + 1 + 1 + 1) ⟨hl2, by simp only; omega, by simp only; omega, by simp only; omega, by simp only; omega, by rw [hst] at hI2; exact hI2⟩ (by simp only; omega) ⟨⟨_, rfl, by simp, rfl⟩, Nat.le_refl _, soldRows_cl x, rdC_cl _ _ _, ?_⟩
               simp -implicitDefEqProofs only [SlotsOk, Int.natCast_add, Int.cast_ofNat_Int, List.length_nil, Nat.le_refl, WeakTo, tokSts, tokOks, List.append_cancel_left_eq, exists_eq_left', exists_eq_left, List.append_cancel_left_eq, List.take_length, ObCl, and_true, true_and, push_cast, Nat.reduceEqDiff, Nat.reduceBEq, Nat.reduceBNe, Nat.reduceAdd, Nat.reduceMul, Nat.reduceLT, Nat.reduceLeDiff, Nat.reduceSub, reduceCtorEq, Int.reduceToNat, ↓reduceIte]
               omega)
            | trace_state
end Go.Proofs.Ytmehbbepppjikaa

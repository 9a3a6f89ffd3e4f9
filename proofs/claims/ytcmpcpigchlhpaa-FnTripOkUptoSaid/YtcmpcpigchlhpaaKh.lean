/- A net and a trip are drawn; what a trip that can be made is. -/
import Derived.Test.YtcmpcpigchlhpaaKg

namespace Go.Proofs.Ytcmpcpigchlhpaa
set_option linter.unusedSectionVars false
open Go.Av
variable [Av.Start]
set_option maxRecDepth 10000
set_option maxHeartbeats 2000000
set_option linter.unusedSimpArgs false
set_option linter.unusedVariables false

theorem anyN_lenB {bs : List Int} {p : Int} (H : Rd bs (p + 300)) (hp0 : 0 ≤ p) : 2 ≤ (anyN bs p).1.length ∧ (anyN bs p).1.length ≤ 6 := by
  obtain ⟨a1, a2, a3, a4⟩ := netV_ok H hp0
  have a5 := netV_len H hp0
  rw [anyN]
  split
  · simp only [List.length_set]
    exact ⟨a5, a2⟩
  · exact ⟨a5, a2⟩
theorem drawTripOk_ex (bs : List Int) (hb : ∀ x, x ∈ bs → 0 ≤ x ∧ x ≤ 255) : ∃ (net : List Leg) (t : Trip), ∀ h, Gives Try.prog 5 [.slice (bs.map (.int .u8)) .no] h (.tup [.slice (net.map Leg.d) .no, t.d]) := by
  have hR := fun p h0 h1 => rd_take hb p h0 h1
  have hA := anyN_place (bs := bs.take 2000) (p := 0) (hR _ (by omega) (by omega)) (by omega)
  have hL := anyN_lenB (bs := bs.take 2000) (p := 0) (hR _ (by omega) (by omega)) (by omega)
  have hG := fun (r : Nat) g q1 q2 => l14AnyNet_gives (bs.take 2000) 0 r g q1 q2 (hR _ (by omega) (by omega)) (by omega)
  have hO := l1Open_gives bs
  generalize bs.take 2000 = cs at hR hA hG hO hL
  generalize anyN cs 0 = s at hA hG hL
  obtain ⟨net, u⟩ := s
  simp only at hA hG hL
  obtain ⟨fs, u2, f1, f2, f3, f4, hF⟩ := l14Fares_ex cs u (by omega) (hR _ (by omega) (by omega))
  obtain ⟨t, u3, t1, t2, hT⟩ := l14Trip_ex cs net fs (by omega) (by omega) f1 f2 u2 (by omega) (hR _ (by omega) (by omega))
  refine ⟨net, t, fun h => ?_⟩
  refine meets_of [] mixed Try.func5 rfl (by kernel_rfl) (by kernel_rfl) (by rw [Try.ntmps5]; simp only [List.length_cons, List.length_nil]; omega) (fun hf => ?_)
  rw [Try.results5]
  clear hf
  try simp -implicitDefEqProofs only [lenMax, push_cast, Nat.reduceEqDiff, Nat.reduceBEq, Nat.reduceBNe, Nat.reduceAdd, Nat.reduceMul, Nat.reduceLT, Nat.reduceLeDiff, Nat.reduceSub, reduceCtorEq, Int.reduceToNat, ↓reduceIte]
  repeat'
    (first
     | (refine uYes ?_; first | exact List.mem_cons_self | (simp only [List.mem_cons, List.not_mem_nil, or_false, true_or, or_true]; done))
     | (refine uNo (by kernel_rfl))
     | (refine flatMk ?_; kernel_rfl)
     | (refine And.intro ?_ ?_)
     | (intro hx)
     | ((first
         | (refine callGF ?_)
         | (refine callQGF ?_)
         | (refine skipG ?_)
         | (refine callM (hO _) ?_)
         | (refine callM (dst := some 9) (hG _ _ (ob_app _ _ 1) (by simp)) ?_)
         | (refine callM (dst := some 14) (hF _ _ (ob_app _ _ 1) (by simp)) ?_)
         | (refine callM (dst := some 15) (hT _ _ (ob_app _ _ 1) (by simp)) ?_)); simp -implicitDefEqProofs only [lenMax, push_cast, Nat.reduceEqDiff, Nat.reduceBEq, Nat.reduceBNe, Nat.reduceAdd, Nat.reduceMul, Nat.reduceLT, Nat.reduceLeDiff, Nat.reduceSub, reduceCtorEq, Int.reduceToNat, ↓reduceIte]))
  all_goals first
    | omega
    | rfl
    | trace_state
/-- what is true of a trip that can be made -/
theorem trip_facts {net : List Leg} {t : Trip} (hn : netB net = true) (hf : fitsB net t = true) : ∃ J : Nat → Nat, ∀ i, i < t.legs.length → J i < net.length ∧ (∀ k, k < net.length → ((net.getD k default).name = t.legs.getD i [] ↔ k = J i)) ∧
    (0 < i → (net.getD (J (i - 1)) default).dst = (net.getD (J i) default).src ∧ (net.getD (J (i - 1)) default).arr < (net.getD (J i) default).dep) ∧ fitsB net ⟨t.legs.take (i + 1), t.fare, t.seats⟩ = true := by
  refine ⟨fun i => (tripIdx net t i).toNat, fun i hi => ?_⟩
  rw [netB, Bool.and_eq_true, allB_iff] at hn
  rw [fitsB, Bool.and_eq_true, allB_iff] at hf
  obtain ⟨hfo, hat⟩ := hf
  have key : ∀ i, i < t.legs.length → 0 ≤ tripIdx net t i := fun i hi => by
    have := hat i hi
    rw [tripAt, Bool.and_eq_true, decide_eq_true_eq] at this
    exact this.1
  have h0 := key i hi
  have hlt := tripIdx_lt h0
  have hname : ∀ k, k < net.length → legIdx net (net.getD k default).name = k := fun k hk => by
    have := hn.1 k hk
    rw [netAt, Bool.and_eq_true, decide_eq_true_eq] at this
    exact this.2
  refine ⟨by simp only; omega, fun k hk => ⟨fun e => ?_, fun e => ?_⟩, fun hi0 => ?_, ?_⟩
  · have := hname k hk
    rw [e] at this
    show k = (tripIdx net t i).toNat
    rw [tripIdx, this]
    rfl
  · obtain ⟨j, j1, j2, j3, _⟩ := idxV_spec (default : Leg) h0
    have e2 : k = j := by
      have e : k = (tripIdx net t i).toNat := e
      rw [tripIdx, legIdx, j1] at e
      exact e
    rw [e2]
    exact of_decide_eq_true j3
  · have := hat i hi
    rw [tripAt, Bool.and_eq_true, Bool.or_eq_true, decide_eq_true_eq, decide_eq_true_eq] at this
    have h2 := this.2.resolve_left (by omega)
    rw [nextB, Bool.and_eq_true, decide_eq_true_eq, decide_eq_true_eq] at h2
    exact h2
  · have hl : (t.legs.take (i + 1)).length = i + 1 := by rw [List.length_take]; omega
    rw [formB, inB, inB] at hfo
    simp only [Bool.and_eq_true, decide_eq_true_eq, allB_iff] at hfo
    rw [fitsB, formB, inB, inB]
    simp only [Bool.and_eq_true, decide_eq_true_eq, allB_iff, hl]
    refine ⟨⟨⟨⟨⟨by omega, by omega⟩, fun j hj => ?_⟩, hfo.1.2⟩, hfo.2⟩, fun j hj => ?_⟩
    · have := hfo.1.1.2 j (by omega)
      rw [unlikeAt] at this ⊢
      rw [getD_take [] t.legs (by omega), List.take_take, Nat.min_eq_left (by omega)]
      exact this
    · have := hat j (by omega)
      have e : ∀ j, j < i + 1 → tripIdx net ⟨t.legs.take (i + 1), t.fare, t.seats⟩ j = tripIdx net t j := fun j hj => by
        rw [tripIdx, tripIdx]
        simp only
        rw [getD_take [] t.legs hj]
      rw [tripAt, tripLeg, tripLeg] at this ⊢
      rw [e j hj, e (j - 1) (by omega)]
      exact this
end Go.Proofs.Ytcmpcpigchlhpaa

/- THE LAW: a trip can be made just if each leg goes on where and when the one ahead of it ended. -/
namespace Go.Proofs.Ytcmpcpigchlhpaa
set_option linter.unusedSectionVars false
open Go.Av
variable [Av.Start]
set_option maxRecDepth 10000
set_option maxHeartbeats 2000000
set_option linter.unusedSimpArgs false
set_option linter.unusedVariables false

def lastJ (J : Nat → Nat) : Nat → Int
  | 0 => -1
  | i + 1 => J i
theorem fnTripOk_gives (bs : List Int) (h : Hp) (hb : ∀ x, x ∈ bs → 0 ≤ x ∧ x ≤ 255) : Gives Try.prog 3 [.slice (bs.map (.int .u8)) .no] h (.bool true) := by
  obtain ⟨net, t, hD⟩ := drawTripOk_ex bs hb
  have hI := fun g => implTripOk_gives net t g
  have hS := fun g => specTripOk_gives net t g
  have hN := fun g => implNetOk_gives net g
  have hM := fun g => specNetOk_gives net g
  cases hB : netB net && fitsB net t with
  | false =>
    rw [hB] at hI hS
    generalize netB net = b at hN hM
    refine meets_of [] mixed Try.func3 rfl (by kernel_rfl) (by kernel_rfl) (by rw [Try.ntmps3]; simp only [List.length_cons, List.length_nil]; omega) (fun hf => ?_)
    rw [Try.results3]
    clear hf
    try simp -implicitDefEqProofs only [hB, push_cast, Nat.reduceEqDiff, Nat.reduceBEq, Nat.reduceBNe, Nat.reduceAdd, Nat.reduceMul, Nat.reduceLT, Nat.reduceLeDiff, Nat.reduceSub, reduceCtorEq, Int.reduceToNat, ↓reduceIte]
    repeat'
      (first
       | (refine uYes ?_; first | exact List.mem_cons_self | (simp only [List.mem_cons, List.not_mem_nil, or_false, true_or, or_true]; done))
       | (refine uNo (by kernel_rfl))
       | (refine flatMk ?_; kernel_rfl)
       | (refine And.intro ?_ ?_)
       | (intro hx)
       | ((first
           | (refine callGF ?_)
           | (refine callQGF ?_)
           | (refine skipG ?_)
           | (refine callS (hD _) ?_)
           | (refine callQ (hD _) ?_)
           | (refine callG (fun hc => (hD _)) ?_)
           | (refine callQG (fun hc => (hD _)) ?_)
           | (refine callS (hI _) ?_)
           | (refine callQ (hI _) ?_)
           | (refine callG (fun hc => (hI _)) ?_)
           | (refine callQG (fun hc => (hI _)) ?_)
           | (refine callS (hS _) ?_)
           | (refine callQ (hS _) ?_)
           | (refine callG (fun hc => (hS _)) ?_)
           | (refine callQG (fun hc => (hS _)) ?_)
           | (refine callS (hN _) ?_)
           | (refine callQ (hN _) ?_)
           | (refine callG (fun hc => (hN _)) ?_)
           | (refine callQG (fun hc => (hN _)) ?_)
           | (refine callS (hM _) ?_)
           | (refine callQ (hM _) ?_)
           | (refine callG (fun hc => (hM _)) ?_)
           | (refine callQG (fun hc => (hM _)) ?_)); simp -implicitDefEqProofs only [hB, push_cast, Nat.reduceEqDiff, Nat.reduceBEq, Nat.reduceBNe, Nat.reduceAdd, Nat.reduceMul, Nat.reduceLT, Nat.reduceLeDiff, Nat.reduceSub, reduceCtorEq, Int.reduceToNat, ↓reduceIte]))
    all_goals first
      | omega
      | rfl
      | trace_state
  | true =>
    rw [hB] at hI hS
    rw [Bool.and_eq_true] at hB
    obtain ⟨hB1, hB2⟩ := hB
    obtain ⟨J, hJ⟩ := trip_facts hB1 hB2
    rw [hB1] at hN hM
    refine meets_of [] mixed Try.func3 rfl (by kernel_rfl) (by kernel_rfl) (by rw [Try.ntmps3]; simp only [List.length_cons, List.length_nil]; omega) (fun hf => ?_)
    rw [Try.results3]
    have hnl : net.length ≤ 1073741824 := by
      rw [netB, Bool.and_eq_true, decide_eq_true_eq] at hB1
      omega
    have htl : t.legs.length ≤ 3 := by
      rw [fitsB, formB, inB, inB] at hB2
      simp only [Bool.and_eq_true, decide_eq_true_eq] at hB2
      omega
    clear hf
    try simp -implicitDefEqProofs only [push_cast, Nat.reduceEqDiff, Nat.reduceBEq, Nat.reduceBNe, Nat.reduceAdd, Nat.reduceMul, Nat.reduceLT, Nat.reduceLeDiff, Nat.reduceSub, reduceCtorEq, Int.reduceToNat, ↓reduceIte]
    repeat'
      (first
       | (refine uYes ?_; first | exact List.mem_cons_self | (simp only [List.mem_cons, List.not_mem_nil, or_false, true_or, or_true]; done))
       | (refine uNo (by kernel_rfl))
       | (refine flatMk ?_; kernel_rfl)
       | (refine And.intro ?_ ?_)
       | (intro hx)
       | ((first
           | (refine callGF ?_)
           | (refine callQGF ?_)
           | (refine skipG ?_)
           | (refine callS (hD _) ?_)
           | (refine callQ (hD _) ?_)
           | (refine callG (fun hc => (hD _)) ?_)
           | (refine callQG (fun hc => (hD _)) ?_)
           | (refine callS (hI _) ?_)
           | (refine callQ (hI _) ?_)
           | (refine callG (fun hc => (hI _)) ?_)
           | (refine callQG (fun hc => (hI _)) ?_)
           | (refine callS (hS _) ?_)
           | (refine callQ (hS _) ?_)
           | (refine callG (fun hc => (hS _)) ?_)
           | (refine callQG (fun hc => (hS _)) ?_)
           | (refine callS (hN _) ?_)
           | (refine callQ (hN _) ?_)
           | (refine callG (fun hc => (hN _)) ?_)
           | (refine callQG (fun hc => (hN _)) ?_)
           | (refine callS (hM _) ?_)
           | (refine callQ (hM _) ?_)
           | (refine callG (fun hc => (hM _)) ?_)
           | (refine callQG (fun hc => (hM _)) ?_)); simp -implicitDefEqProofs only [push_cast, Nat.reduceEqDiff, Nat.reduceBEq, Nat.reduceBNe, Nat.reduceAdd, Nat.reduceMul, Nat.reduceLT, Nat.reduceLeDiff, Nat.reduceSub, reduceCtorEq, Int.reduceToNat, ↓reduceIte]))
    all_goals first
      | omega
      | rfl
      | skip
    refine ev_loop [] (fun i : Nat => [(0, .slice (bs.map (.int .u8)) .no), (3, .slice (net.map Leg.d) .no), (4, .ptr h.length 0), (6, .int .i64 (lastJ J i)), (7, .int .i64 i)]) (fun _ => [.row t.cs]) (fun i => i ≤ t.legs.length) (fun i => t.legs.length - i) 0 trivial (Nat.zero_le _) ?_ ?_
    · refine ⟨1, by simp, by simp [tokSts], ?_⟩
      simp -implicitDefEqProofs only [lastJ, Int.natCast_add, Int.cast_ofNat_Int, List.length_nil, Nat.le_refl, WeakTo, tokSts, tokOks, List.append_cancel_left_eq, exists_eq_left', exists_eq_left, List.append_cancel_left_eq, List.take_length, ObCl, and_true, true_and, push_cast, Nat.reduceEqDiff, Nat.reduceBEq, Nat.reduceBNe, Nat.reduceAdd, Nat.reduceMul, Nat.reduceLT, Nat.reduceLeDiff, Nat.reduceSub, reduceCtorEq, Int.reduceToNat, ↓reduceIte]
    · intro i hi
      have wi : IntKind.i64.wrap ((i : Int) + 1) = (i : Int) + 1 := wrap_id (by omega) (by omega)
      rcases Nat.lt_or_ge i t.legs.length with hlt | hge
      · obtain ⟨j1, j2, j3, j4⟩ := hJ i hlt
        have hci : decide ((i : Int) < t.legs.length) = true := decide_eq_true (by omega)
        have hLess := fun g => implTripOk_gives net ⟨t.legs.take (i + 1), t.fare, t.seats⟩ g
        rw [hB1, j4] at hLess
        have hgS : ∀ z, (t.legs.map D.str).getD i z = .str (t.legs.getD i []) := fun z => by
          rw [List.getD_eq_getElem?_getD, List.getElem?_map, List.getElem?_eq_getElem hlt, List.getD_eq_getElem?_getD, List.getElem?_eq_getElem hlt]
          rfl
        try simp -implicitDefEqProofs only [hci, wi, push_cast, Nat.reduceEqDiff, Nat.reduceBEq, Nat.reduceBNe, Nat.reduceAdd, Nat.reduceMul, Nat.reduceLT, Nat.reduceLeDiff, Nat.reduceSub, reduceCtorEq, Int.reduceToNat, ↓reduceIte]
        repeat'
          (first
           | (refine uYes ?_; first | exact List.mem_cons_self | (simp only [List.mem_cons, List.not_mem_nil, or_false, true_or, or_true]; done))
           | (refine uNo (by kernel_rfl))
           | (refine flatMk ?_; kernel_rfl)
           | (refine And.intro ?_ ?_)
           | (intro hx)
           | ((first
               | (refine callGF ?_)
               | (refine callQGF ?_)
               | (refine skipG ?_)
               | (refine callS (in_gives _ _ _ _) ?_)
               | (refine callQ (in_gives _ _ _ _) ?_)
               | (refine callG (fun hc => (in_gives _ _ _ _)) ?_)
               | (refine callQG (fun hc => (in_gives _ _ _ _)) ?_)); simp -implicitDefEqProofs only [hci, wi, push_cast, Nat.reduceEqDiff, Nat.reduceBEq, Nat.reduceBNe, Nat.reduceAdd, Nat.reduceMul, Nat.reduceLT, Nat.reduceLeDiff, Nat.reduceSub, reduceCtorEq, Int.reduceToNat, ↓reduceIte]))
        refine ev_loop [] (fun k : Nat => [(0, .slice (bs.map (.int .u8)) .no), (3, .slice (net.map Leg.d) .no), (4, .ptr h.length 0), (6, .int .i64 (lastJ J i)), (7, .int .i64 i), (8, .int .i64 (if J i < k then (J i : Int) else -1)), (9, .int .i64 k)]) (fun _ => [.row t.cs]) (fun k => k ≤ net.length) (fun k => net.length - k) 0 trivial (Nat.zero_le _) ?_ ?_
        · refine ⟨1, by simp, by simp [tokSts], ?_⟩
          simp -implicitDefEqProofs only [Nat.not_lt_zero, Int.natCast_add, Int.cast_ofNat_Int, List.length_nil, Nat.le_refl, WeakTo, tokSts, tokOks, List.append_cancel_left_eq, exists_eq_left', exists_eq_left, List.append_cancel_left_eq, List.take_length, ObCl, and_true, true_and, push_cast, Nat.reduceEqDiff, Nat.reduceBEq, Nat.reduceBNe, Nat.reduceAdd, Nat.reduceMul, Nat.reduceLT, Nat.reduceLeDiff, Nat.reduceSub, reduceCtorEq, Int.reduceToNat, ↓reduceIte]
        · intro k hk
          have wk : IntKind.i64.wrap ((k : Int) + 1) = (k : Int) + 1 := wrap_id (by omega) (by omega)
          rcases Nat.lt_or_ge k net.length with hkl | hkg
          · have hck : decide ((k : Int) < net.length) = true := decide_eq_true (by omega)
            have hL := leg_at hkl
            have hj := j2 k hkl
            by_cases hkJ : k = J i
            · have hcn : decide ((net.getD k default).name = t.legs.getD i []) = true := decide_eq_true (hj.2 hkJ)
              try simp -implicitDefEqProofs only [hck, wk, hL, hgS, hcn, push_cast, Nat.reduceEqDiff, Nat.reduceBEq, Nat.reduceBNe, Nat.reduceAdd, Nat.reduceMul, Nat.reduceLT, Nat.reduceLeDiff, Nat.reduceSub, reduceCtorEq, Int.reduceToNat, ↓reduceIte]
              repeat'
                (first
                 | (refine uYes ?_; first | exact List.mem_cons_self | (simp only [List.mem_cons, List.not_mem_nil, or_false, true_or, or_true]; done))
                 | (refine uNo (by kernel_rfl))
                 | (refine flatMk ?_; kernel_rfl)
                 | (refine And.intro ?_ ?_)
                 | (intro hx)
                 | ((first
                     | (refine callGF ?_)
                     | (refine callQGF ?_)
                     | (refine skipG ?_)
                     | (refine callS (in_gives _ _ _ _) ?_)
                     | (refine callQ (in_gives _ _ _ _) ?_)
                     | (refine callG (fun hc => (in_gives _ _ _ _)) ?_)
                     | (refine callQG (fun hc => (in_gives _ _ _ _)) ?_)); simp -implicitDefEqProofs only [hck, wk, hL, hgS, hcn, push_cast, Nat.reduceEqDiff, Nat.reduceBEq, Nat.reduceBNe, Nat.reduceAdd, Nat.reduceMul, Nat.reduceLT, Nat.reduceLeDiff, Nat.reduceSub, reduceCtorEq, Int.reduceToNat, ↓reduceIte]))
              all_goals first
                | omega
                | (refine round_mk (k + 1) (by omega) (by omega) ?_
                   simp -implicitDefEqProofs only [wk, if_pos (show J i < k + 1 by omega), Int.natCast_add, Int.cast_ofNat_Int, List.length_nil, Nat.le_refl, WeakTo, tokSts, tokOks, List.append_cancel_left_eq, exists_eq_left', exists_eq_left, List.append_cancel_left_eq, List.take_length, ObCl, and_true, true_and, push_cast, Nat.reduceEqDiff, Nat.reduceBEq, Nat.reduceBNe, Nat.reduceAdd, Nat.reduceMul, Nat.reduceLT, Nat.reduceLeDiff, Nat.reduceSub, reduceCtorEq, Int.reduceToNat, ↓reduceIte]
                   first
                     | done
                     | omega
                     | trace_state)
                | trace_state
            · have hcn : decide ((net.getD k default).name = t.legs.getD i []) = false := decide_eq_false (fun e => hkJ (hj.1 e))
              try simp -implicitDefEqProofs only [hck, wk, hL, hgS, hcn, push_cast, Nat.reduceEqDiff, Nat.reduceBEq, Nat.reduceBNe, Nat.reduceAdd, Nat.reduceMul, Nat.reduceLT, Nat.reduceLeDiff, Nat.reduceSub, reduceCtorEq, Int.reduceToNat, ↓reduceIte]
              repeat'
                (first
                 | (refine uYes ?_; first | exact List.mem_cons_self | (simp only [List.mem_cons, List.not_mem_nil, or_false, true_or, or_true]; done))
                 | (refine uNo (by kernel_rfl))
                 | (refine flatMk ?_; kernel_rfl)
                 | (refine And.intro ?_ ?_)
                 | (intro hx)
                 | ((first
                     | (refine callGF ?_)
                     | (refine callQGF ?_)
                     | (refine skipG ?_)
                     | (refine callS (in_gives _ _ _ _) ?_)
                     | (refine callQ (in_gives _ _ _ _) ?_)
                     | (refine callG (fun hc => (in_gives _ _ _ _)) ?_)
                     | (refine callQG (fun hc => (in_gives _ _ _ _)) ?_)); simp -implicitDefEqProofs only [hck, wk, hL, hgS, hcn, push_cast, Nat.reduceEqDiff, Nat.reduceBEq, Nat.reduceBNe, Nat.reduceAdd, Nat.reduceMul, Nat.reduceLT, Nat.reduceLeDiff, Nat.reduceSub, reduceCtorEq, Int.reduceToNat, ↓reduceIte]))
              all_goals first
                | omega
                | (refine round_mk (k + 1) (by omega) (by omega) ?_
                   simp -implicitDefEqProofs only [wk, show (J i < k + 1) = (J i < k) from propext ⟨fun e => by omega, fun e => by omega⟩, Int.natCast_add, Int.cast_ofNat_Int, List.length_nil, Nat.le_refl, WeakTo, tokSts, tokOks, List.append_cancel_left_eq, exists_eq_left', exists_eq_left, List.append_cancel_left_eq, List.take_length, ObCl, and_true, true_and, push_cast, Nat.reduceEqDiff, Nat.reduceBEq, Nat.reduceBNe, Nat.reduceAdd, Nat.reduceMul, Nat.reduceLT, Nat.reduceLeDiff, Nat.reduceSub, reduceCtorEq, Int.reduceToNat, ↓reduceIte]
                   first
                     | done
                     | omega
                     | trace_state)
                | trace_state
          · obtain rfl : k = net.length := by omega
            have hck : decide ((net.length : Int) < net.length) = false := decide_eq_false (by omega)
            have ha : (if J i < net.length then (J i : Int) else -1) = J i := if_pos j1
            have hL := leg_at j1
            have ha0 : decide ((J i : Int) < 0) = false := decide_eq_false (by omega)
            cases i with
            | zero =>
              have hl0 : lastJ J 0 = -1 := rfl
              have wz : IntKind.i64.wrap (0 + 1) = 1 := by decide
              try simp -implicitDefEqProofs only [hck, wz, ha, hL, hl0, ha0, push_cast, Nat.reduceEqDiff, Nat.reduceBEq, Nat.reduceBNe, Nat.reduceAdd, Nat.reduceMul, Nat.reduceLT, Nat.reduceLeDiff, Nat.reduceSub, reduceCtorEq, Int.reduceToNat, ↓reduceIte]
              repeat'
                (first
                 | (refine uYes ?_; first | exact List.mem_cons_self | (simp only [List.mem_cons, List.not_mem_nil, or_false, true_or, or_true]; done))
                 | (refine uNo (by kernel_rfl))
                 | (refine flatMk ?_; kernel_rfl)
                 | (refine And.intro ?_ ?_)
                 | (intro hx)
                 | ((first
                     | (refine callGF ?_)
                     | (refine callQGF ?_)
                     | (refine skipG ?_)
                     | (refine inX_mkS [] [h.length + 1] (by rfl) (by kernel_rfl) (by simp) ?_)
                     | (refine callS (hLess _) ?_)
                     | (refine callQ (hLess _) ?_)
                     | (refine callG (fun hc => (hLess _)) ?_)
                     | (refine callQG (fun hc => (hLess _)) ?_)); simp -implicitDefEqProofs only [hck, wz, ha, hL, hl0, ha0, push_cast, Nat.reduceEqDiff, Nat.reduceBEq, Nat.reduceBNe, Nat.reduceAdd, Nat.reduceMul, Nat.reduceLT, Nat.reduceLeDiff, Nat.reduceSub, reduceCtorEq, Int.reduceToNat, ↓reduceIte]))
              all_goals first
                | omega
                | exact .inr (by kernel_rfl)
                | (refine round_mk (0 + 1) (by omega) (by omega) ?_
                   simp -implicitDefEqProofs only [lastJ, Int.natCast_add, Int.cast_ofNat_Int, List.length_nil, Nat.le_refl, WeakTo, tokSts, tokOks, List.append_cancel_left_eq, exists_eq_left', exists_eq_left, List.append_cancel_left_eq, List.take_length, ObCl, and_true, true_and, push_cast, Nat.reduceEqDiff, Nat.reduceBEq, Nat.reduceBNe, Nat.reduceAdd, Nat.reduceMul, Nat.reduceLT, Nat.reduceLeDiff, Nat.reduceSub, reduceCtorEq, Int.reduceToNat, ↓reduceIte]
                   first
                     | done
                     | omega
                     | trace_state)
                | trace_state
            | succ i =>
              have hl1 : lastJ J (i + 1) = J i := rfl
              have ws : IntKind.i64.wrap ((i : Int) + 1 + 1) = (i : Int) + 1 + 1 := wrap_id (by omega) (by omega)
              have wt : ((i : Int) + 1 + 1).toNat = i + 1 + 1 := by omega
              obtain ⟨i1, _⟩ := hJ i (by omega)
              obtain ⟨d1, d2⟩ := j3 (by omega)
              rw [Nat.add_sub_cancel] at d1 d2
              have hL2 := leg_at i1
              have hp : decide ((0 : Int) ≤ J i) = true := decide_eq_true (by omega)
              have hd1 : decide ((net.getD (J i) default).dst = (net.getD (J (i + 1)) default).src) = true := decide_eq_true d1
              have hd2 : decide ((net.getD (J (i + 1)) default).dep ≤ (net.getD (J i) default).arr) = false := decide_eq_false (by omega)
              try simp -implicitDefEqProofs only [hck, ws, wt, ha, hL, hL2, hl1, ha0, hp, hd1, hd2, push_cast, Nat.reduceEqDiff, Nat.reduceBEq, Nat.reduceBNe, Nat.reduceAdd, Nat.reduceMul, Nat.reduceLT, Nat.reduceLeDiff, Nat.reduceSub, reduceCtorEq, Int.reduceToNat, ↓reduceIte]
              repeat'
                (first
                 | (refine uYes ?_; first | exact List.mem_cons_self | (simp only [List.mem_cons, List.not_mem_nil, or_false, true_or, or_true]; done))
                 | (refine uNo (by kernel_rfl))
                 | (refine flatMk ?_; kernel_rfl)
                 | (refine And.intro ?_ ?_)
                 | (intro hx)
                 | ((first
                     | (refine callGF ?_)
                     | (refine callQGF ?_)
                     | (refine skipG ?_)
                     | (refine inX_mkS [] [h.length + 1] (by rfl) (by kernel_rfl) (by simp) ?_)
                     | (refine callS (hLess _) ?_)
                     | (refine callQ (hLess _) ?_)
                     | (refine callG (fun hc => (hLess _)) ?_)
                     | (refine callQG (fun hc => (hLess _)) ?_)); simp -implicitDefEqProofs only [hck, ws, wt, ha, hL, hL2, hl1, ha0, hp, hd1, hd2, push_cast, Nat.reduceEqDiff, Nat.reduceBEq, Nat.reduceBNe, Nat.reduceAdd, Nat.reduceMul, Nat.reduceLT, Nat.reduceLeDiff, Nat.reduceSub, reduceCtorEq, Int.reduceToNat, ↓reduceIte]))
              all_goals first
                | omega
                | exact .inr (by kernel_rfl)
                | (refine round_mk (i + 1 + 1) (by omega) (by omega) ?_
                   simp -implicitDefEqProofs only [lastJ, Int.natCast_add, Int.cast_ofNat_Int, List.length_nil, Nat.le_refl, WeakTo, tokSts, tokOks, List.append_cancel_left_eq, exists_eq_left', exists_eq_left, List.append_cancel_left_eq, List.take_length, ObCl, and_true, true_and, push_cast, Nat.reduceEqDiff, Nat.reduceBEq, Nat.reduceBNe, Nat.reduceAdd, Nat.reduceMul, Nat.reduceLT, Nat.reduceLeDiff, Nat.reduceSub, reduceCtorEq, Int.reduceToNat, ↓reduceIte]
                   first
                     | done
                     | omega
                     | trace_state)
                | trace_state
      · obtain rfl : i = t.legs.length := by omega
        have hci : decide ((t.legs.length : Int) < t.legs.length) = false := decide_eq_false (by omega)
        try simp -implicitDefEqProofs only [hci, push_cast, Nat.reduceEqDiff, Nat.reduceBEq, Nat.reduceBNe, Nat.reduceAdd, Nat.reduceMul, Nat.reduceLT, Nat.reduceLeDiff, Nat.reduceSub, reduceCtorEq, Int.reduceToNat, ↓reduceIte]
        repeat'
          (first
           | (refine uYes ?_; first | exact List.mem_cons_self | (simp only [List.mem_cons, List.not_mem_nil, or_false, true_or, or_true]; done))
           | (refine uNo (by kernel_rfl))
           | (refine flatMk ?_; kernel_rfl)
           | (refine And.intro ?_ ?_)
           | (intro hx)
           | ((first
               | (refine callGF ?_)
               | (refine callQGF ?_)
               | (refine skipG ?_)
               | (refine callS (in_gives _ _ _ _) ?_)
               | (refine callQ (in_gives _ _ _ _) ?_)
               | (refine callG (fun hc => (in_gives _ _ _ _)) ?_)
               | (refine callQG (fun hc => (in_gives _ _ _ _)) ?_)); simp -implicitDefEqProofs only [hci, push_cast, Nat.reduceEqDiff, Nat.reduceBEq, Nat.reduceBNe, Nat.reduceAdd, Nat.reduceMul, Nat.reduceLT, Nat.reduceLeDiff, Nat.reduceSub, reduceCtorEq, Int.reduceToNat, ↓reduceIte]))
        all_goals first
          | omega
          | rfl
          | trace_state
end Go.Proofs.Ytcmpcpigchlhpaa

/- Logs are drawn. -/
import Derived.Test.YtcmpcpigchlhpaaDoorHg
import Derived.Test.YtcmpcpigchlhpaaDoorGk

namespace Go.Proofs.YtcmpcpigchlhpaaDoor
set_option linter.unusedSectionVars false
open Go.Av
variable [Av.Start] [TabSha] [TabBits] [TabPow] [TabErr] [TabMax]
set_option maxRecDepth 10000
set_option maxHeartbeats 2000000
set_option linter.unusedSimpArgs false
set_option linter.unusedVariables false

theorem many_gives (c : UInt8) (n : Nat) (h : Hp) (hn : n ≤ 100000) : Gives Tryd.prog 29 [.str [c], .int .i64 n] h (.str (List.replicate n c)) := by
  refine meets_of [] mixed Tryd.func29 rfl (by kernel_rfl) (by kernel_rfl) (by rw [Tryd.ntmps29]; simp only [List.length_cons, List.length_nil]; omega) (fun hf => ?_)
  rw [Tryd.results29]
  clear hf
  have h0 : 0 ≤ lenMax := by decide
  try simp -implicitDefEqProofs only [h0, push_cast, Nat.reduceEqDiff, Nat.reduceBEq, Nat.reduceBNe, Nat.reduceAdd, Nat.reduceMul, Nat.reduceLT, Nat.reduceLeDiff, Nat.reduceSub, reduceCtorEq, Int.reduceToNat, ↓reduceIte]
  repeat'
    (first
     | (refine uYes ?_; first | exact List.mem_cons_self | (simp only [List.mem_cons, List.not_mem_nil, or_false, true_or, or_true]; done))
     | (refine uNo (by kernel_rfl))
     | (refine flatMk ?_; kernel_rfl)
     | (refine And.intro ?_ ?_)
     | (intro hx)
     | ((first
         | (refine callGF ?_)
         | (refine callQGF ?_)
         | (refine skipG ?_)
         | (refine callS (in_gives _ _ _ _) ?_)
         | (refine callQ (in_gives _ _ _ _) ?_)
         | (refine callG (fun hc => (in_gives _ _ _ _)) ?_)
         | (refine callQG (fun hc => (in_gives _ _ _ _)) ?_)); simp -implicitDefEqProofs only [h0, push_cast, Nat.reduceEqDiff, Nat.reduceBEq, Nat.reduceBNe, Nat.reduceAdd, Nat.reduceMul, Nat.reduceLT, Nat.reduceLeDiff, Nat.reduceSub, reduceCtorEq, Int.reduceToNat, ↓reduceIte]))
  all_goals try omega
  refine ev_loop0 [] (fun x : Nat × Nat × Nat => [(0, .str (List.replicate x.1 c)), (1, .int .i64 x.2.2), (5, .str (List.replicate x.2.1 c))]) (fun x => x.2.1 + x.1 * x.2.2 = n ∧ x.1 ≤ 2 * n + 1 ∧ 1 ≤ x.1) (fun x => x.2.2) (1, 0, n) trivial ⟨by simp, by simp, Nat.le_refl _⟩ ?_ ?_
  · refine ⟨rfl, [], ?_⟩
    simp -implicitDefEqProofs only [Int.natCast_add, Int.cast_ofNat_Int, List.length_nil, Nat.le_refl, WeakTo, tokSts, tokOks, List.append_cancel_left_eq, exists_eq_left', exists_eq_left, List.append_cancel_left_eq, List.take_length, ObCl, and_true, true_and, push_cast, Nat.reduceEqDiff, Nat.reduceBEq, Nat.reduceBNe, Nat.reduceAdd, Nat.reduceMul, Nat.reduceLT, Nat.reduceLeDiff, Nat.reduceSub, reduceCtorEq, Int.reduceToNat, ↓reduceIte]
    exact ⟨rfl, rfl⟩
  · rintro ⟨pw, o, q⟩ ⟨e1, e2, e3⟩
    simp only at e1 e2 e3 ⊢
    have hq : pw * q ≤ n := by omega
    rcases Nat.eq_zero_or_pos q with rfl | hq0
    · obtain rfl : o = n := by simpa using e1
      try simp -implicitDefEqProofs only [push_cast, Nat.reduceEqDiff, Nat.reduceBEq, Nat.reduceBNe, Nat.reduceAdd, Nat.reduceMul, Nat.reduceLT, Nat.reduceLeDiff, Nat.reduceSub, reduceCtorEq, Int.reduceToNat, ↓reduceIte]
      repeat'
        (first
         | (refine uYes ?_; first | exact List.mem_cons_self | (simp only [List.mem_cons, List.not_mem_nil, or_false, true_or, or_true]; done))
         | (refine uNo (by kernel_rfl))
         | (refine flatMk ?_; kernel_rfl)
         | (refine And.intro ?_ ?_)
         | (intro hx)
         | ((first
             | (refine callGF ?_)
             | (refine callQGF ?_)
             | (refine skipG ?_)
             | (refine callS (in_gives _ _ _ _) ?_)
             | (refine callQ (in_gives _ _ _ _) ?_)
             | (refine callG (fun hc => (in_gives _ _ _ _)) ?_)
             | (refine callQG (fun hc => (in_gives _ _ _ _)) ?_)); simp -implicitDefEqProofs only [push_cast, Nat.reduceEqDiff, Nat.reduceBEq, Nat.reduceBNe, Nat.reduceAdd, Nat.reduceMul, Nat.reduceLT, Nat.reduceLeDiff, Nat.reduceSub, reduceCtorEq, Int.reduceToNat, ↓reduceIte]))
      all_goals first
        | omega
        | (exfalso; omega)
        | trace_state
    · have hqn : q ≤ n := Nat.le_trans (Nat.le_mul_of_pos_left _ e3) hq
      have hpn : pw ≤ n := Nat.le_trans (Nat.le_mul_of_pos_right _ hq0) hq
      have hpos : (0 : Int) < q := by omega
      have hl : pw + pw ≤ lenMax := by simp only [lenMax]; omega
      have hl2 : o + pw ≤ lenMax := by simp only [lenMax]; omega
      have hr2 : List.replicate pw c ++ List.replicate pw c = List.replicate (pw + pw) c := List.replicate_append_replicate
      have hr3 : List.replicate o c ++ List.replicate pw c = List.replicate (o + pw) c := List.replicate_append_replicate
      have td : (q : Int).tdiv 2 = ((q / 2 : Nat) : Int) := by rw [Int.tdiv_eq_ediv_of_nonneg (by omega)]; omega
      have tm : (q : Int).tmod 2 = ((q % 2 : Nat) : Int) := by rw [Int.tmod_eq_emod_of_nonneg (by omega)]; omega
      obtain ⟨m, hm⟩ : ∃ m, q / 2 = m := ⟨_, rfl⟩
      obtain ⟨b, hb⟩ : ∃ b, q % 2 = b := ⟨_, rfl⟩
      rw [hm] at td
      rw [hb] at tm
      have hqe : q = 2 * m + b := by omega
      have w1 : IntKind.i64.wrap (m : Int) = m := wrap_id (by omega) (by omega)
      have hpm : pw * q = (pw + pw) * m + pw * b := by rw [hqe, Nat.mul_add, ← Nat.mul_assoc, Nat.mul_comm pw 2, Nat.two_mul]
      have hb2 : b = 0 ∨ b = 1 := by omega
      rcases hb2 with rfl | rfl
      · try simp -implicitDefEqProofs only [td, tm, w1, hr2, hpos, List.length_replicate, push_cast, Nat.reduceEqDiff, Nat.reduceBEq, Nat.reduceBNe, Nat.reduceAdd, Nat.reduceMul, Nat.reduceLT, Nat.reduceLeDiff, Nat.reduceSub, reduceCtorEq, Int.reduceToNat, ↓reduceIte]
        repeat'
          (first
           | (refine uYes ?_; first | exact List.mem_cons_self | (simp only [List.mem_cons, List.not_mem_nil, or_false, true_or, or_true]; done))
           | (refine uNo (by kernel_rfl))
           | (refine flatMk ?_; kernel_rfl)
           | (refine And.intro ?_ ?_)
           | (intro hx)
           | ((first
               | (refine callGF ?_)
               | (refine callQGF ?_)
               | (refine skipG ?_)
               | (refine callS (in_gives _ _ _ _) ?_)
               | (refine callQ (in_gives _ _ _ _) ?_)
               | (refine callG (fun hc => (in_gives _ _ _ _)) ?_)
               | (refine callQG (fun hc => (in_gives _ _ _ _)) ?_)); simp -implicitDefEqProofs only [td, tm, w1, hr2, hpos, List.length_replicate, push_cast, Nat.reduceEqDiff, Nat.reduceBEq, Nat.reduceBNe, Nat.reduceAdd, Nat.reduceMul, Nat.reduceLT, Nat.reduceLeDiff, Nat.reduceSub, reduceCtorEq, Int.reduceToNat, ↓reduceIte]))
        all_goals first
          | omega
          | (refine round_mk0 (pw + pw, o, m) ⟨by rw [hpm] at e1; simpa using e1, by simp only; omega⟩ (by simp only; omega) ⟨[], ?_⟩
             simp -implicitDefEqProofs only [Int.natCast_add, Int.cast_ofNat_Int, List.length_nil, Nat.le_refl, WeakTo, tokSts, tokOks, List.append_cancel_left_eq, exists_eq_left', exists_eq_left, List.append_cancel_left_eq, List.take_length, ObCl, and_true, true_and, push_cast, Nat.reduceEqDiff, Nat.reduceBEq, Nat.reduceBNe, Nat.reduceAdd, Nat.reduceMul, Nat.reduceLT, Nat.reduceLeDiff, Nat.reduceSub, reduceCtorEq, Int.reduceToNat, ↓reduceIte])
          | trace_state
      · try simp -implicitDefEqProofs only [td, tm, w1, hr2, hr3, hpos, List.length_replicate, push_cast, Nat.reduceEqDiff, Nat.reduceBEq, Nat.reduceBNe, Nat.reduceAdd, Nat.reduceMul, Nat.reduceLT, Nat.reduceLeDiff, Nat.reduceSub, reduceCtorEq, Int.reduceToNat, ↓reduceIte]
        repeat'
          (first
           | (refine uYes ?_; first | exact List.mem_cons_self | (simp only [List.mem_cons, List.not_mem_nil, or_false, true_or, or_true]; done))
           | (refine uNo (by kernel_rfl))
           | (refine flatMk ?_; kernel_rfl)
           | (refine And.intro ?_ ?_)
           | (intro hx)
           | ((first
               | (refine callGF ?_)
               | (refine callQGF ?_)
               | (refine skipG ?_)
               | (refine callS (in_gives _ _ _ _) ?_)
               | (refine callQ (in_gives _ _ _ _) ?_)
               | (refine callG (fun hc => (in_gives _ _ _ _)) ?_)
               | (refine callQG (fun hc => (in_gives _ _ _ _)) ?_)); simp -implicitDefEqProofs only [td, tm, w1, hr2, hr3, hpos, List.length_replicate, push_cast, Nat.reduceEqDiff, Nat.reduceBEq, Nat.reduceBNe, Nat.reduceAdd, Nat.reduceMul, Nat.reduceLT, Nat.reduceLeDiff, Nat.reduceSub, reduceCtorEq, Int.reduceToNat, ↓reduceIte]))
        all_goals first
          | omega
          | (refine round_mk0 (pw + pw, o + pw, m) ⟨by rw [hpm] at e1; simp only; omega, by simp only; omega⟩ (by simp only; omega) ⟨[], ?_⟩
             simp -implicitDefEqProofs only [Int.natCast_add, Int.cast_ofNat_Int, List.length_nil, Nat.le_refl, WeakTo, tokSts, tokOks, List.append_cancel_left_eq, exists_eq_left', exists_eq_left, List.append_cancel_left_eq, List.take_length, ObCl, and_true, true_and, push_cast, Nat.reduceEqDiff, Nat.reduceBEq, Nat.reduceBNe, Nat.reduceAdd, Nat.reduceMul, Nat.reduceLT, Nat.reduceLeDiff, Nat.reduceSub, reduceCtorEq, Int.reduceToNat, ↓reduceIte])
          | trace_state
noncomputable def recsOf (s : List UInt8) : List (List UInt8) := Classical.choose (logIs_ex s)
theorem recsOf_is (s : List UInt8) : LogIs s (recsOf s) := Classical.choose_spec (logIs_ex s)
noncomputable def addW (s r : List UInt8) : List UInt8 := (addV s (recsOf s) r).1
theorem addW_len {s r : List UInt8} (h : s.length ≤ 9000) : (addW s r).length ≤ 9000 := by
  rw [addW, addV]
  split
  · rename_i h; exact h.2
  · exact h
theorem addW_gives (s r : List UInt8) (h : Hp) (hs : s.length ≤ 9000) (hr : r.length ≤ 10000) : Gives Tryd.prog 13 [.str s, .str r] h (.tup [.str (addW s r), .bool (addV s (recsOf s) r).2]) :=
  specLogAdd_gives s r (recsOf s) h (by omega) (by omega) (recsOf_is s)
def recT : List (List UInt8) := [[], [97], [48, 58, 49, 58, 120], [97, 32, 114, 101, 99, 111, 114, 100, 44, 32, 108, 111, 110, 103, 101, 114]]
theorem recT_len (k : Nat) : (recT.getD k []).length ≤ 16 := by
  match k with
  | 0 => decide
  | 1 => decide
  | 2 => decide
  | 3 => decide
  | k + 4 => rw [List.getD_eq_getElem?_getD, List.getElem?_eq_none (by simp [recT])]; decide
noncomputable def logsW (bs : List Int) (p : Int) : Nat → List UInt8
  | 0 => []
  | i + 1 => addW (logsW bs p i) (recT.getD (pickV bs (p + i) 4).toNat [])
theorem logsW_len (bs : List Int) (p : Int) : ∀ i, (logsW bs p i).length ≤ 9000
  | 0 => Nat.zero_le _
  | i + 1 => addW_len (logsW_len bs p i)
noncomputable def logW (bs : List Int) (p : Int) : List UInt8 × Int :=
  (if pickV bs (p + 1 + (pickV bs p 7).toNat) 24 = 0 then addW (logsW bs (p + 1) (pickV bs p 7).toNat) (List.replicate 8600 116) else logsW bs (p + 1) (pickV bs p 7).toNat, p + 1 + (pickV bs p 7).toNat + 1)
theorem logW_len (bs : List Int) (p : Int) : (logW bs p).1.length ≤ 9000 := by
  rw [logW]
  dsimp only
  split
  · exact addW_len (logsW_len _ _ _)
  · exact logsW_len _ _ _
theorem l14Log_gives (bs : List Int) (p : Int) (r : Nat) (h : Hp) (hr : ob h r = .row (rdC bs p)) (hrl : r < h.length) (H : Rd bs (p + 100)) (hp0 : 0 ≤ p) :
    Meets Tryd.prog 33 [.ptr r 0] h fun d' h' => d' = .str (logW bs p).1 ∧ h' = h.set r (.row (rdC bs (logW bs p).2)) := by
  have hpl := H.hi
  have v0 := pickV_range (H.up hp0 (by omega)) 7 (by omega)
  rw [logW]
  obtain ⟨n, hn⟩ : ∃ n : Nat, pickV bs p 7 = n := ⟨(pickV bs p 7).toNat, by omega⟩
  have hP := fun g q1 q2 => pick_gives bs p 7 r g q1 q2 (H.up hp0 (by omega))
  rw [hn] at hP v0 ⊢
  rw [Int.toNat_natCast]
  have hset : ∀ x, ob (h.set r x) r = x := fun x => by simp [ob, List.getD_eq_getElem?_getD, hrl]
  have hln : ∀ x, r < (h.set r x).length := fun x => by rw [List.length_set]; exact hrl
  have hob : (h.set r (.row (rdC bs (p + 1)))).length = h.length := List.length_set ..
  refine meets_of [] mixed Tryd.func33 rfl (by kernel_rfl) (by kernel_rfl) (by rw [Tryd.ntmps33]; simp only [List.length_cons, List.length_nil]; omega) (fun hf => ?_)
  rw [Tryd.results33]
  clear hf
  have h0 : 0 ≤ lenMax := by decide
  try simp -implicitDefEqProofs only [h0, List.append_nil, push_cast, Nat.reduceEqDiff, Nat.reduceBEq, Nat.reduceBNe, Nat.reduceAdd, Nat.reduceMul, Nat.reduceLT, Nat.reduceLeDiff, Nat.reduceSub, reduceCtorEq, Int.reduceToNat, ↓reduceIte]
  repeat'
    (first
     | (refine uYes ?_; first | exact List.mem_cons_self | (simp only [List.mem_cons, List.not_mem_nil, or_false, true_or, or_true]; done))
     | (refine uNo (by kernel_rfl))
     | (refine flatMk ?_; kernel_rfl)
     | (refine And.intro ?_ ?_)
     | (intro hx)
     | ((first
         | (refine callGF ?_)
         | (refine callQGF ?_)
         | (refine skipG ?_)
         | (refine callM (dst := some 6) (hP _ hr hrl) ?_)); simp -implicitDefEqProofs only [h0, List.append_nil, push_cast, Nat.reduceEqDiff, Nat.reduceBEq, Nat.reduceBNe, Nat.reduceAdd, Nat.reduceMul, Nat.reduceLT, Nat.reduceLeDiff, Nat.reduceSub, reduceCtorEq, Int.reduceToNat, ↓reduceIte]))
  all_goals try omega
  obtain ⟨g, hg⟩ : ∃ g, h.set r (.row (rdC bs (p + 1))) = g := ⟨_, rfl⟩
  rw [hg]
  have hgr : r < g.length := by rw [← hg]; exact hln _
  have hgo : ob g r = .row (rdC bs (p + 1)) := by rw [← hg]; exact hset _
  have hsg : ∀ x, ob (g.set r x) r = x := fun x => by simp [ob, List.getD_eq_getElem?_getD, hgr]
  have hlg : ∀ x, r < (g.set r x).length := fun x => by rw [List.length_set]; exact hgr
  refine ev_loopS r (fun i : Nat => [(0, .ptr r 0), (3, .str (logsW bs (p + 1) i)), (4, .int .i64 ((n : Int) - i))]) (fun i => rdC bs (p + 1 + i)) (fun i => i ≤ n) (fun i => n - i) 0 (Nat.zero_le _) hgr (by rw [hgo]; simp) (rdC_cl _ _ _) ?_ ?_
  · simp -implicitDefEqProofs only [SlotsOk, List.length_set, Int.natCast_add, Int.cast_ofNat_Int, List.length_nil, Nat.le_refl, WeakTo, tokSts, tokOks, List.append_cancel_left_eq, exists_eq_left', exists_eq_left, List.append_cancel_left_eq, List.take_length, ObCl, and_true, true_and, push_cast, Nat.reduceEqDiff, Nat.reduceBEq, Nat.reduceBNe, Nat.reduceAdd, Nat.reduceMul, Nat.reduceLT, Nat.reduceLeDiff, Nat.reduceSub, reduceCtorEq, Int.reduceToNat, ↓reduceIte]
    exact ⟨hgr, rfl, by omega⟩
  · intro i hi
    have hw : IntKind.i64.wrap ((n : Int) - i - 1) = n - (i + 1) := by rw [wrap_id (by omega) (by omega)]; omega
    have hO := fun g q1 q2 => of_gives bs (p + 1 + i) recT .full r g q1 q2 (H.up (by omega) (by omega)) (by decide)
    have hL := addW_gives (logsW bs (p + 1) i) (recT.getD (pickV bs (p + 1 + i) 4).toNat [])
    by_cases hlt : i < n
    · have hnx : logsW bs (p + 1) (i + 1) = addW (logsW bs (p + 1) i) (recT.getD (pickV bs (p + 1 + i) 4).toNat []) := rfl
      have hc : (0 : Int) < n - i := by omega
      have h1 : 1 ≤ lenMax := by decide
      have h5 : 5 ≤ lenMax := by decide
      have h16 : 16 ≤ lenMax := by decide
      have hrT : [D.str [], D.str [97], D.str [48, 58, 49, 58, 120], D.str [97, 32, 114, 101, 99, 111, 114, 100, 44, 32, 108, 111, 110, 103, 101, 114]] = recT.map .str := rfl
      have hrl4 : (recT.map D.str).length = 4 := rfl
      try simp -implicitDefEqProofs only [h0, h1, h5, h16, hrT, hrl4, hw, hc, List.set_set, List.length_set, push_cast, Nat.reduceEqDiff, Nat.reduceBEq, Nat.reduceBNe, Nat.reduceAdd, Nat.reduceMul, Nat.reduceLT, Nat.reduceLeDiff, Nat.reduceSub, reduceCtorEq, Int.reduceToNat, ↓reduceIte]
      repeat'
        (first
         | (refine uYes ?_; first | exact List.mem_cons_self | (simp only [List.mem_cons, List.not_mem_nil, or_false, true_or, or_true]; done))
         | (refine uNo (by kernel_rfl))
         | (refine flatMk ?_; kernel_rfl)
         | (refine And.intro ?_ ?_)
         | (intro hx)
         | ((first
             | (refine callGF ?_)
             | (refine callQGF ?_)
             | (refine skipG ?_)
             | (refine callM (dst := some 15) (hO _ (hsg _) (hlg _)) ?_)
             | (refine callS (hL _ (logsW_len _ _ _) (by have := recT_len (pickV bs (p + 1 + i) 4).toNat; omega)) ?_)
             | (refine callQ (hL _ (logsW_len _ _ _) (by have := recT_len (pickV bs (p + 1 + i) 4).toNat; omega)) ?_)
             | (refine callG (fun hc => (hL _ (logsW_len _ _ _) (by have := recT_len (pickV bs (p + 1 + i) 4).toNat; omega))) ?_)
             | (refine callQG (fun hc => (hL _ (logsW_len _ _ _) (by have := recT_len (pickV bs (p + 1 + i) 4).toNat; omega))) ?_)); simp -implicitDefEqProofs only [h0, h1, h5, h16, hrT, hrl4, hw, hc, List.set_set, List.length_set, push_cast, Nat.reduceEqDiff, Nat.reduceBEq, Nat.reduceBNe, Nat.reduceAdd, Nat.reduceMul, Nat.reduceLT, Nat.reduceLeDiff, Nat.reduceSub, reduceCtorEq, Int.reduceToNat, ↓reduceIte]))
      all_goals first
        | omega
        | (obtain ⟨x, _, rfl⟩ := List.mem_map.1 hx; trivial)
        | (obtain ⟨x, _, rfl⟩ := List.mem_map.1 hx; exact .str _)
        | skip
      refine round_mkS (i + 1) (by omega) (by omega) ?_ (rdC_cl _ _ _) ?_
      · simp only [List.set_set]
        rw [show p + 1 + ((i + 1 : Nat) : Int) = p + 1 + i + 1 by omega]
      · simp -implicitDefEqProofs only [SlotsOk, List.length_set, hnx, Int.natCast_add, Int.cast_ofNat_Int, List.length_nil, Nat.le_refl, WeakTo, tokSts, tokOks, List.append_cancel_left_eq, exists_eq_left', exists_eq_left, List.append_cancel_left_eq, List.take_length, ObCl, and_true, true_and, push_cast, Nat.reduceEqDiff, Nat.reduceBEq, Nat.reduceBNe, Nat.reduceAdd, Nat.reduceMul, Nat.reduceLT, Nat.reduceLeDiff, Nat.reduceSub, reduceCtorEq, Int.reduceToNat, ↓reduceIte]
        exact hgr
    · obtain rfl : i = n := by omega
      have hc : ¬ (0 : Int) < i - i := by omega
      have h1 : 1 ≤ lenMax := by decide
      have hP2 := fun g q1 q2 => pick_gives bs (p + 1 + i) 24 r g q1 q2 (H.up (by omega) (by omega))
      have hM := many_gives 116 8600
      have hR9 : (List.replicate 8600 (116 : UInt8)).length ≤ 10000 := by rw [List.length_replicate]; decide
      have hL := addW_gives (logsW bs (p + 1) i) (List.replicate 8600 116)
      by_cases hz : pickV bs (p + 1 + i) 24 = 0
      · rw [if_pos hz]
        rw [hz] at hP2
        try simp -implicitDefEqProofs only [h0, h1, hc, List.set_set, List.length_set, push_cast, Nat.reduceEqDiff, Nat.reduceBEq, Nat.reduceBNe, Nat.reduceAdd, Nat.reduceMul, Nat.reduceLT, Nat.reduceLeDiff, Nat.reduceSub, reduceCtorEq, Int.reduceToNat, ↓reduceIte]
        repeat'
          (first
           | (refine uYes ?_; first | exact List.mem_cons_self | (simp only [List.mem_cons, List.not_mem_nil, or_false, true_or, or_true]; done))
           | (refine uNo (by kernel_rfl))
           | (refine flatMk ?_; kernel_rfl)
           | (refine And.intro ?_ ?_)
           | (intro hx)
           | ((first
               | (refine callGF ?_)
               | (refine callQGF ?_)
               | (refine skipG ?_)
               | (refine callM (dst := some 20) (hP2 _ (hsg _) (hlg _)) ?_)
               | (refine callS (hM _ (by omega)) ?_)
               | (refine callQ (hM _ (by omega)) ?_)
               | (refine callG (fun hc => (hM _ (by omega))) ?_)
               | (refine callQG (fun hc => (hM _ (by omega))) ?_)
               | (refine callS (hL _ (logsW_len _ _ _) hR9) ?_)
               | (refine callQ (hL _ (logsW_len _ _ _) hR9) ?_)
               | (refine callG (fun hc => (hL _ (logsW_len _ _ _) hR9)) ?_)
               | (refine callQG (fun hc => (hL _ (logsW_len _ _ _) hR9)) ?_)); simp -implicitDefEqProofs only [h0, h1, hc, List.set_set, List.length_set, push_cast, Nat.reduceEqDiff, Nat.reduceBEq, Nat.reduceBNe, Nat.reduceAdd, Nat.reduceMul, Nat.reduceLT, Nat.reduceLeDiff, Nat.reduceSub, reduceCtorEq, Int.reduceToNat, ↓reduceIte]))
        all_goals first
          | omega
          | exact ⟨rfl, rfl⟩
          | (rw [← hg, List.set_set]; exact back_set rfl hrl (rdC_cl _ _ _))
          | trace_state
      · rw [if_neg hz]
        try simp -implicitDefEqProofs only [h0, h1, hc, hz, List.set_set, List.length_set, push_cast, Nat.reduceEqDiff, Nat.reduceBEq, Nat.reduceBNe, Nat.reduceAdd, Nat.reduceMul, Nat.reduceLT, Nat.reduceLeDiff, Nat.reduceSub, reduceCtorEq, Int.reduceToNat, ↓reduceIte]
        repeat'
          (first
           | (refine uYes ?_; first | exact List.mem_cons_self | (simp only [List.mem_cons, List.not_mem_nil, or_false, true_or, or_true]; done))
           | (refine uNo (by kernel_rfl))
           | (refine flatMk ?_; kernel_rfl)
           | (refine And.intro ?_ ?_)
           | (intro hx)
           | ((first
               | (refine callGF ?_)
               | (refine callQGF ?_)
               | (refine skipG ?_)
               | (refine callM (dst := some 20) (hP2 _ (hsg _) (hlg _)) ?_)); simp -implicitDefEqProofs only [h0, h1, hc, hz, List.set_set, List.length_set, push_cast, Nat.reduceEqDiff, Nat.reduceBEq, Nat.reduceBNe, Nat.reduceAdd, Nat.reduceMul, Nat.reduceLT, Nat.reduceLeDiff, Nat.reduceSub, reduceCtorEq, Int.reduceToNat, ↓reduceIte]))
        all_goals first
          | omega
          | exact ⟨rfl, rfl⟩
          | (rw [← hg, List.set_set]; exact back_set rfl hrl (rdC_cl _ _ _))
          | trace_state
end Go.Proofs.YtcmpcpigchlhpaaDoor

/- Logs are drawn: cut, or with a turned byte. -/
namespace Go.Proofs.YtcmpcpigchlhpaaDoor
set_option linter.unusedSectionVars false
open Go.Av
variable [Av.Start] [TabSha] [TabBits] [TabPow] [TabErr] [TabMax]
set_option maxRecDepth 10000
set_option maxHeartbeats 2000000
set_option linter.unusedSimpArgs false
set_option linter.unusedVariables false

/-- a text with another byte at a place -/
def chgV (s : List UInt8) (k : Nat) (x : Int) : List UInt8 := ((byD s).take k ++ D.int .u8 x :: (byD s).drop (k + 1)).map Go.Av.byteOf
theorem chgV_len (s : List UInt8) (x : Int) {k : Nat} (hk : k < s.length) : (chgV s k x).length = s.length := by
  rw [chgV, List.length_map, List.length_append, List.length_cons, List.length_take, List.length_drop, byD_len]
  omega
noncomputable def anyW (bs : List Int) (p : Int) : List UInt8 × Int :=
  if pickV bs (logW bs p).2 5 = 0 then ((logW bs p).1.take (pickV bs ((logW bs p).2 + 1) ((logW bs p).1.length + 1)).toNat, (logW bs p).2 + 1 + 1)
  else if pickV bs (logW bs p).2 5 = 1 ∧ 0 < (logW bs p).1.length then
    (chgV (logW bs p).1 (pickV bs ((logW bs p).2 + 1) (logW bs p).1.length).toNat
      (bitI .xor .u8 (((logW bs p).1.getD (pickV bs ((logW bs p).2 + 1) (logW bs p).1.length).toNat 0).toNat : Int) (1 + pickV bs ((logW bs p).2 + 1 + 1) 100)), (logW bs p).2 + 1 + 1 + 1)
  else ((logW bs p).1, (logW bs p).2 + 1)
theorem logW_pos {bs : List Int} {p : Int} (H : Rd bs p) (hp0 : 0 ≤ p) : p ≤ (logW bs p).2 ∧ (logW bs p).2 ≤ p + 8 := by
  have := pickV_range H 7 (by omega)
  simp only [logW]
  omega
theorem anyW_is {bs : List Int} {p : Int} (H : Rd bs (p + 100)) (hp0 : 0 ≤ p) : (anyW bs p).1.length ≤ 9000 ∧ p ≤ (anyW bs p).2 ∧ (anyW bs p).2 ≤ p + 11 := by
  have hpl := H.hi
  have hl := logW_len bs p
  have hq := logW_pos (H.up hp0 (by omega)) hp0
  rw [anyW]
  generalize logW bs p = L at hl hq
  obtain ⟨s, q⟩ := L
  simp only at hl hq ⊢
  split
  · refine ⟨?_, by omega, by omega⟩
    rw [List.length_take]
    omega
  · split
    · rename_i h1 h2
      have v := pickV_range (bs := bs) (p := q + 1) (H.up (by omega) (by omega)) s.length (by omega)
      refine ⟨?_, by omega, by omega⟩
      rw [chgV_len _ _ (by omega)]
      exact hl
    · exact ⟨hl, by omega, by omega⟩
theorem l14AnyLog_gives (bs : List Int) (p : Int) (r : Nat) (h : Hp) (hr : ob h r = .row (rdC bs p)) (hrl : r < h.length) (H : Rd bs (p + 100)) (hp0 : 0 ≤ p) :
    Meets Tryd.prog 19 [.ptr r 0] h fun d' h' => d' = .str (anyW bs p).1 ∧ h' = h.set r (.row (rdC bs (anyW bs p).2)) := by
  have hpl := H.hi
  have hl := logW_len bs p
  have hq := logW_pos (H.up hp0 (by omega)) hp0
  have hG := fun g q1 q2 => l14Log_gives bs p r g q1 q2 H hp0
  rw [anyW]
  generalize logW bs p = L at hl hq hG
  obtain ⟨s, q⟩ := L
  simp only at hl hq hG ⊢
  obtain ⟨r1, r2, r3, r4, r5, r6, r7, r8, r9⟩ := rdf hrl
  have hln : ∀ x, r < (h.set r x).length := fun x => by rw [List.length_set]; exact hrl
  have v5 := pickV_range (bs := bs) (p := q) (H.up (by omega) (by omega)) 5 (by omega)
  have h9 : 9000 ≤ lenMax := by decide
  have hsl : s.length ≤ lenMax := by omega
  by_cases c0 : pickV bs q 5 = 0
  · simp only [c0, if_true]
    have v6 := pickV_range (bs := bs) (p := q + 1) (H.up (by omega) (by omega)) (s.length + 1) (by omega)
    have w1 : IntKind.i64.wrap ((s.length : Int) + 1) = s.length + 1 := wrap_id (by omega) (by omega)
    have hP5 := fun g q1 q2 => pick_gives bs q 5 r g q1 q2 (H.up (by omega) (by omega))
    have hP6 := fun g q1 q2 => pick_gives bs (q + 1) (s.length + 1) r g q1 q2 (H.up (by omega) (by omega))
    rw [c0] at hP5
    refine meets_of [] mixed Tryd.func19 rfl (by kernel_rfl) (by kernel_rfl) (by rw [Tryd.ntmps19]; simp only [List.length_cons, List.length_nil]; omega) (fun hf => ?_)
    rw [Tryd.results19]
    clear hf
    try simp -implicitDefEqProofs only [w1, List.set_set, List.append_nil, push_cast, Nat.reduceEqDiff, Nat.reduceBEq, Nat.reduceBNe, Nat.reduceAdd, Nat.reduceMul, Nat.reduceLT, Nat.reduceLeDiff, Nat.reduceSub, reduceCtorEq, Int.reduceToNat, ↓reduceIte]
    repeat'
      (first
       | (refine uYes ?_; first | exact List.mem_cons_self | (simp only [List.mem_cons, List.not_mem_nil, or_false, true_or, or_true]; done))
       | (refine uNo (by kernel_rfl))
       | (refine flatMk ?_; kernel_rfl)
       | (refine And.intro ?_ ?_)
       | (intro hx)
       | ((first
           | (refine callGF ?_)
           | (refine callQGF ?_)
           | (refine skipG ?_)
           | (refine callM (hG _ hr hrl) ?_)
           | (refine callM (dst := some 9) (hP5 _ (r9 _) (hln _)) ?_)
           | (refine callM (dst := some 17) (hP6 _ (r9 _) (hln _)) ?_)); simp -implicitDefEqProofs only [w1, List.set_set, List.append_nil, push_cast, Nat.reduceEqDiff, Nat.reduceBEq, Nat.reduceBNe, Nat.reduceAdd, Nat.reduceMul, Nat.reduceLT, Nat.reduceLeDiff, Nat.reduceSub, reduceCtorEq, Int.reduceToNat, ↓reduceIte]))
    all_goals first
      | omega
      | exact ⟨rfl, rfl⟩
      | exact back_set rfl hrl (rdC_cl _ _ _)
      | trace_state
  · simp only [c0, if_false]
    by_cases c1 : pickV bs q 5 = 1 ∧ 0 < s.length
    · rw [if_pos c1]
      obtain ⟨c1, c2⟩ := c1
      have v6 := pickV_range (bs := bs) (p := q + 1) (H.up (by omega) (by omega)) s.length (by omega)
      have v7 := pickV_range (bs := bs) (p := q + 1 + 1) (H.up (by omega) (by omega)) 100 (by omega)
      obtain ⟨k, hk⟩ : ∃ k : Nat, pickV bs (q + 1) s.length = k := ⟨(pickV bs (q + 1) s.length).toNat, by omega⟩
      obtain ⟨x, hx⟩ : ∃ x, pickV bs (q + 1 + 1) 100 = x := ⟨_, rfl⟩
      have hP5 := fun g q1 q2 => pick_gives bs q 5 r g q1 q2 (H.up (by omega) (by omega))
      have hP6 := fun g q1 q2 => pick_gives bs (q + 1) s.length r g q1 q2 (H.up (by omega) (by omega))
      have hP7 := fun g q1 q2 => pick_gives bs (q + 1 + 1) 100 r g q1 q2 (H.up (by omega) (by omega))
      rw [hk] at hP6 v6 ⊢
      rw [hx] at hP7 v7 ⊢
      rw [c1] at hP5
      rw [Int.toNat_natCast]
      have hb : (s.map fun b => D.int .u8 (b.toNat : Int)) = byD s := rfl
      have hbl := byD_len s
      have w1 : IntKind.i64.wrap (1 + x) = 1 + x := wrap_id (by omega) (by omega)
      have w2 : IntKind.u8.wrap (1 + x) = 1 + x := by show (1 + x) % 256 = _; omega
      have hks : k < s.length := by omega
      have hgk : ((byD s).drop k).headD .junk = .int .u8 ((s.getD k 0).toNat : Int) := by
        rw [byD, ← List.map_drop, List.drop_eq_getElem_cons hks, List.getD_eq_getElem?_getD, List.getElem?_eq_getElem hks]
        rfl
      have hcl : ∀ (y : Int) (m : Nat) d, d ∈ (byD s).take k ++ D.int .u8 y :: (byD s).drop (k + 1) → Cl m d := fun y m d hd => by
        rcases List.mem_append.1 hd with hd | hd
        · obtain ⟨b, _, rfl⟩ := List.mem_map.1 (List.mem_of_mem_take hd); exact .int _ _
        · rcases List.mem_cons.1 hd with rfl | hd
          · exact .int _ _
          · obtain ⟨b, _, rfl⟩ := List.mem_map.1 (List.mem_of_mem_drop hd); exact .int _ _
      have hlr : ∀ y : Int, ((byD s).take k ++ D.int .u8 y :: (byD s).drop (k + 1)).length = s.length := fun y => by
        rw [List.length_append, List.length_cons, List.length_take, List.length_drop, hbl]; omega
      have hlh : ∀ x ls, r < (h.set r x ++ ls).length := fun x ls => by rw [List.length_append, List.length_set]; omega
      refine meets_of [25, 4000025] mixed Tryd.func19 rfl (by kernel_rfl) (by kernel_rfl) (by rw [Tryd.ntmps19]; simp only [List.length_cons, List.length_nil]; omega) (fun hf => ?_)
      rw [Tryd.results19]
      clear hf
      try simp -implicitDefEqProofs only [w1, w2, hb, hbl, hgk, hlr, r1, r2, r5, r6, r7, r8, List.set_set, List.append_nil, List.length_set, push_cast, Nat.reduceEqDiff, Nat.reduceBEq, Nat.reduceBNe, Nat.reduceAdd, Nat.reduceMul, Nat.reduceLT, Nat.reduceLeDiff, Nat.reduceSub, reduceCtorEq, Int.reduceToNat, ↓reduceIte]
      repeat'
        (first
         | (refine uYes ?_; first | exact List.mem_cons_self | (simp only [List.mem_cons, List.not_mem_nil, or_false, true_or, or_true]; done))
         | (refine uNo (by kernel_rfl))
         | (refine flatMk ?_; kernel_rfl)
         | (refine And.intro ?_ ?_)
         | (intro hx)
         | ((first
             | (refine callGF ?_)
             | (refine callQGF ?_)
             | (refine skipG ?_)
             | (refine callM (hG _ hr hrl) ?_)
             | (refine callM (dst := some 9) (hP5 _ (r9 _) (hln _)) ?_)
             | (refine callM (dst := some 29) (hP6 _ (r3 _ _) (hlh _ _)) ?_)
             | (refine inX_mk [r] (by kernel_rfl) (by simp; omega) ?_)
             | (refine callXR (r := r) (by simp) (hlh _ _) (fun h' hr' hl' => hP7 h' (hr'.trans (r3 _ _)) hl') ?_)); simp -implicitDefEqProofs only [w1, w2, hb, hbl, hgk, hlr, r1, r2, r5, r6, r7, r8, List.set_set, List.append_nil, List.length_set, push_cast, Nat.reduceEqDiff, Nat.reduceBEq, Nat.reduceBNe, Nat.reduceAdd, Nat.reduceMul, Nat.reduceLT, Nat.reduceLeDiff, Nat.reduceSub, reduceCtorEq, Int.reduceToNat, ↓reduceIte]))
      all_goals first
        | omega
        | exact ⟨rfl, rfl⟩
        | exact back_set rfl hrl (rdC_cl _ _ _)
        | (rw [List.take_of_length_le (by rw [hlr]; exact Nat.le_refl _)]; rfl)
        | exact back_rd hrl _ _ _
        | (have hd := List.mem_of_mem_take hx
           rcases List.mem_append.1 hd with hd | hd
           · obtain ⟨b, _, rfl⟩ := List.mem_map.1 (List.mem_of_mem_take hd); trivial
           · rcases List.mem_cons.1 hd with rfl | hd
             · trivial
             · obtain ⟨b, _, rfl⟩ := List.mem_map.1 (List.mem_of_mem_drop hd); trivial)
        | trace_state
    · rw [if_neg c1]
      have hP5 := fun g q1 q2 => pick_gives bs q 5 r g q1 q2 (H.up (by omega) (by omega))
      have h0 : 0 ≤ lenMax := by decide
      by_cases c3 : pickV bs q 5 = 1
      · have c4 : s = [] := by
          rcases s with _ | ⟨a, t⟩
          · rfl
          · exact absurd ⟨c3, by simp⟩ c1
        subst c4
        rw [c3] at hP5
        refine meets_of [] mixed Tryd.func19 rfl (by kernel_rfl) (by kernel_rfl) (by rw [Tryd.ntmps19]; simp only [List.length_cons, List.length_nil]; omega) (fun hf => ?_)
        rw [Tryd.results19]
        clear hf
        try simp -implicitDefEqProofs only [h0, List.set_set, List.append_nil, push_cast, Nat.reduceEqDiff, Nat.reduceBEq, Nat.reduceBNe, Nat.reduceAdd, Nat.reduceMul, Nat.reduceLT, Nat.reduceLeDiff, Nat.reduceSub, reduceCtorEq, Int.reduceToNat, ↓reduceIte]
        repeat'
          (first
           | (refine uYes ?_; first | exact List.mem_cons_self | (simp only [List.mem_cons, List.not_mem_nil, or_false, true_or, or_true]; done))
           | (refine uNo (by kernel_rfl))
           | (refine flatMk ?_; kernel_rfl)
           | (refine And.intro ?_ ?_)
           | (intro hx)
           | ((first
               | (refine callGF ?_)
               | (refine callQGF ?_)
               | (refine skipG ?_)
               | (refine callM (hG _ hr hrl) ?_)
               | (refine callM (dst := some 9) (hP5 _ (r9 _) (hln _)) ?_)); simp -implicitDefEqProofs only [h0, List.set_set, List.append_nil, push_cast, Nat.reduceEqDiff, Nat.reduceBEq, Nat.reduceBNe, Nat.reduceAdd, Nat.reduceMul, Nat.reduceLT, Nat.reduceLeDiff, Nat.reduceSub, reduceCtorEq, Int.reduceToNat, ↓reduceIte]))
        all_goals first
          | omega
          | exact ⟨rfl, rfl⟩
          | exact back_set rfl hrl (rdC_cl _ _ _)
          | trace_state
      · refine meets_of [] mixed Tryd.func19 rfl (by kernel_rfl) (by kernel_rfl) (by rw [Tryd.ntmps19]; simp only [List.length_cons, List.length_nil]; omega) (fun hf => ?_)
        rw [Tryd.results19]
        clear hf
        try simp -implicitDefEqProofs only [c0, c3, List.set_set, List.append_nil, push_cast, Nat.reduceEqDiff, Nat.reduceBEq, Nat.reduceBNe, Nat.reduceAdd, Nat.reduceMul, Nat.reduceLT, Nat.reduceLeDiff, Nat.reduceSub, reduceCtorEq, Int.reduceToNat, ↓reduceIte]
        repeat'
          (first
           | (refine uYes ?_; first | exact List.mem_cons_self | (simp only [List.mem_cons, List.not_mem_nil, or_false, true_or, or_true]; done))
           | (refine uNo (by kernel_rfl))
           | (refine flatMk ?_; kernel_rfl)
           | (refine And.intro ?_ ?_)
           | (intro hx)
           | ((first
               | (refine callGF ?_)
               | (refine callQGF ?_)
               | (refine skipG ?_)
               | (refine callM (hG _ hr hrl) ?_)
               | (refine callM (dst := some 9) (hP5 _ (r9 _) (hln _)) ?_)); simp -implicitDefEqProofs only [c0, c3, List.set_set, List.append_nil, push_cast, Nat.reduceEqDiff, Nat.reduceBEq, Nat.reduceBNe, Nat.reduceAdd, Nat.reduceMul, Nat.reduceLT, Nat.reduceLeDiff, Nat.reduceSub, reduceCtorEq, Int.reduceToNat, ↓reduceIte]))
        all_goals first
          | omega
          | exact ⟨rfl, rfl⟩
          | exact back_set rfl hrl (rdC_cl _ _ _)
          | trace_state
end Go.Proofs.YtcmpcpigchlhpaaDoor

/- Logs are drawn: the laws' arguments. -/
namespace Go.Proofs.YtcmpcpigchlhpaaDoor
set_option linter.unusedSectionVars false
open Go.Av
variable [Av.Start] [TabSha] [TabBits] [TabPow] [TabErr] [TabMax]
set_option maxRecDepth 10000
set_option maxHeartbeats 2000000
set_option linter.unusedSimpArgs false
set_option linter.unusedVariables false

theorem drawLogRead_gives (bs : List Int) (hb : ∀ x, x ∈ bs → 0 ≤ x ∧ x ≤ 255) : ∃ s : List UInt8, s.length ≤ 9000 ∧ ∀ h, Gives Tryd.prog 6 [.slice (bs.map (.int .u8)) .no] h (.str s) := by
  have hR := fun p h0 h1 => rd_take hb p h0 h1
  have hA := anyW_is (bs := bs.take 2000) (p := 0) (hR _ (by omega) (by omega)) (by omega)
  refine ⟨(anyW (bs.take 2000) 0).1, hA.1, fun h => ?_⟩
  have hG := fun (r : Nat) g q1 q2 => l14AnyLog_gives (bs.take 2000) 0 r g q1 q2 (hR _ (by omega) (by omega)) (by omega)
  have hO := l1Open_gives bs
  generalize bs.take 2000 = cs at hR hA hG hO
  generalize anyW cs 0 = s at hA hG
  obtain ⟨s, u⟩ := s
  simp only at hA hG ⊢
  refine meets_of [] mixed Tryd.func6 rfl (by kernel_rfl) (by kernel_rfl) (by rw [Tryd.ntmps6]; simp only [List.length_cons, List.length_nil]; omega) (fun hf => ?_)
  rw [Tryd.results6]
  clear hf
  try simp -implicitDefEqProofs only [push_cast, Nat.reduceEqDiff, Nat.reduceBEq, Nat.reduceBNe, Nat.reduceAdd, Nat.reduceMul, Nat.reduceLT, Nat.reduceLeDiff, Nat.reduceSub, reduceCtorEq, Int.reduceToNat, ↓reduceIte]
  repeat'
    (first
     | (refine uYes ?_; first | exact List.mem_cons_self | (simp only [List.mem_cons, List.not_mem_nil, or_false, true_or, or_true]; done))
     | (refine uNo (by kernel_rfl))
     | (refine flatMk ?_; kernel_rfl)
     | (refine And.intro ?_ ?_)
     | (intro hx)
     | ((first
         | (refine callGF ?_)
         | (refine callQGF ?_)
         | (refine skipG ?_)
         | (refine callM (hO _) ?_)
         | (refine callM (dst := some 5) (hG _ _ (ob_app0 _ _) (by simp)) ?_)); simp -implicitDefEqProofs only [push_cast, Nat.reduceEqDiff, Nat.reduceBEq, Nat.reduceBNe, Nat.reduceAdd, Nat.reduceMul, Nat.reduceLT, Nat.reduceLeDiff, Nat.reduceSub, reduceCtorEq, Int.reduceToNat, ↓reduceIte]))
  all_goals first
    | omega
    | rfl
    | trace_state
def recA : List (List UInt8) := [[], [98], [49, 58, 50, 58, 120, 120], List.replicate 400 116]
theorem recA_len (k : Nat) : (recA.getD k []).length ≤ 400 := by
  match k with
  | 0 => decide
  | 1 => decide
  | 2 => decide
  | 3 =>
    show (List.replicate 400 (116 : UInt8)).length ≤ 400
    rw [List.length_replicate]
    exact Nat.le_refl _
  | k + 4 => rw [List.getD_eq_getElem?_getD, List.getElem?_eq_none (by simp [recA])]; decide
theorem drawLogAdd_gives (bs : List Int) (hb : ∀ x, x ∈ bs → 0 ≤ x ∧ x ≤ 255) : ∃ s r : List UInt8, s.length ≤ 9000 ∧ r.length ≤ 400 ∧ ∀ h, Gives Tryd.prog 11 [.slice (bs.map (.int .u8)) .no] h (.tup [.str s, .str r]) := by
  have hR := fun p h0 h1 => rd_take hb p h0 h1
  have hA := anyW_is (bs := bs.take 2000) (p := 0) (hR _ (by omega) (by omega)) (by omega)
  refine ⟨(anyW (bs.take 2000) 0).1, recA.getD (pickV (bs.take 2000) (anyW (bs.take 2000) 0).2 4).toNat [], hA.1, recA_len _, fun h => ?_⟩
  have hG := fun (r : Nat) g q1 q2 => l14AnyLog_gives (bs.take 2000) 0 r g q1 q2 (hR _ (by omega) (by omega)) (by omega)
  have hO := l1Open_gives bs
  generalize bs.take 2000 = cs at hR hA hG hO
  generalize anyW cs 0 = s at hA hG
  obtain ⟨s, u⟩ := s
  simp only at hA hG ⊢
  have hM := many_gives 116 400
  have h1 : 1 ≤ lenMax := by decide
  have h6 : 6 ≤ lenMax := by decide
  have h0 : 0 ≤ lenMax := by decide
  have hrA : [D.str [], D.str [98], D.str [49, 58, 50, 58, 120, 120], D.str (List.replicate 400 116)] = recA.map .str := rfl
  have hrl : (recA.map D.str).length = 4 := rfl
  refine meets_of [] mixed Tryd.func11 rfl (by kernel_rfl) (by kernel_rfl) (by rw [Tryd.ntmps11]; simp only [List.length_cons, List.length_nil]; omega) (fun hf => ?_)
  rw [Tryd.results11]
  clear hf
  try simp -implicitDefEqProofs only [h0, h1, h6, hrA, hrl, push_cast, Nat.reduceEqDiff, Nat.reduceBEq, Nat.reduceBNe, Nat.reduceAdd, Nat.reduceMul, Nat.reduceLT, Nat.reduceLeDiff, Nat.reduceSub, reduceCtorEq, Int.reduceToNat, ↓reduceIte]
  repeat'
    (first
     | (refine uYes ?_; first | exact List.mem_cons_self | (simp only [List.mem_cons, List.not_mem_nil, or_false, true_or, or_true]; done))
     | (refine uNo (by kernel_rfl))
     | (refine flatMk ?_; kernel_rfl)
     | (refine And.intro ?_ ?_)
     | (intro hx)
     | ((first
         | (refine callGF ?_)
         | (refine callQGF ?_)
         | (refine skipG ?_)
         | (refine callM (hO _) ?_)
         | (refine callM (dst := some 8) (hG _ _ (ob_app0 _ _) (by simp)) ?_)
         | (refine callS (hM _ (by omega)) ?_)
         | (refine callQ (hM _ (by omega)) ?_)
         | (refine callG (fun hc => (hM _ (by omega))) ?_)
         | (refine callQG (fun hc => (hM _ (by omega))) ?_)
         | (refine callM (dst := some 12) (of_gives cs _ recA .full _ _ (ob_app0 _ _) (by simp) (hR _ (by omega) (by omega)) (by decide)) ?_)); simp -implicitDefEqProofs only [h0, h1, h6, hrA, hrl, push_cast, Nat.reduceEqDiff, Nat.reduceBEq, Nat.reduceBNe, Nat.reduceAdd, Nat.reduceMul, Nat.reduceLT, Nat.reduceLeDiff, Nat.reduceSub, reduceCtorEq, Int.reduceToNat, ↓reduceIte]))
  all_goals first
    | omega
    | rfl
    | (obtain ⟨x, _, rfl⟩ := List.mem_map.1 hx; trivial)
    | (obtain ⟨x, _, rfl⟩ := List.mem_map.1 hx; exact .str _)
    | trace_state
def recB : List (List UInt8) := [[], [98], [97, 32, 114, 101, 99, 111, 114, 100]]
theorem recB_len (k : Nat) : (recB.getD k []).length ≤ 400 := by
  match k with
  | 0 => decide
  | 1 => decide
  | 2 => decide
  | k + 3 => rw [List.getD_eq_getElem?_getD, List.getElem?_eq_none (by simp [recB])]; decide
theorem drawLogTorn_gives (bs : List Int) (hb : ∀ x, x ∈ bs → 0 ≤ x ∧ x ≤ 255) : ∃ (s r : List UInt8) (b : Int), s.length ≤ 9000 ∧ r.length ≤ 400 ∧ -1 ≤ b ∧ b ≤ 1000 ∧ ∀ h, Gives Tryd.prog 16 [.slice (bs.map (.int .u8)) .no] h (.tup [.str s, .str r, .int .i64 b]) := by
  have hR := fun p h0 h1 => rd_take hb p h0 h1
  have hA := anyW_is (bs := bs.take 2000) (p := 0) (hR _ (by omega) (by omega)) (by omega)
  have hG := fun (r : Nat) g q1 q2 => l14AnyLog_gives (bs.take 2000) 0 r g q1 q2 (hR _ (by omega) (by omega)) (by omega)
  have hO := l1Open_gives bs
  generalize bs.take 2000 = cs at hR hA hG hO
  generalize anyW cs 0 = s at hA hG
  obtain ⟨s, u⟩ := s
  simp only at hA hG
  have v1 := pickV_range (hR (u + 1) (by omega) (by omega)) 40 (by omega)
  have v2 := pickV_range (hR (u + 1 + 1) (by omega) (by omega)) 4 (by omega)
  obtain ⟨b1, hb1⟩ : ∃ b1, pickV cs (u + 1) 40 = b1 := ⟨_, rfl⟩
  obtain ⟨b2, hb2⟩ : ∃ b2, pickV cs (u + 1 + 1) 4 = b2 := ⟨_, rfl⟩
  rw [hb1] at v1
  rw [hb2] at v2
  have h1 : 1 ≤ lenMax := by decide
  have h8 : 8 ≤ lenMax := by decide
  have h0 : 0 ≤ lenMax := by decide
  have hrB : [D.str [], D.str [98], D.str [97, 32, 114, 101, 99, 111, 114, 100]] = recB.map .str := rfl
  have hrl : (recB.map D.str).length = 3 := rfl
  have key : ∀ (k : Nat) (b : Int), b2 = k → k < 4 → b = [b1, 0, -1, 1000].getD k 0 → ∀ h, Gives Tryd.prog 16 [.slice (bs.map (.int .u8)) .no] h (.tup [.str s, .str (recB.getD (pickV cs u 3).toNat []), .int .i64 b]) := by
    intro k b hk hk4 hbk h
    have hP1 := fun g q1 q2 => pick_gives cs (u + 1) 40 h.length g q1 q2 (hR _ (by omega) (by omega))
    have hP2 := fun g q1 q2 => pick_gives cs (u + 1 + 1) 4 h.length g q1 q2 (hR _ (by omega) (by omega))
    have hOf := fun g q1 q2 => of_gives cs u recB .full h.length g q1 q2 (hR _ (by omega) (by omega)) (by decide)
    have hG := hG h.length
    rw [hb1] at hP1
    rw [hb2, hk] at hP2
    have hcs : k = 0 ∨ k = 1 ∨ k = 2 ∨ k = 3 := by omega
    rcases hcs with rfl | rfl | rfl | rfl <;> subst hbk
    all_goals
      refine meets_of [1000002] mixed Tryd.func16 rfl (by kernel_rfl) (by kernel_rfl) (by rw [Tryd.ntmps16]; simp only [List.length_cons, List.length_nil]; omega) (fun hf => ?_)
      rw [Tryd.results16]
      clear hf
      try simp -implicitDefEqProofs only [h0, h1, h8, hrB, hrl, push_cast, Nat.reduceEqDiff, Nat.reduceBEq, Nat.reduceBNe, Nat.reduceAdd, Nat.reduceMul, Nat.reduceLT, Nat.reduceLeDiff, Nat.reduceSub, reduceCtorEq, Int.reduceToNat, ↓reduceIte]
      repeat'
        (first
         | (refine uYes ?_; first | exact List.mem_cons_self | (simp only [List.mem_cons, List.not_mem_nil, or_false, true_or, or_true]; done))
         | (refine uNo (by kernel_rfl))
         | (refine flatMk ?_; kernel_rfl)
         | (refine And.intro ?_ ?_)
         | (intro hx)
         | ((first
             | (refine callGF ?_)
             | (refine callQGF ?_)
             | (refine skipG ?_)
             | (refine callM (hO _) ?_)
             | (refine inX_mk [h.length] (by kernel_rfl) (by simp) ?_)
             | (refine callXR (r := h.length) (by simp) (by simp) (fun h' hr' hl' => hG h' (hr'.trans (ob_app0 _ _)) hl') ?_)
             | (refine callXR (r := h.length) (by simp) (by simp) (fun h' hr' hl' => hOf h' (hr'.trans (ob_app0 _ _)) hl') ?_)
             | (refine callXR (r := h.length) (by simp) (by simp) (fun h' hr' hl' => hP1 h' (hr'.trans (ob_app0 _ _)) hl') ?_)
             | (refine callXR (r := h.length) (by simp) (by simp) (fun h' hr' hl' => hP2 h' (hr'.trans (ob_app0 _ _)) hl') ?_)); simp -implicitDefEqProofs only [h0, h1, h8, hrB, hrl, push_cast, Nat.reduceEqDiff, Nat.reduceBEq, Nat.reduceBNe, Nat.reduceAdd, Nat.reduceMul, Nat.reduceLT, Nat.reduceLeDiff, Nat.reduceSub, reduceCtorEq, Int.reduceToNat, ↓reduceIte]))
      all_goals first
        | omega
        | rfl
        | exact Nat.le_refl _
        | exact fw_refl _ _ _
        | (obtain ⟨x, _, rfl⟩ := List.mem_map.1 hx; trivial)
        | (obtain ⟨x, _, rfl⟩ := List.mem_map.1 hx; exact .str _)
        | trace_state
  refine ⟨s, recB.getD (pickV cs u 3).toNat [], [b1, 0, -1, 1000].getD b2.toNat 0, hA.1, recB_len _, ?_, ?_, fun h => key b2.toNat _ (by omega) (by omega) rfl h⟩
  all_goals
    have hcs : b2.toNat = 0 ∨ b2.toNat = 1 ∨ b2.toNat = 2 ∨ b2.toNat = 3 := by omega
    rcases hcs with e | e | e | e <;> rw [e] <;> simp <;> omega
end Go.Proofs.YtcmpcpigchlhpaaDoor

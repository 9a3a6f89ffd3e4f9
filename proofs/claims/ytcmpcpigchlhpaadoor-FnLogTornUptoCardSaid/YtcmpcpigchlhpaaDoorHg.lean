/- Entries of logs, on both sides. -/
import Derived.Test.YtcmpcpigchlhpaaDoorHf
import Derived.Test.YtcmpcpigchlhpaaDoorGx
import Derived.Test.YtcmpcpigchlhpaaDoorGo
import Derived.Test.YtcmpcpigchlhpaaDoorGy

namespace Go.Proofs.YtcmpcpigchlhpaaDoor
set_option linter.unusedSectionVars false
open Go.Av
variable [Av.Start] [TabSha] [TabBits] [TabPow] [TabErr] [TabMax]
set_option maxRecDepth 10000
set_option maxHeartbeats 1000000
set_option linter.unusedSimpArgs false
set_option linter.unusedVariables false

theorem cut_gives (s : List UInt8) (c : UInt8) (h : Hp) (hs : s.length ≤ 10000000) : Gives Tryd.prog 21 [.str s, .str [c]] h (.tup [.str (Lib.cut s [c]).1, .str (Lib.cut s [c]).2.1, .bool (Lib.cut s [c]).2.2]) := by
  refine gives_lib (enters_at Tryd.func21 (by kernel_rfl) (by kernel_rfl)) fun w σ vs hi hr => ?_
  obtain ⟨v, u, rfl, hv, hu⟩ := repL2 hr
  cases hv
  cases hu
  obtain ⟨m, hm⟩ := (inferInstance : TabMax).max
  have hm' := hi.cell0 hm
  refine (Any.strings_Cut Tryd.lays145 ⟨s.toArray⟩ ⟨[c].toArray⟩ m w (by show s.toArray.size < _; simp; omega) hm').mono ?_
  rintro e w' ⟨rfl, n, rfl⟩
  have hc : (Lib.cut s [c]).1.length ≤ lenMax ∧ (Lib.cut s [c]).2.1.length ≤ lenMax := by
    have h9 : 10000000 ≤ lenMax := by decide
    rcases lib_cut c s with ⟨_, e⟩ | ⟨a, r, e1, _, e⟩
    · rw [e]; exact ⟨by omega, by simp⟩
    · rw [e]
      have := congrArg List.length e1
      rw [List.length_append, List.length_cons] at this
      exact ⟨by show a.length ≤ _; omega, by show r.length ≤ _; omega⟩
  refine ⟨_, rfl, ⟨rfl, rfl, rfl, Nat.le_refl _, fun b hb => rfl⟩, fun ow _ => ?_⟩
  refine .tup _ [_, _, _] rfl fun k h1 h2 => ?_
  match k with
  | 0 => exact .str _ hc.1
  | 1 => exact .str _ hc.2
  | 2 => exact .bool _
theorem prefix_gives (s p : List UInt8) (h : Hp) : Gives Tryd.prog 25 [.str s, .str p] h (.bool (Lib.hasPrefix s p)) := by
  refine gives_lib (enters_at Tryd.func25 (by kernel_rfl) (by kernel_rfl)) fun w σ vs hi hr => ?_
  obtain ⟨v, u, rfl, hv, hu⟩ := repL2 hr
  cases hv
  cases hu
  refine (Any.strings_HasPrefix { Tryd.lays105 with } ⟨s.toArray⟩ ⟨p.toArray⟩ w).mono ?_
  rintro e w' ⟨rfl, rfl⟩
  exact ⟨_, rfl, .refl _ _, fun ow _ => .bool _⟩
theorem dec_len21 (n : Nat) (h : n ≤ 10000000) : (Lib.itoa n).length ≤ 21 := Lib.itoa_length_le n (by omega) (by omega)
theorem entry_gives (n : Nat) (r : List UInt8) (h : Hp) (hn : n ≤ 10000000) (hr : r.length ≤ 3000000) : Gives Tryd.prog 24 [.int .i64 n, .str r] h (.str (entryV n r)) := by
  have i1 := fun g => itoa_gives (n : Int) g (by omega) (by omega)
  have i2 := fun g => itoa_gives (r.length : Int) g (by omega) (by omega)
  have l1 := dec_len21 n hn
  have l2 := dec_len21 r.length (by omega)
  have et : Lib.itoa n ++ 58 :: (Lib.itoa r.length ++ 58 :: r) = entT n r := rfl
  have el := entT_len n r
  have hH := fun g => hash_gives (entT n r) g (by omega)
  have hv : entT n r ++ (List.take 12 (hashV (entT n r)) ++ [59]) = entryV n r := rfl
  have hvl := hashV_len (entT n r)
  have h1 : 1 ≤ lenMax := by decide
  refine meets_of [] mixed Tryd.func24 rfl (by kernel_rfl) (by kernel_rfl) (by rw [Tryd.ntmps24]; simp only [List.length_cons, List.length_nil]; omega) (fun hf => ?_)
  rw [Tryd.results24]
  clear hf
  try simp -implicitDefEqProofs only [et, h1, hvl, push_cast, Nat.reduceEqDiff, Nat.reduceBEq, Nat.reduceBNe, Nat.reduceAdd, Nat.reduceMul, Nat.reduceLT, Nat.reduceLeDiff, Nat.reduceSub, reduceCtorEq, Int.reduceToNat, ↓reduceIte]
  repeat'
    (first
     | (refine uYes ?_; first | exact List.mem_cons_self | (simp only [List.mem_cons, List.not_mem_nil, or_false, true_or, or_true]; done))
     | (refine uNo (by kernel_rfl))
     | (refine flatMk ?_; kernel_rfl)
     | (refine And.intro ?_ ?_)
     | (intro hx)
     | ((first
         | (refine callGF ?_)
         | (refine callQGF ?_)
         | (refine skipG ?_)
         | (refine callS (i1 _) ?_)
         | (refine callQ (i1 _) ?_)
         | (refine callG (fun hc => (i1 _)) ?_)
         | (refine callQG (fun hc => (i1 _)) ?_)
         | (refine callS (i2 _) ?_)
         | (refine callQ (i2 _) ?_)
         | (refine callG (fun hc => (i2 _)) ?_)
         | (refine callQG (fun hc => (i2 _)) ?_)
         | (refine callS (hH _) ?_)
         | (refine callQ (hH _) ?_)
         | (refine callG (fun hc => (hH _)) ?_)
         | (refine callQG (fun hc => (hH _)) ?_)); simp -implicitDefEqProofs only [et, h1, hvl, push_cast, Nat.reduceEqDiff, Nat.reduceBEq, Nat.reduceBNe, Nat.reduceAdd, Nat.reduceMul, Nat.reduceLT, Nat.reduceLeDiff, Nat.reduceSub, reduceCtorEq, Int.reduceToNat, ↓reduceIte]))
  all_goals first
    | omega
    | (simp only [lenMax]; omega)
    | trace_state
theorem frame_gives (n : Nat) (r : List UInt8) (h : Hp) (hn : n ≤ 10000000) (hr : r.length ≤ 3000000) : Gives Tryd.prog 30 [.int .i64 n, .str r] h (.str (entryV n r)) := by
  have i1 := fun g => l1Dec_gives (n : Int) g (by omega) (by omega)
  have i2 := fun g => l1Dec_gives (r.length : Int) g (by omega) (by omega)
  have l1 := dec_len21 n hn
  have l2 := dec_len21 r.length (by omega)
  have et : Lib.itoa n ++ 58 :: (Lib.itoa r.length ++ 58 :: r) = entT n r := rfl
  have el := entT_len n r
  have hH := fun g => specHash_gives (entT n r) g (by omega)
  have hv : entT n r ++ (List.take 12 (hashV (entT n r)) ++ [59]) = entryV n r := rfl
  have hvl := hashV_len (entT n r)
  have h1 : 1 ≤ lenMax := by decide
  refine meets_of [] mixed Tryd.func30 rfl (by kernel_rfl) (by kernel_rfl) (by rw [Tryd.ntmps30]; simp only [List.length_cons, List.length_nil]; omega) (fun hf => ?_)
  rw [Tryd.results30]
  clear hf
  try simp -implicitDefEqProofs only [et, h1, hvl, push_cast, Nat.reduceEqDiff, Nat.reduceBEq, Nat.reduceBNe, Nat.reduceAdd, Nat.reduceMul, Nat.reduceLT, Nat.reduceLeDiff, Nat.reduceSub, reduceCtorEq, Int.reduceToNat, ↓reduceIte]
  repeat'
    (first
     | (refine uYes ?_; first | exact List.mem_cons_self | (simp only [List.mem_cons, List.not_mem_nil, or_false, true_or, or_true]; done))
     | (refine uNo (by kernel_rfl))
     | (refine flatMk ?_; kernel_rfl)
     | (refine And.intro ?_ ?_)
     | (intro hx)
     | ((first
         | (refine callGF ?_)
         | (refine callQGF ?_)
         | (refine skipG ?_)
         | (refine callS (i1 _) ?_)
         | (refine callQ (i1 _) ?_)
         | (refine callG (fun hc => (i1 _)) ?_)
         | (refine callQG (fun hc => (i1 _)) ?_)
         | (refine callS (i2 _) ?_)
         | (refine callQ (i2 _) ?_)
         | (refine callG (fun hc => (i2 _)) ?_)
         | (refine callQG (fun hc => (i2 _)) ?_)
         | (refine callS (hH _) ?_)
         | (refine callQ (hH _) ?_)
         | (refine callG (fun hc => (hH _)) ?_)
         | (refine callQG (fun hc => (hH _)) ?_)); simp -implicitDefEqProofs only [et, h1, hvl, push_cast, Nat.reduceEqDiff, Nat.reduceBEq, Nat.reduceBNe, Nat.reduceAdd, Nat.reduceMul, Nat.reduceLT, Nat.reduceLeDiff, Nat.reduceSub, reduceCtorEq, Int.reduceToNat, ↓reduceIte]))
  all_goals first
    | omega
    | (simp only [lenMax]; omega)
    | trace_state
/-- How far it is to the next colon. -/
structure UntM (s : List UInt8) (k m : Nat) : Prop where
  le : k + m ≤ s.length
  ne : ∀ j, j < m → s.getD (k + j) 0 ≠ 58
  fin : k + m = s.length ∨ (k + m < s.length ∧ s.getD (k + m) 0 = 58)
theorem untM_ex (s : List UInt8) {k : Nat} (hk : k ≤ s.length) : ∃ m, UntM s k m := by
  have aux : ∀ (d m : Nat), k + m ≤ s.length → s.length - (k + m) ≤ d → (∀ j, j < m → s.getD (k + j) 0 ≠ 58) → ∃ m, UntM s k m := by
    intro d
    induction d with
    | zero => exact fun m h1 h2 h3 => ⟨m, h1, h3, .inl (by omega)⟩
    | succ d ih =>
      intro m h1 h2 h3
      by_cases e : k + m = s.length
      · exact ⟨m, h1, h3, .inl e⟩
      by_cases e2 : s.getD (k + m) 0 = 58
      · exact ⟨m, h1, h3, .inr ⟨by omega, e2⟩⟩
      · exact ih (m + 1) (by omega) (by omega) (fun j hj => by
          by_cases e3 : j = m
          · subst e3; exact e2
          · exact h3 j (by omega))
  exact aux s.length 0 (by omega) (by omega) (fun j hj => absurd hj (Nat.not_lt_zero j))
def untX (s : List UInt8) (k m : Nat) : Int := if k + m = s.length then -1 else num12 ((s.take (k + m)).drop k)
def untF (s : List UInt8) (k m : Nat) : Nat := if k + m = s.length then s.length else k + m + 1
theorem until_gives (s : List UInt8) (k m : Nat) (h : Hp) (hs : s.length ≤ 10000000) (H : UntM s k m) : Gives Tryd.prog 39 [.str s, .int .i64 k] h (.tup [.int .i64 (untX s k m), .int .i64 (untF s k m)]) := by
  have hle := H.le
  have hN := fun g => l2Num_gives ((s.take (k + m)).drop k) g
  refine meets_of [] mixed Tryd.func39 rfl (by kernel_rfl) (by kernel_rfl) (by rw [Tryd.ntmps39]; simp only [List.length_cons, List.length_nil]; omega) (fun hf => ?_)
  rw [Tryd.results39]
  clear hf
  try simp -implicitDefEqProofs only [push_cast, Nat.reduceEqDiff, Nat.reduceBEq, Nat.reduceBNe, Nat.reduceAdd, Nat.reduceMul, Nat.reduceLT, Nat.reduceLeDiff, Nat.reduceSub, reduceCtorEq, Int.reduceToNat, ↓reduceIte]
  repeat'
    (first
     | (refine uYes ?_; first | exact List.mem_cons_self | (simp only [List.mem_cons, List.not_mem_nil, or_false, true_or, or_true]; done))
     | (refine uNo (by kernel_rfl))
     | (refine flatMk ?_; kernel_rfl)
     | (refine And.intro ?_ ?_)
     | (intro hx)
     | ((first
         | (refine callGF ?_)
         | (refine callQGF ?_)
         | (refine skipG ?_)
         | (refine callS (in_gives _ _ _ _) ?_)
         | (refine callQ (in_gives _ _ _ _) ?_)
         | (refine callG (fun hc => (in_gives _ _ _ _)) ?_)
         | (refine callQG (fun hc => (in_gives _ _ _ _)) ?_)); simp -implicitDefEqProofs only [push_cast, Nat.reduceEqDiff, Nat.reduceBEq, Nat.reduceBNe, Nat.reduceAdd, Nat.reduceMul, Nat.reduceLT, Nat.reduceLeDiff, Nat.reduceSub, reduceCtorEq, Int.reduceToNat, ↓reduceIte]))
  all_goals try omega
  refine ev_loop0 [] (fun j : Nat => [(0, .str s), (1, .int .i64 ((k + j : Nat) : Int)), (6, .int .i64 k)]) (fun j => j ≤ m) (fun j => m - j) 0 trivial (Nat.zero_le _) ?_ ?_
  · refine ⟨rfl, [], ?_⟩
    simp -implicitDefEqProofs only [Int.natCast_add, Int.cast_ofNat_Int, List.length_nil, Nat.le_refl, WeakTo, tokSts, tokOks, List.append_cancel_left_eq, exists_eq_left', exists_eq_left, List.append_cancel_left_eq, List.take_length, ObCl, and_true, true_and, push_cast, Nat.reduceEqDiff, Nat.reduceBEq, Nat.reduceBNe, Nat.reduceAdd, Nat.reduceMul, Nat.reduceLT, Nat.reduceLeDiff, Nat.reduceSub, reduceCtorEq, Int.reduceToNat, ↓reduceIte]
    trace_state
  · intro j hj
    have w1 : IntKind.i64.wrap ((k : Int) + j + 1) = k + j + 1 := wrap_id (by omega) (by omega)
    have t1 : ((k : Int) + j).toNat = k + j := by omega
    have hb := (s.getD (k + j) 0).toNat_lt
    by_cases hlt : j < m
    · have hne : ¬ ((s.getD (k + j) 0).toNat : Int) = 58 := fun e => H.ne j hlt (by
        have e2 : (s.getD (k + j) 0).toNat = 58 := by omega
        exact UInt8.toNat_inj.1 e2)
      have hkl : (k : Int) + j < s.length := by omega
      try simp -implicitDefEqProofs only [w1, t1, hne, hkl, push_cast, Nat.reduceEqDiff, Nat.reduceBEq, Nat.reduceBNe, Nat.reduceAdd, Nat.reduceMul, Nat.reduceLT, Nat.reduceLeDiff, Nat.reduceSub, reduceCtorEq, Int.reduceToNat, ↓reduceIte]
      repeat'
        (first
         | (refine uYes ?_; first | exact List.mem_cons_self | (simp only [List.mem_cons, List.not_mem_nil, or_false, true_or, or_true]; done))
         | (refine uNo (by kernel_rfl))
         | (refine flatMk ?_; kernel_rfl)
         | (refine And.intro ?_ ?_)
         | (intro hx)
         | ((first
             | (refine callGF ?_)
             | (refine callQGF ?_)
             | (refine skipG ?_)
             | (refine callS (in_gives _ _ _ _) ?_)
             | (refine callQ (in_gives _ _ _ _) ?_)
             | (refine callG (fun hc => (in_gives _ _ _ _)) ?_)
             | (refine callQG (fun hc => (in_gives _ _ _ _)) ?_)); simp -implicitDefEqProofs only [w1, t1, hne, hkl, push_cast, Nat.reduceEqDiff, Nat.reduceBEq, Nat.reduceBNe, Nat.reduceAdd, Nat.reduceMul, Nat.reduceLT, Nat.reduceLeDiff, Nat.reduceSub, reduceCtorEq, Int.reduceToNat, ↓reduceIte]))
      all_goals first
        | omega
        | (exfalso; omega)
        | skip
      refine round_mk0 (j + 1) (by omega) (by omega) ⟨[], ?_⟩
      simp -implicitDefEqProofs only [w1, Int.natCast_add, Int.cast_ofNat_Int, List.length_nil, Nat.le_refl, WeakTo, tokSts, tokOks, List.append_cancel_left_eq, exists_eq_left', exists_eq_left, List.append_cancel_left_eq, List.take_length, ObCl, and_true, true_and, push_cast, Nat.reduceEqDiff, Nat.reduceBEq, Nat.reduceBNe, Nat.reduceAdd, Nat.reduceMul, Nat.reduceLT, Nat.reduceLeDiff, Nat.reduceSub, reduceCtorEq, Int.reduceToNat, ↓reduceIte]
      omega
    · obtain rfl : j = m := by omega
      rcases H.fin with e | ⟨e, e58⟩
      · have hkl : ¬ (k : Int) + j < s.length := by omega
        have hke : (k : Int) + j = s.length := by omega
        try simp -implicitDefEqProofs only [w1, t1, hkl, hke, push_cast, Nat.reduceEqDiff, Nat.reduceBEq, Nat.reduceBNe, Nat.reduceAdd, Nat.reduceMul, Nat.reduceLT, Nat.reduceLeDiff, Nat.reduceSub, reduceCtorEq, Int.reduceToNat, ↓reduceIte]
        repeat'
          (first
           | (refine uYes ?_; first | exact List.mem_cons_self | (simp only [List.mem_cons, List.not_mem_nil, or_false, true_or, or_true]; done))
           | (refine uNo (by kernel_rfl))
           | (refine flatMk ?_; kernel_rfl)
           | (refine And.intro ?_ ?_)
           | (intro hx)
           | ((first
               | (refine callGF ?_)
               | (refine callQGF ?_)
               | (refine skipG ?_)
               | (refine callS (in_gives _ _ _ _) ?_)
               | (refine callQ (in_gives _ _ _ _) ?_)
               | (refine callG (fun hc => (in_gives _ _ _ _)) ?_)
               | (refine callQG (fun hc => (in_gives _ _ _ _)) ?_)); simp -implicitDefEqProofs only [w1, t1, hkl, hke, push_cast, Nat.reduceEqDiff, Nat.reduceBEq, Nat.reduceBNe, Nat.reduceAdd, Nat.reduceMul, Nat.reduceLT, Nat.reduceLeDiff, Nat.reduceSub, reduceCtorEq, Int.reduceToNat, ↓reduceIte]))
        all_goals first
          | omega
          | (exfalso; omega)
          | (rw [untX, if_pos e]; done)
          | (rw [untF, if_pos e]; done)
          | (rw [untF, if_pos e]; omega)
          | trace_state
      · have h58 : ((s.getD (k + j) 0).toNat : Int) = 58 := by rw [e58]; rfl
        have hn0 : ¬ k + j = s.length := by omega
        have hkl : (k : Int) + j < s.length := by omega
        have hke : ¬ (k : Int) + j = s.length := by omega
        try simp -implicitDefEqProofs only [w1, t1, h58, hkl, hke, push_cast, Nat.reduceEqDiff, Nat.reduceBEq, Nat.reduceBNe, Nat.reduceAdd, Nat.reduceMul, Nat.reduceLT, Nat.reduceLeDiff, Nat.reduceSub, reduceCtorEq, Int.reduceToNat, ↓reduceIte]
        repeat'
          (first
           | (refine uYes ?_; first | exact List.mem_cons_self | (simp only [List.mem_cons, List.not_mem_nil, or_false, true_or, or_true]; done))
           | (refine uNo (by kernel_rfl))
           | (refine flatMk ?_; kernel_rfl)
           | (refine And.intro ?_ ?_)
           | (intro hx)
           | ((first
               | (refine callGF ?_)
               | (refine callQGF ?_)
               | (refine skipG ?_)
               | (refine callS (hN _) ?_)
               | (refine callQ (hN _) ?_)
               | (refine callG (fun hc => (hN _)) ?_)
               | (refine callQG (fun hc => (hN _)) ?_)); simp -implicitDefEqProofs only [w1, t1, h58, hkl, hke, push_cast, Nat.reduceEqDiff, Nat.reduceBEq, Nat.reduceBNe, Nat.reduceAdd, Nat.reduceMul, Nat.reduceLT, Nat.reduceLeDiff, Nat.reduceSub, reduceCtorEq, Int.reduceToNat, ↓reduceIte]))
        all_goals first
          | omega
          | (exfalso; omega)
          | (rw [untX, if_neg hn0]; done)
          | (rw [untF, if_neg hn0]; omega)
          | trace_state
theorem unt_of {s a t : List UInt8} {k : Nat} (hk : k ≤ s.length) (h : s.drop k = a ++ 58 :: t) (ha : (58 : UInt8) ∉ a) : UntM s k a.length ∧ k + a.length + 1 + t.length = s.length ∧ (s.take (k + a.length)).drop k = a ∧ s.drop (k + a.length + 1) = t := by
  have hl := congrArg List.length h
  rw [List.length_drop, List.length_append, List.length_cons] at hl
  have hg : ∀ j, s.getD (k + j) 0 = (a ++ 58 :: t).getD j 0 := fun j => by
    rw [← h, List.getD_eq_getElem?_getD, List.getD_eq_getElem?_getD, List.getElem?_drop]
  refine ⟨⟨by omega, fun j hj => ?_, .inr ⟨by omega, ?_⟩⟩, by omega, ?_, ?_⟩
  · rw [hg, List.getD_eq_getElem?_getD, List.getElem?_append_left hj, List.getElem?_eq_getElem hj]
    exact fun e => ha (e ▸ List.getElem_mem hj)
  · rw [hg, List.getD_eq_getElem?_getD, List.getElem?_append_right (Nat.le_refl _), Nat.sub_self]
    rfl
  · rw [List.drop_take, h, Nat.add_sub_cancel_left, List.take_left]
  · rw [Nat.add_assoc, ← List.drop_drop, h, show a ++ 58 :: t = (a ++ [58]) ++ t by simp, show a.length + 1 = (a ++ [(58 : UInt8)]).length by simp, List.drop_left]
theorem sub_pre {s f : List UInt8} {k : Nat} (h : f <+: s.drop k) : (s.take (k + f.length)).drop k = f := by
  obtain ⟨t, e⟩ := h
  rw [List.drop_take, ← e, Nat.add_sub_cancel_left, List.take_left]
theorem pre_sub {s f : List UInt8} {k : Nat} (h : (s.take (k + f.length)).drop k = f) : f <+: s.drop k := by
  rw [List.drop_take, Nat.add_sub_cancel_left] at h
  exact ⟨(s.drop k).drop f.length, by conv => lhs; lhs; rw [← h]
                                      exact List.take_append_drop _ _⟩
theorem next_yes (s r : List UInt8) (k n : Nat) (h : Hp) (hs : s.length ≤ 2000000) (hk : k ≤ s.length) (hn : n ≤ 10000000) (H : entryV n r <+: s.drop k) : Gives Tryd.prog 27 [.str s, .int .i64 k, .int .i64 n] h (.tup [.str r, .int .i64 ((k + (entryV n r).length : Nat) : Int), .bool true]) := by
  obtain ⟨tl, e⟩ := ent_parse H
  obtain ⟨u1, l1, _, d1⟩ := unt_of hk e (itoa_no58 _)
  obtain ⟨u2, l2, t2, d2⟩ := unt_of (k := k + (Lib.itoa (n : Int)).length + 1) (by omega) d1 (itoa_no58 _)
  have hle := H.length_le
  have el := entryV_len n r
  have et := entT_len n r
  rw [List.length_drop] at hle
  have g1 := fun g => until_gives s k _ g (by omega) u1
  have g2 := fun g => until_gives s _ _ g (by omega) u2
  have x2 : untX s (k + (Lib.itoa (n : Int)).length + 1) (Lib.itoa (r.length : Int)).length = r.length := by
    rw [untX, if_neg (by omega), t2, num12_itoa (by omega) (by omega)]
  have f1 : untF s k (Lib.itoa (n : Int)).length = k + (Lib.itoa (n : Int)).length + 1 := by rw [untF, if_neg (by omega)]
  have f2 : untF s (k + (Lib.itoa (n : Int)).length + 1) (Lib.itoa (r.length : Int)).length = k + (Lib.itoa (n : Int)).length + 1 + (Lib.itoa (r.length : Int)).length + 1 := by rw [untF, if_neg (by omega)]
  rw [f1] at g1
  rw [x2, f2] at g2
  generalize untX s k (Lib.itoa (n : Int)).length = x1 at g1
  obtain ⟨fr, hfr⟩ : ∃ fr, k + (Lib.itoa (n : Int)).length + 1 + (Lib.itoa (r.length : Int)).length + 1 = fr := ⟨_, rfl⟩
  obtain ⟨md, hmd⟩ : ∃ md, k + (Lib.itoa (n : Int)).length + 1 = md := ⟨_, rfl⟩
  rw [hfr] at g2 d2
  rw [hmd] at g1 g2
  have hf := fun g => frame_gives n r g hn (by omega)
  have s1 : (s.take (fr + r.length)).drop fr = r := sub_pre (by rw [d2]; exact List.prefix_append _ _)
  have s2 := sub_pre H
  obtain ⟨fl, hfl⟩ : ∃ fl, (entryV n r).length = fl := ⟨_, rfl⟩
  rw [hfl] at s2 ⊢
  have w1 : IntKind.i64.wrap ((fr : Int) + r.length) = fr + r.length := wrap_id (by omega) (by omega)
  have w2 : IntKind.i64.wrap ((fr : Int) + r.length + 13) = fr + r.length + 13 := wrap_id (by omega) (by omega)
  have w3 : IntKind.i64.wrap ((k : Int) + fl) = k + fl := wrap_id (by omega) (by omega)
  have t1 : ((fr : Int) + r.length).toNat = fr + r.length := by omega
  have t3 : ((k : Int) + fl).toNat = k + fl := by omega
  have c1 : ¬ (s.length : Int) < fr + r.length + 13 := by omega
  have c2 : ¬ (s.length : Int) < k + fl := by omega
  have c3 : ¬ (r.length : Int) < 0 := by omega
  refine meets_of [] mixed Tryd.func27 rfl (by kernel_rfl) (by kernel_rfl) (by rw [Tryd.ntmps27]; simp only [List.length_cons, List.length_nil]; omega) (fun hf => ?_)
  rw [Tryd.results27]
  clear hf
  try simp -implicitDefEqProofs only [w1, w2, w3, t1, t3, c1, c2, c3, s1, s2, hfl, push_cast, Nat.reduceEqDiff, Nat.reduceBEq, Nat.reduceBNe, Nat.reduceAdd, Nat.reduceMul, Nat.reduceLT, Nat.reduceLeDiff, Nat.reduceSub, reduceCtorEq, Int.reduceToNat, ↓reduceIte]
  repeat'
    (first
     | (refine uYes ?_; first | exact List.mem_cons_self | (simp only [List.mem_cons, List.not_mem_nil, or_false, true_or, or_true]; done))
     | (refine uNo (by kernel_rfl))
     | (refine flatMk ?_; kernel_rfl)
     | (refine And.intro ?_ ?_)
     | (intro hx)
     | ((first
         | (refine callGF ?_)
         | (refine callQGF ?_)
         | (refine skipG ?_)
         | (refine callS (g1 _) ?_)
         | (refine callQ (g1 _) ?_)
         | (refine callG (fun hc => (g1 _)) ?_)
         | (refine callQG (fun hc => (g1 _)) ?_)
         | (refine callS (g2 _) ?_)
         | (refine callQ (g2 _) ?_)
         | (refine callG (fun hc => (g2 _)) ?_)
         | (refine callQG (fun hc => (g2 _)) ?_)
         | (refine callS (hf _) ?_)
         | (refine callQ (hf _) ?_)
         | (refine callG (fun hc => (hf _)) ?_)
         | (refine callQG (fun hc => (hf _)) ?_)); simp -implicitDefEqProofs only [w1, w2, w3, t1, t3, c1, c2, c3, s1, s2, hfl, push_cast, Nat.reduceEqDiff, Nat.reduceBEq, Nat.reduceBNe, Nat.reduceAdd, Nat.reduceMul, Nat.reduceLT, Nat.reduceLeDiff, Nat.reduceSub, reduceCtorEq, Int.reduceToNat, ↓reduceIte]))
  all_goals first
    | omega
    | (exfalso; omega)
    | trace_state
theorem next_no (s : List UInt8) (k n : Nat) (h : Hp) (hs : s.length ≤ 2000000) (hk : k ≤ s.length) (hn : n ≤ 10000000) (H : ∀ r, ¬ entryV n r <+: s.drop k) : Gives Tryd.prog 27 [.str s, .int .i64 k, .int .i64 n] h (.tup [.str [], .int .i64 k, .bool false]) := by
  have h0 : 0 ≤ lenMax := by decide
  obtain ⟨m1, u1⟩ := untM_ex s hk
  have g1 := fun g => until_gives s k _ g (by omega) u1
  have b1 : untF s k m1 ≤ s.length := by
    rw [untF]
    split
    · omega
    · have := u1.fin; omega
  generalize untF s k m1 = md at g1 b1
  generalize untX s k m1 = x1 at g1
  obtain ⟨m2, u2⟩ := untM_ex s b1
  have g2 := fun g => until_gives s md _ g (by omega) u2
  have b2 : untF s md m2 ≤ s.length := by
    rw [untF]
    split
    · omega
    · have := u2.fin; omega
  have b3 : untX s md m2 < 1000000000000 ∧ -1 ≤ untX s md m2 := by
    rw [untX]
    split
    · omega
    · refine ⟨?_, num12_ge _⟩
      rcases Int.lt_or_le (num12 ((s.take (md + m2)).drop md)) 0 with h | h
      · omega
      · exact (num12_pos h).2
  generalize untF s md m2 = fr at g2 b2
  generalize untX s md m2 = x2 at g2 b3
  have w2 : IntKind.i64.wrap (fr + x2) = fr + x2 := wrap_id (by omega) (by omega)
  have w3 : IntKind.i64.wrap ((fr : Int) + x2 + 13) = fr + x2 + 13 := wrap_id (by omega) (by omega)
  by_cases c1 : x2 < 0
  · refine meets_of [] mixed Tryd.func27 rfl (by kernel_rfl) (by kernel_rfl) (by rw [Tryd.ntmps27]; simp only [List.length_cons, List.length_nil]; omega) (fun hf => ?_)
    rw [Tryd.results27]
    clear hf
    try simp -implicitDefEqProofs only [w2, w3, c1, h0, push_cast, Nat.reduceEqDiff, Nat.reduceBEq, Nat.reduceBNe, Nat.reduceAdd, Nat.reduceMul, Nat.reduceLT, Nat.reduceLeDiff, Nat.reduceSub, reduceCtorEq, Int.reduceToNat, ↓reduceIte]
    repeat'
      (first
       | (refine uYes ?_; first | exact List.mem_cons_self | (simp only [List.mem_cons, List.not_mem_nil, or_false, true_or, or_true]; done))
       | (refine uNo (by kernel_rfl))
       | (refine flatMk ?_; kernel_rfl)
       | (refine And.intro ?_ ?_)
       | (intro hx)
       | ((first
           | (refine callGF ?_)
           | (refine callQGF ?_)
           | (refine skipG ?_)
           | (refine callS (g1 _) ?_)
           | (refine callQ (g1 _) ?_)
           | (refine callG (fun hc => (g1 _)) ?_)
           | (refine callQG (fun hc => (g1 _)) ?_)
           | (refine callS (g2 _) ?_)
           | (refine callQ (g2 _) ?_)
           | (refine callG (fun hc => (g2 _)) ?_)
           | (refine callQG (fun hc => (g2 _)) ?_)); simp -implicitDefEqProofs only [w2, w3, c1, h0, push_cast, Nat.reduceEqDiff, Nat.reduceBEq, Nat.reduceBNe, Nat.reduceAdd, Nat.reduceMul, Nat.reduceLT, Nat.reduceLeDiff, Nat.reduceSub, reduceCtorEq, Int.reduceToNat, ↓reduceIte]))
    all_goals first
      | omega
      | (exfalso; omega)
      | trace_state
  · obtain ⟨z, rfl⟩ := Int.eq_ofNat_of_zero_le (show 0 ≤ x2 by omega)
    by_cases c2 : (s.length : Int) < fr + z + 13
    · refine meets_of [] mixed Tryd.func27 rfl (by kernel_rfl) (by kernel_rfl) (by rw [Tryd.ntmps27]; simp only [List.length_cons, List.length_nil]; omega) (fun hf => ?_)
      rw [Tryd.results27]
      clear hf
      try simp -implicitDefEqProofs only [w2, w3, c1, c2, h0, push_cast, Nat.reduceEqDiff, Nat.reduceBEq, Nat.reduceBNe, Nat.reduceAdd, Nat.reduceMul, Nat.reduceLT, Nat.reduceLeDiff, Nat.reduceSub, reduceCtorEq, Int.reduceToNat, ↓reduceIte]
      repeat'
        (first
         | (refine uYes ?_; first | exact List.mem_cons_self | (simp only [List.mem_cons, List.not_mem_nil, or_false, true_or, or_true]; done))
         | (refine uNo (by kernel_rfl))
         | (refine flatMk ?_; kernel_rfl)
         | (refine And.intro ?_ ?_)
         | (intro hx)
         | ((first
             | (refine callGF ?_)
             | (refine callQGF ?_)
             | (refine skipG ?_)
             | (refine callS (g1 _) ?_)
             | (refine callQ (g1 _) ?_)
             | (refine callG (fun hc => (g1 _)) ?_)
             | (refine callQG (fun hc => (g1 _)) ?_)
             | (refine callS (g2 _) ?_)
             | (refine callQ (g2 _) ?_)
             | (refine callG (fun hc => (g2 _)) ?_)
             | (refine callQG (fun hc => (g2 _)) ?_)); simp -implicitDefEqProofs only [w2, w3, c1, c2, h0, push_cast, Nat.reduceEqDiff, Nat.reduceBEq, Nat.reduceBNe, Nat.reduceAdd, Nat.reduceMul, Nat.reduceLT, Nat.reduceLeDiff, Nat.reduceSub, reduceCtorEq, Int.reduceToNat, ↓reduceIte]))
      all_goals first
        | omega
        | (exfalso; omega)
        | trace_state
    · have hrl : ((s.take (fr + z)).drop fr).length = z := by rw [List.length_drop, List.length_take]; omega
      obtain ⟨r, hr⟩ : ∃ r, (s.take (fr + z)).drop fr = r := ⟨_, rfl⟩
      rw [hr] at hrl
      have hf := fun g => frame_gives n r g hn (by omega)
      have el := entryV_len n r
      have et := entT_len n r
      have i1 := dec_len21 n hn
      have i2 := dec_len21 r.length (by omega)
      have hne : ¬ (s.take (k + (entryV n r).length)).drop k = entryV n r := fun e => H r (pre_sub e)
      obtain ⟨fl, hfl⟩ : ∃ fl, (entryV n r).length = fl := ⟨_, rfl⟩
      rw [hfl] at hne
      have w4 : IntKind.i64.wrap ((k : Int) + fl) = k + fl := wrap_id (by omega) (by omega)
      have t1 : ((fr : Int) + z).toNat = fr + z := by omega
      have t3 : ((k : Int) + fl).toNat = k + fl := by omega
      refine meets_of [] mixed Tryd.func27 rfl (by kernel_rfl) (by kernel_rfl) (by rw [Tryd.ntmps27]; simp only [List.length_cons, List.length_nil]; omega) (fun hf => ?_)
      rw [Tryd.results27]
      clear hf
      try simp -implicitDefEqProofs only [w2, w3, w4, t1, t3, c1, c2, hr, hfl, hne, h0, push_cast, Nat.reduceEqDiff, Nat.reduceBEq, Nat.reduceBNe, Nat.reduceAdd, Nat.reduceMul, Nat.reduceLT, Nat.reduceLeDiff, Nat.reduceSub, reduceCtorEq, Int.reduceToNat, ↓reduceIte]
      repeat'
        (first
         | (refine uYes ?_; first | exact List.mem_cons_self | (simp only [List.mem_cons, List.not_mem_nil, or_false, true_or, or_true]; done))
         | (refine uNo (by kernel_rfl))
         | (refine flatMk ?_; kernel_rfl)
         | (refine And.intro ?_ ?_)
         | (intro hx)
         | ((first
             | (refine callGF ?_)
             | (refine callQGF ?_)
             | (refine skipG ?_)
             | (refine callS (g1 _) ?_)
             | (refine callQ (g1 _) ?_)
             | (refine callG (fun hc => (g1 _)) ?_)
             | (refine callQG (fun hc => (g1 _)) ?_)
             | (refine callS (g2 _) ?_)
             | (refine callQ (g2 _) ?_)
             | (refine callG (fun hc => (g2 _)) ?_)
             | (refine callQG (fun hc => (g2 _)) ?_)
             | (refine callS (hf _) ?_)
             | (refine callQ (hf _) ?_)
             | (refine callG (fun hc => (hf _)) ?_)
             | (refine callQG (fun hc => (hf _)) ?_)); simp -implicitDefEqProofs only [w2, w3, w4, t1, t3, c1, c2, hr, hfl, hne, h0, push_cast, Nat.reduceEqDiff, Nat.reduceBEq, Nat.reduceBNe, Nat.reduceAdd, Nat.reduceMul, Nat.reduceLT, Nat.reduceLeDiff, Nat.reduceSub, reduceCtorEq, Int.reduceToNat, ↓reduceIte]))
      all_goals first
        | omega
        | (exfalso; omega)
        | trace_state
end Go.Proofs.YtcmpcpigchlhpaaDoor

/- Logs are read: both sides. -/
namespace Go.Proofs.YtcmpcpigchlhpaaDoor
set_option linter.unusedSectionVars false
open Go.Av
variable [Av.Start] [TabSha] [TabBits] [TabPow] [TabErr] [TabMax]
set_option maxRecDepth 10000
set_option maxHeartbeats 2000000
set_option linter.unusedSimpArgs false
set_option linter.unusedVariables false

theorem LogIs.len {log : List UInt8} {recs : List (List UInt8)} (H : LogIs log recs) : recs.length ≤ log.length := Nat.le_trans (joinE_len_ge 0 recs) H.pre.length_le
theorem LogIs.no {log : List UInt8} {recs : List (List UInt8)} (H : LogIs log recs) : ∀ r, ¬ entryV recs.length r <+: log.drop (offE recs recs.length) := by
  rw [offE_all]
  exact H.none
theorem specLogRead_gives (s : List UInt8) (recs : List (List UInt8)) (h : Hp) (hs : s.length ≤ 2000000) (H : LogIs s recs) : Gives Tryd.prog 8 [.str s] h (.tup [.slice (recs.map .str) .no, .int .i64 (joinE 0 recs).length]) := by
  have hlen := H.len
  have hN := fun g => next_no s (offE recs recs.length) recs.length g hs (H.off_le _) (by omega) H.no
  refine meets_of [] mixed Tryd.func8 rfl (by kernel_rfl) (by kernel_rfl) (by rw [Tryd.ntmps8]; simp only [List.length_cons, List.length_nil]; omega) (fun hf => ?_)
  rw [Tryd.results8]
  clear hf
  try simp -implicitDefEqProofs only [lenMax, push_cast, Nat.reduceEqDiff, Nat.reduceBEq, Nat.reduceBNe, Nat.reduceAdd, Nat.reduceMul, Nat.reduceLT, Nat.reduceLeDiff, Nat.reduceSub, reduceCtorEq, Int.reduceToNat, ↓reduceIte]
  repeat'
    (first
     | (refine uYes ?_; first | exact List.mem_cons_self | (simp only [List.mem_cons, List.not_mem_nil, or_false, true_or, or_true]; done))
     | (refine uNo (by kernel_rfl))
     | (refine flatMk ?_; kernel_rfl)
     | (refine And.intro ?_ ?_)
     | (intro hx)
     | ((first
         | (refine callGF ?_)
         | (refine callQGF ?_)
         | (refine skipG ?_)
         | (refine callS (in_gives _ _ _ _) ?_)
         | (refine callQ (in_gives _ _ _ _) ?_)
         | (refine callG (fun hc => (in_gives _ _ _ _)) ?_)
         | (refine callQG (fun hc => (in_gives _ _ _ _)) ?_)); simp -implicitDefEqProofs only [lenMax, push_cast, Nat.reduceEqDiff, Nat.reduceBEq, Nat.reduceBNe, Nat.reduceAdd, Nat.reduceMul, Nat.reduceLT, Nat.reduceLeDiff, Nat.reduceSub, reduceCtorEq, Int.reduceToNat, ↓reduceIte]))
  refine ev_loopB [(4, 1)] (fun k : Nat => [(0, .str s), (4, .slice ((recs.take k).map .str) (.buf h.length 1)), (5, .int .i64 (offE recs k))])
    (fun k => [.buf k]) (fun k => k ≤ recs.length) (fun k => recs.length - k) 0 ?_ (Nat.zero_le _) ?_ ?_
  · simp -implicitDefEqProofs only [tokOk, Int.natCast_add, Int.cast_ofNat_Int, List.length_nil, Nat.le_refl, WeakTo, tokSts, tokOks, List.append_cancel_left_eq, exists_eq_left', exists_eq_left, List.append_cancel_left_eq, List.take_length, ObCl, and_true, true_and, push_cast, Nat.reduceEqDiff, Nat.reduceBEq, Nat.reduceBNe, Nat.reduceAdd, Nat.reduceMul, Nat.reduceLT, Nat.reduceLeDiff, Nat.reduceSub, reduceCtorEq, Int.reduceToNat, ↓reduceIte]
  · refine ⟨1, by simp, by simp -implicitDefEqProofs only [tokSt, Int.natCast_add, Int.cast_ofNat_Int, List.length_nil, Nat.le_refl, WeakTo, tokSts, tokOks, List.append_cancel_left_eq, exists_eq_left', exists_eq_left, List.append_cancel_left_eq, List.take_length, ObCl, and_true, true_and, push_cast, Nat.reduceEqDiff, Nat.reduceBEq, Nat.reduceBNe, Nat.reduceAdd, Nat.reduceMul, Nat.reduceLT, Nat.reduceLeDiff, Nat.reduceSub, reduceCtorEq, Int.reduceToNat, ↓reduceIte], ?_⟩
    simp -implicitDefEqProofs only [tokSt, Int.natCast_add, Int.cast_ofNat_Int, List.length_nil, Nat.le_refl, WeakTo, tokSts, tokOks, List.append_cancel_left_eq, exists_eq_left', exists_eq_left, List.append_cancel_left_eq, List.take_length, ObCl, and_true, true_and, push_cast, Nat.reduceEqDiff, Nat.reduceBEq, Nat.reduceBNe, Nat.reduceAdd, Nat.reduceMul, Nat.reduceLT, Nat.reduceLeDiff, Nat.reduceSub, reduceCtorEq, Int.reduceToNat, ↓reduceIte]
    rfl
  · intro k hk
    have hmin : min k recs.length = k := by omega
    by_cases hlt : k < recs.length
    · obtain ⟨e1, e2⟩ := H.ent hlt
      have ht : recs.take (k + 1) = recs.take k ++ [recs.getD k []] := take_succ_getD recs [] hlt
      have hY := fun g => next_yes s (recs.getD k []) (offE recs k) k g hs (H.off_le k) (by omega) e1
      rw [← e2] at hY
      try simp -implicitDefEqProofs only [lenMax, hmin, push_cast, Nat.reduceEqDiff, Nat.reduceBEq, Nat.reduceBNe, Nat.reduceAdd, Nat.reduceMul, Nat.reduceLT, Nat.reduceLeDiff, Nat.reduceSub, reduceCtorEq, Int.reduceToNat, ↓reduceIte]
      repeat'
        (first
         | (refine uYes ?_; first | exact List.mem_cons_self | (simp only [List.mem_cons, List.not_mem_nil, or_false, true_or, or_true]; done))
         | (refine uNo (by kernel_rfl))
         | (refine flatMk ?_; kernel_rfl)
         | (refine And.intro ?_ ?_)
         | (intro hx)
         | ((first
             | (refine callGF ?_)
             | (refine callQGF ?_)
             | (refine skipG ?_)
             | (refine callS (hY _) ?_)
             | (refine callQ (hY _) ?_)
             | (refine callG (fun hc => (hY _)) ?_)
             | (refine callQG (fun hc => (hY _)) ?_)); simp -implicitDefEqProofs only [lenMax, hmin, push_cast, Nat.reduceEqDiff, Nat.reduceBEq, Nat.reduceBNe, Nat.reduceAdd, Nat.reduceMul, Nat.reduceLT, Nat.reduceLeDiff, Nat.reduceSub, reduceCtorEq, Int.reduceToNat, ↓reduceIte]))
      all_goals first
        | omega
        | (refine round_mk (k + 1) (by omega) (by omega) ?_
           simp -implicitDefEqProofs only [ht, List.map_append, Int.natCast_add, Int.cast_ofNat_Int, List.length_nil, Nat.le_refl, WeakTo, tokSts, tokOks, List.append_cancel_left_eq, exists_eq_left', exists_eq_left, List.append_cancel_left_eq, List.take_length, ObCl, and_true, true_and, push_cast, Nat.reduceEqDiff, Nat.reduceBEq, Nat.reduceBNe, Nat.reduceAdd, Nat.reduceMul, Nat.reduceLT, Nat.reduceLeDiff, Nat.reduceSub, reduceCtorEq, Int.reduceToNat, ↓reduceIte])
        | trace_state
    · obtain rfl : k = recs.length := by omega
      rw [offE_all] at hN
      try simp -implicitDefEqProofs only [lenMax, hmin, List.take_length, offE_all, push_cast, Nat.reduceEqDiff, Nat.reduceBEq, Nat.reduceBNe, Nat.reduceAdd, Nat.reduceMul, Nat.reduceLT, Nat.reduceLeDiff, Nat.reduceSub, reduceCtorEq, Int.reduceToNat, ↓reduceIte]
      repeat'
        (first
         | (refine uYes ?_; first | exact List.mem_cons_self | (simp only [List.mem_cons, List.not_mem_nil, or_false, true_or, or_true]; done))
         | (refine uNo (by kernel_rfl))
         | (refine flatMk ?_; kernel_rfl)
         | (refine And.intro ?_ ?_)
         | (intro hx)
         | ((first
             | (refine callGF ?_)
             | (refine callQGF ?_)
             | (refine skipG ?_)
             | (refine callS (hN _) ?_)
             | (refine callQ (hN _) ?_)
             | (refine callG (fun hc => (hN _)) ?_)
             | (refine callQG (fun hc => (hN _)) ?_)); simp -implicitDefEqProofs only [lenMax, hmin, List.take_length, offE_all, push_cast, Nat.reduceEqDiff, Nat.reduceBEq, Nat.reduceBNe, Nat.reduceAdd, Nat.reduceMul, Nat.reduceLT, Nat.reduceLeDiff, Nat.reduceSub, reduceCtorEq, Int.reduceToNat, ↓reduceIte]))
      all_goals first
        | omega
        | trace_state
theorem cut_at {c : UInt8} {a r : List UInt8} (ha : c ∉ a) : Lib.cut (a ++ c :: r) [c] = (a, r, true) := by
  rcases lib_cut c (a ++ c :: r) with ⟨h, _⟩ | ⟨a', r', e, ha', h⟩
  · exact absurd (List.mem_append_right a List.mem_cons_self) h
  · obtain ⟨e1, e2⟩ := cut_uniq e ha ha'
    rw [h, e1, e2]
theorem cut_le (c : UInt8) (s : List UInt8) : (Lib.cut s [c]).2.1.length ≤ s.length := by
  rcases lib_cut c s with ⟨_, e⟩ | ⟨a, r, e1, _, e⟩
  · rw [e]; exact Nat.zero_le _
  · rw [e]
    have := congrArg List.length e1
    rw [List.length_append, List.length_cons] at this
    show r.length ≤ _
    omega
/-- impl's records: a row of its own -/
theorem implLogReadR (s : List UInt8) (recs : List (List UInt8)) (h : Hp) (hs : s.length ≤ 2000000) (H : LogIs s recs) :
    Meets Tryd.prog 7 [.str s] h fun d' h' => d' = .tup [.vec h.length false 1 0 recs.length recs.length, .int .i64 (joinE 0 recs).length] ∧ h' = h ++ [.row (recs.map .str)] := by
  have hlen := H.len
  rw [← offE_all]
  refine meets_ofC [68] mixed Tryd.func7 rfl (by kernel_rfl) (by kernel_rfl) (by rw [Tryd.ntmps7]; simp only [List.length_cons, List.length_nil]; omega) (fun hf hcl => ?_)
  rw [Tryd.results7]
  clear hf
  try simp -implicitDefEqProofs only [lenMax, push_cast, Nat.reduceEqDiff, Nat.reduceBEq, Nat.reduceBNe, Nat.reduceAdd, Nat.reduceMul, Nat.reduceLT, Nat.reduceLeDiff, Nat.reduceSub, reduceCtorEq, Int.reduceToNat, ↓reduceIte]
  repeat'
    (first
     | (refine uYes ?_; first | exact List.mem_cons_self | (simp only [List.mem_cons, List.not_mem_nil, or_false, true_or, or_true]; done))
     | (refine uNo (by kernel_rfl))
     | (refine flatMk ?_; kernel_rfl)
     | (refine And.intro ?_ ?_)
     | (intro hx)
     | ((first
         | (refine callGF ?_)
         | (refine callQGF ?_)
         | (refine skipG ?_)
         | (refine callS (in_gives _ _ _ _) ?_)
         | (refine callQ (in_gives _ _ _ _) ?_)
         | (refine callG (fun hc => (in_gives _ _ _ _)) ?_)
         | (refine callQG (fun hc => (in_gives _ _ _ _)) ?_)); simp -implicitDefEqProofs only [lenMax, push_cast, Nat.reduceEqDiff, Nat.reduceBEq, Nat.reduceBNe, Nat.reduceAdd, Nat.reduceMul, Nat.reduceLT, Nat.reduceLeDiff, Nat.reduceSub, reduceCtorEq, Int.reduceToNat, ↓reduceIte]))
  all_goals try omega
  refine ev_loopV0 [(4, false, 1)] (fun k : Nat => [(0, .str s), (4, .vec h.length false 1 0 k k), (5, .int .i64 (offE recs k))])
    (fun k => [.row ((recs.take k).map .str)]) (fun k => k ≤ recs.length) (fun k => recs.length - k) 0 (Nat.zero_le _) ?_ ?_
  · simp -implicitDefEqProofs only [Int.natCast_add, Int.cast_ofNat_Int, List.length_nil, Nat.le_refl, WeakTo, tokSts, tokOks, List.append_cancel_left_eq, exists_eq_left', exists_eq_left, List.append_cancel_left_eq, List.take_length, ObCl, and_true, true_and, push_cast, Nat.reduceEqDiff, Nat.reduceBEq, Nat.reduceBNe, Nat.reduceAdd, Nat.reduceMul, Nat.reduceLT, Nat.reduceLeDiff, Nat.reduceSub, reduceCtorEq, Int.reduceToNat, ↓reduceIte]
    rfl
  · intro k hk
    have hmin : min k recs.length = k := by omega
    have hof := H.off_le k
    have hdl : (s.drop (offE recs k)).length = s.length - offE recs k := List.length_drop
    by_cases hlt : k < recs.length
    · obtain ⟨e1, e2⟩ := H.ent hlt
      have ht : recs.take (k + 1) = recs.take k ++ [recs.getD k []] := take_succ_getD recs [] hlt
      obtain ⟨r, hr⟩ : ∃ r, recs.getD k [] = r := ⟨_, rfl⟩
      rw [hr] at e1 e2 ht
      obtain ⟨tl, e3⟩ := ent_parse e1
      have hpl := e1.length_le
      have el := entryV_len k r
      have et := entT_len k r
      obtain ⟨rest, hre⟩ : ∃ rest, s.drop (offE recs k) = rest := ⟨_, rfl⟩
      rw [hre] at e1 e3 hdl hpl
      obtain ⟨bh, hbh⟩ : ∃ bh, Lib.itoa (r.length : Int) ++ 58 :: (r ++ tl) = bh := ⟨_, rfl⟩
      have e4 := congrArg List.length e3
      have e5 := congrArg List.length hbh
      simp only [List.length_append, List.length_cons] at e4 e5
      have hC1 := fun g => cut_gives rest 58 g (by omega)
      have hc1 : Lib.cut rest [58] = (Lib.itoa (k : Int), bh, true) := by rw [e3, ← hbh]; exact cut_at (itoa_no58 _)
      have hC2 := fun g => cut_gives bh 58 g (by omega)
      have hc2 : Lib.cut bh [58] = (Lib.itoa (r.length : Int), r ++ tl, true) := by rw [← hbh]; exact cut_at (itoa_no58 _)
      simp only [hc1] at hC1
      simp only [hc2] at hC2
      have hN := number_gives (Lib.itoa (r.length : Int))
      rw [numV_itoa (by omega) (by omega)] at hN
      have hE := fun g => entry_gives k r g (by omega) (by omega)
      have hP := fun g => prefix_gives rest (entryV k r) g
      have hpt : Lib.hasPrefix rest (entryV k r) = true := by
        rw [Lib.hasPrefix, List.isPrefixOf_iff_prefix]
        exact e1
      rw [hpt] at hP
      have hrt : List.take r.length (r ++ tl) = r := List.take_left
      have hin : inB (r.length : Int) 0 ((r.length : Int) + tl.length) = true := by
        simp [inB]
        omega
      have w1 : IntKind.i64.wrap ((offE recs k : Int) + (entryV k r).length) = offE recs (k + 1) := by
        rw [wrap_id (by omega) (by omega)]
        omega
      clear hpt
      have hst : s.take s.length = s := List.take_length
      try simp -implicitDefEqProofs only [hre, hst, hrt, hin, w1, hdl, lenMax, push_cast, Nat.reduceEqDiff, Nat.reduceBEq, Nat.reduceBNe, Nat.reduceAdd, Nat.reduceMul, Nat.reduceLT, Nat.reduceLeDiff, Nat.reduceSub, reduceCtorEq, Int.reduceToNat, ↓reduceIte]
      repeat'
        (first
         | (refine uYes ?_; first | exact List.mem_cons_self | (simp only [List.mem_cons, List.not_mem_nil, or_false, true_or, or_true]; done))
         | (refine uNo (by kernel_rfl))
         | (refine flatMk ?_; kernel_rfl)
         | (refine And.intro ?_ ?_)
         | (intro hx)
         | ((first
             | (refine callGF ?_)
             | (refine callQGF ?_)
             | (refine skipG ?_)
             | (refine callS (hC1 _) ?_)
             | (refine callQ (hC1 _) ?_)
             | (refine callG (fun hc => (hC1 _)) ?_)
             | (refine callQG (fun hc => (hC1 _)) ?_)
             | (refine callS (hC2 _) ?_)
             | (refine callQ (hC2 _) ?_)
             | (refine callG (fun hc => (hC2 _)) ?_)
             | (refine callQG (fun hc => (hC2 _)) ?_)
             | (refine callS (hN _) ?_)
             | (refine callQ (hN _) ?_)
             | (refine callG (fun hc => (hN _)) ?_)
             | (refine callQG (fun hc => (hN _)) ?_)
             | (refine callS (in_gives _ _ _ _) ?_)
             | (refine callQ (in_gives _ _ _ _) ?_)
             | (refine callG (fun hc => (in_gives _ _ _ _)) ?_)
             | (refine callQG (fun hc => (in_gives _ _ _ _)) ?_)
             | (refine callS (hE _) ?_)
             | (refine callQ (hE _) ?_)
             | (refine callG (fun hc => (hE _)) ?_)
             | (refine callQG (fun hc => (hE _)) ?_)
             | (refine callS (hP _) ?_)
             | (refine callQ (hP _) ?_)
             | (refine callG (fun hc => (hP _)) ?_)
             | (refine callQG (fun hc => (hP _)) ?_)); simp -implicitDefEqProofs only [hre, hst, hrt, hin, w1, hdl, lenMax, push_cast, Nat.reduceEqDiff, Nat.reduceBEq, Nat.reduceBNe, Nat.reduceAdd, Nat.reduceMul, Nat.reduceLT, Nat.reduceLeDiff, Nat.reduceSub, reduceCtorEq, Int.reduceToNat, ↓reduceIte]))
      all_goals first
        | omega
        | (exfalso; omega)
        | (refine round_mkC (k + 1) (by omega) (by omega) [] [.dead] [.row ((recs.take (k + 1)).map .str)] [.row ((recs.take (k + 1)).map .str)] ?_ rfl (by simp) hcl (fun x hx => nomatch hx) rfl (renOb_one (strs_ren _ _ _)) ?_
           · simp -implicitDefEqProofs only [ht, List.map_append, push_cast, Nat.reduceEqDiff, Nat.reduceBEq, Nat.reduceBNe, Nat.reduceAdd, Nat.reduceMul, Nat.reduceLT, Nat.reduceLeDiff, Nat.reduceSub, reduceCtorEq, Int.reduceToNat, ↓reduceIte]
           · simp -implicitDefEqProofs only [Int.natCast_add, Int.cast_ofNat_Int, List.length_nil, Nat.le_refl, WeakTo, tokSts, tokOks, List.append_cancel_left_eq, exists_eq_left', exists_eq_left, List.append_cancel_left_eq, List.take_length, ObCl, and_true, true_and, push_cast, Nat.reduceEqDiff, Nat.reduceBEq, Nat.reduceBNe, Nat.reduceAdd, Nat.reduceMul, Nat.reduceLT, Nat.reduceLeDiff, Nat.reduceSub, reduceCtorEq, Int.reduceToNat, ↓reduceIte]
             exact rw_vec (by omega) (by omega) (by omega) (by omega))
        | trace_state
    · obtain rfl : k = recs.length := by omega
      have hno := H.no
      obtain ⟨rest, hre⟩ : ∃ rest, s.drop (offE recs recs.length) = rest := ⟨_, rfl⟩
      rw [hre] at hdl hno
      have hst : s.take s.length = s := List.take_length
      have hC1 := fun g => cut_gives rest 58 g (by omega)
      have l1 := cut_le 58 rest
      generalize (Lib.cut rest [58]).1 = q1 at hC1
      generalize (Lib.cut rest [58]).2.2 = q3 at hC1
      generalize (Lib.cut rest [58]).2.1 = bh at hC1 l1
      have hC2 := fun g => cut_gives bh 58 g (by omega)
      have l2 := cut_le 58 bh
      generalize (Lib.cut bh [58]).1 = lg at hC2
      generalize (Lib.cut bh [58]).2.2 = q4 at hC2
      generalize (Lib.cut bh [58]).2.1 = bd at hC2 l2
      have hN := number_gives lg
      generalize (numV lg).1 = z at hN
      generalize (numV lg).2 = zc at hN
      have hI := fun g => in_gives z 0 bd.length g
      by_cases hz : inB z 0 bd.length = true
      · have hz2 : 0 ≤ z ∧ z ≤ bd.length := by simpa [inB] using hz
        obtain ⟨y, rfl⟩ := Int.eq_ofNat_of_zero_le hz2.1
        have hrl : (bd.take y).length = y := by rw [List.length_take]; omega
        obtain ⟨r, hr⟩ : ∃ r, bd.take y = r := ⟨_, rfl⟩
        rw [hr] at hrl
        have hE := fun g => entry_gives recs.length r g (by omega) (by omega)
        have hP := fun g => prefix_gives rest (entryV recs.length r) g
        have hpt : Lib.hasPrefix rest (entryV recs.length r) = false := by
          rw [Lib.hasPrefix]
          refine Bool.eq_false_iff.2 fun e => hno r (List.isPrefixOf_iff_prefix.1 e)
        rw [hpt] at hP
        rw [hz] at hI
        clear hpt
        try simp -implicitDefEqProofs only [hre, hst, hr, hdl, lenMax, hmin, List.take_length, push_cast, Nat.reduceEqDiff, Nat.reduceBEq, Nat.reduceBNe, Nat.reduceAdd, Nat.reduceMul, Nat.reduceLT, Nat.reduceLeDiff, Nat.reduceSub, reduceCtorEq, Int.reduceToNat, ↓reduceIte]
        repeat'
          (first
           | (refine uYes ?_; first | exact List.mem_cons_self | (simp only [List.mem_cons, List.not_mem_nil, or_false, true_or, or_true]; done))
           | (refine uNo (by kernel_rfl))
           | (refine flatMk ?_; kernel_rfl)
           | (refine And.intro ?_ ?_)
           | (intro hx)
           | ((first
               | (refine callGF ?_)
               | (refine callQGF ?_)
               | (refine skipG ?_)
               | (refine callS (hC1 _) ?_)
               | (refine callQ (hC1 _) ?_)
               | (refine callG (fun hc => (hC1 _)) ?_)
               | (refine callQG (fun hc => (hC1 _)) ?_)
               | (refine callS (hC2 _) ?_)
               | (refine callQ (hC2 _) ?_)
               | (refine callG (fun hc => (hC2 _)) ?_)
               | (refine callQG (fun hc => (hC2 _)) ?_)
               | (refine callS (hN _) ?_)
               | (refine callQ (hN _) ?_)
               | (refine callG (fun hc => (hN _)) ?_)
               | (refine callQG (fun hc => (hN _)) ?_)
               | (refine callS (hI _) ?_)
               | (refine callQ (hI _) ?_)
               | (refine callG (fun hc => (hI _)) ?_)
               | (refine callQG (fun hc => (hI _)) ?_)
               | (refine callS (hE _) ?_)
               | (refine callQ (hE _) ?_)
               | (refine callG (fun hc => (hE _)) ?_)
               | (refine callQG (fun hc => (hE _)) ?_)
               | (refine callS (hP _) ?_)
               | (refine callQ (hP _) ?_)
               | (refine callG (fun hc => (hP _)) ?_)
               | (refine callQG (fun hc => (hP _)) ?_)
               | (refine callS (sClipR _ _ _ _ (by simp) (Nat.le_refl _)) ?_)
               | (refine callQ (sClipR _ _ _ _ (by simp) (Nat.le_refl _)) ?_)
               | (refine callG (fun hc => (sClipR _ _ _ _ (by simp) (Nat.le_refl _))) ?_)
               | (refine callQG (fun hc => (sClipR _ _ _ _ (by simp) (Nat.le_refl _))) ?_)); simp -implicitDefEqProofs only [hre, hst, hr, hdl, lenMax, hmin, List.take_length, push_cast, Nat.reduceEqDiff, Nat.reduceBEq, Nat.reduceBNe, Nat.reduceAdd, Nat.reduceMul, Nat.reduceLT, Nat.reduceLeDiff, Nat.reduceSub, reduceCtorEq, Int.reduceToNat, ↓reduceIte]))
        all_goals first
          | omega
          | (exfalso; omega)
          | (obtain ⟨x, _, rfl⟩ := List.mem_map.1 hx; exact .str _)
          | trace_state
      · have hz : inB z 0 bd.length = false := by simpa using hz
        rw [hz] at hI
        try simp -implicitDefEqProofs only [hre, hst, hdl, lenMax, hmin, List.take_length, push_cast, Nat.reduceEqDiff, Nat.reduceBEq, Nat.reduceBNe, Nat.reduceAdd, Nat.reduceMul, Nat.reduceLT, Nat.reduceLeDiff, Nat.reduceSub, reduceCtorEq, Int.reduceToNat, ↓reduceIte]
        repeat'
          (first
           | (refine uYes ?_; first | exact List.mem_cons_self | (simp only [List.mem_cons, List.not_mem_nil, or_false, true_or, or_true]; done))
           | (refine uNo (by kernel_rfl))
           | (refine flatMk ?_; kernel_rfl)
           | (refine And.intro ?_ ?_)
           | (intro hx)
           | ((first
               | (refine callGF ?_)
               | (refine callQGF ?_)
               | (refine skipG ?_)
               | (refine callS (hC1 _) ?_)
               | (refine callQ (hC1 _) ?_)
               | (refine callG (fun hc => (hC1 _)) ?_)
               | (refine callQG (fun hc => (hC1 _)) ?_)
               | (refine callS (hC2 _) ?_)
               | (refine callQ (hC2 _) ?_)
               | (refine callG (fun hc => (hC2 _)) ?_)
               | (refine callQG (fun hc => (hC2 _)) ?_)
               | (refine callS (hN _) ?_)
               | (refine callQ (hN _) ?_)
               | (refine callG (fun hc => (hN _)) ?_)
               | (refine callQG (fun hc => (hN _)) ?_)
               | (refine callS (hI _) ?_)
               | (refine callQ (hI _) ?_)
               | (refine callG (fun hc => (hI _)) ?_)
               | (refine callQG (fun hc => (hI _)) ?_)
               | (refine callS (sClipR _ _ _ _ (by simp) (Nat.le_refl _)) ?_)
               | (refine callQ (sClipR _ _ _ _ (by simp) (Nat.le_refl _)) ?_)
               | (refine callG (fun hc => (sClipR _ _ _ _ (by simp) (Nat.le_refl _))) ?_)
               | (refine callQG (fun hc => (sClipR _ _ _ _ (by simp) (Nat.le_refl _))) ?_)); simp -implicitDefEqProofs only [hre, hst, hdl, lenMax, hmin, List.take_length, push_cast, Nat.reduceEqDiff, Nat.reduceBEq, Nat.reduceBNe, Nat.reduceAdd, Nat.reduceMul, Nat.reduceLT, Nat.reduceLeDiff, Nat.reduceSub, reduceCtorEq, Int.reduceToNat, ↓reduceIte]))
        all_goals first
          | omega
          | (exfalso; omega)
          | (obtain ⟨x, _, rfl⟩ := List.mem_map.1 hx; exact .str _)
          | trace_state
theorem implLogRead_gives (s : List UInt8) (recs : List (List UInt8)) (h : Hp) (hs : s.length ≤ 2000000) (H : LogIs s recs) : Gives Tryd.prog 7 [.str s] h (.tup [.slice (recs.map .str) .no, .int .i64 (joinE 0 recs).length]) := by
  refine Meets.freeze (implLogReadR s recs h hs H) ((fw_tup _ _ _ _).2 ⟨fw_strs (Nat.le_refl _) (ob_app0 _ _) rfl, fw_refl _ _ _, trivial⟩) (.tup _ fun c hc => ?_)
  simp only [List.mem_cons, List.not_mem_nil, or_false] at hc
  rcases hc with rfl | rfl
  · exact .slice _ _ (fun _ _ e => nomatch e)
  · exact .int _ _
end Go.Proofs.YtcmpcpigchlhpaaDoor

/- Logs: ok, added to, on both sides. -/
namespace Go.Proofs.YtcmpcpigchlhpaaDoor
set_option linter.unusedSectionVars false
open Go.Av
variable [Av.Start] [TabSha] [TabBits] [TabPow] [TabErr] [TabMax]
set_option maxRecDepth 10000
set_option maxHeartbeats 2000000
set_option linter.unusedSimpArgs false
set_option linter.unusedVariables false

def logOkB (s : List UInt8) (recs : List (List UInt8)) : Bool := decide ((joinE 0 recs).length = s.length) && decide (s.length ≤ 9000)
theorem specLogOk_gives (s : List UInt8) (recs : List (List UInt8)) (h : Hp) (hs : s.length ≤ 2000000) (H : LogIs s recs) : Gives Tryd.prog 15 [.str s] h (.bool (logOkB s recs)) := by
  have hR := fun g => specLogRead_gives s recs g hs H
  have hle := H.pre.length_le
  rw [logOkB]
  generalize (joinE 0 recs).length = n at hR hle
  refine meets_of [] mixed Tryd.func15 rfl (by kernel_rfl) (by kernel_rfl) (by rw [Tryd.ntmps15]; simp only [List.length_cons, List.length_nil]; omega) (fun hf => ?_)
  rw [Tryd.results15]
  clear hf
  by_cases c : n = s.length
  · subst c
    try simp -implicitDefEqProofs only [push_cast, Nat.reduceEqDiff, Nat.reduceBEq, Nat.reduceBNe, Nat.reduceAdd, Nat.reduceMul, Nat.reduceLT, Nat.reduceLeDiff, Nat.reduceSub, reduceCtorEq, Int.reduceToNat, ↓reduceIte]
    repeat'
      (first
       | (refine uYes ?_; first | exact List.mem_cons_self | (simp only [List.mem_cons, List.not_mem_nil, or_false, true_or, or_true]; done))
       | (refine uNo (by kernel_rfl))
       | (refine flatMk ?_; kernel_rfl)
       | (refine And.intro ?_ ?_)
       | (intro hx)
       | ((first
           | (refine callGF ?_)
           | (refine callQGF ?_)
           | (refine skipG ?_)
           | (refine callS (hR _) ?_)
           | (refine callQ (hR _) ?_)
           | (refine callG (fun hc => (hR _)) ?_)
           | (refine callQG (fun hc => (hR _)) ?_)); simp -implicitDefEqProofs only [push_cast, Nat.reduceEqDiff, Nat.reduceBEq, Nat.reduceBNe, Nat.reduceAdd, Nat.reduceMul, Nat.reduceLT, Nat.reduceLeDiff, Nat.reduceSub, reduceCtorEq, Int.reduceToNat, ↓reduceIte]))
    all_goals first
      | omega
      | (exfalso; omega)
      | (simp; done)
      | (simp; omega)
      | trace_state
  · have c1 : ¬ (n : Int) = s.length := by omega
    try simp -implicitDefEqProofs only [c, c1, push_cast, Nat.reduceEqDiff, Nat.reduceBEq, Nat.reduceBNe, Nat.reduceAdd, Nat.reduceMul, Nat.reduceLT, Nat.reduceLeDiff, Nat.reduceSub, reduceCtorEq, Int.reduceToNat, ↓reduceIte]
    repeat'
      (first
       | (refine uYes ?_; first | exact List.mem_cons_self | (simp only [List.mem_cons, List.not_mem_nil, or_false, true_or, or_true]; done))
       | (refine uNo (by kernel_rfl))
       | (refine flatMk ?_; kernel_rfl)
       | (refine And.intro ?_ ?_)
       | (intro hx)
       | ((first
           | (refine callGF ?_)
           | (refine callQGF ?_)
           | (refine skipG ?_)
           | (refine callS (hR _) ?_)
           | (refine callQ (hR _) ?_)
           | (refine callG (fun hc => (hR _)) ?_)
           | (refine callQG (fun hc => (hR _)) ?_)); simp -implicitDefEqProofs only [c, c1, push_cast, Nat.reduceEqDiff, Nat.reduceBEq, Nat.reduceBNe, Nat.reduceAdd, Nat.reduceMul, Nat.reduceLT, Nat.reduceLeDiff, Nat.reduceSub, reduceCtorEq, Int.reduceToNat, ↓reduceIte]))
    all_goals first
      | omega
      | (exfalso; omega)
      | (simp; done)
      | (simp; omega)
      | trace_state
theorem implLogOk_gives (s : List UInt8) (recs : List (List UInt8)) (h : Hp) (hs : s.length ≤ 2000000) (H : LogIs s recs) : Gives Tryd.prog 14 [.str s] h (.bool (logOkB s recs)) := by
  have hR := fun g => implLogRead_gives s recs g hs H
  have hle := H.pre.length_le
  rw [logOkB]
  generalize (joinE 0 recs).length = n at hR hle
  refine meets_of [] mixed Tryd.func14 rfl (by kernel_rfl) (by kernel_rfl) (by rw [Tryd.ntmps14]; simp only [List.length_cons, List.length_nil]; omega) (fun hf => ?_)
  rw [Tryd.results14]
  clear hf
  by_cases c : n = s.length
  · subst c
    try simp -implicitDefEqProofs only [push_cast, Nat.reduceEqDiff, Nat.reduceBEq, Nat.reduceBNe, Nat.reduceAdd, Nat.reduceMul, Nat.reduceLT, Nat.reduceLeDiff, Nat.reduceSub, reduceCtorEq, Int.reduceToNat, ↓reduceIte]
    repeat'
      (first
       | (refine uYes ?_; first | exact List.mem_cons_self | (simp only [List.mem_cons, List.not_mem_nil, or_false, true_or, or_true]; done))
       | (refine uNo (by kernel_rfl))
       | (refine flatMk ?_; kernel_rfl)
       | (refine And.intro ?_ ?_)
       | (intro hx)
       | ((first
           | (refine callGF ?_)
           | (refine callQGF ?_)
           | (refine skipG ?_)
           | (refine callS (hR _) ?_)
           | (refine callQ (hR _) ?_)
           | (refine callG (fun hc => (hR _)) ?_)
           | (refine callQG (fun hc => (hR _)) ?_)); simp -implicitDefEqProofs only [push_cast, Nat.reduceEqDiff, Nat.reduceBEq, Nat.reduceBNe, Nat.reduceAdd, Nat.reduceMul, Nat.reduceLT, Nat.reduceLeDiff, Nat.reduceSub, reduceCtorEq, Int.reduceToNat, ↓reduceIte]))
    all_goals first
      | omega
      | (exfalso; omega)
      | (simp; done)
      | (simp; omega)
      | trace_state
  · have c1 : ¬ (n : Int) = s.length := by omega
    try simp -implicitDefEqProofs only [c, c1, push_cast, Nat.reduceEqDiff, Nat.reduceBEq, Nat.reduceBNe, Nat.reduceAdd, Nat.reduceMul, Nat.reduceLT, Nat.reduceLeDiff, Nat.reduceSub, reduceCtorEq, Int.reduceToNat, ↓reduceIte]
    repeat'
      (first
       | (refine uYes ?_; first | exact List.mem_cons_self | (simp only [List.mem_cons, List.not_mem_nil, or_false, true_or, or_true]; done))
       | (refine uNo (by kernel_rfl))
       | (refine flatMk ?_; kernel_rfl)
       | (refine And.intro ?_ ?_)
       | (intro hx)
       | ((first
           | (refine callGF ?_)
           | (refine callQGF ?_)
           | (refine skipG ?_)
           | (refine callS (hR _) ?_)
           | (refine callQ (hR _) ?_)
           | (refine callG (fun hc => (hR _)) ?_)
           | (refine callQG (fun hc => (hR _)) ?_)); simp -implicitDefEqProofs only [c, c1, push_cast, Nat.reduceEqDiff, Nat.reduceBEq, Nat.reduceBNe, Nat.reduceAdd, Nat.reduceMul, Nat.reduceLT, Nat.reduceLeDiff, Nat.reduceSub, reduceCtorEq, Int.reduceToNat, ↓reduceIte]))
    all_goals first
      | omega
      | (exfalso; omega)
      | (simp; done)
      | (simp; omega)
      | trace_state
def addV (s : List UInt8) (recs : List (List UInt8)) (r : List UInt8) : List UInt8 × Bool :=
  if (joinE 0 recs).length = s.length ∧ (s ++ entryV recs.length r).length ≤ 9000 then (s ++ entryV recs.length r, true) else (s, false)
theorem specLogAdd_gives (s r : List UInt8) (recs : List (List UInt8)) (h : Hp) (hs : s.length ≤ 2000000) (hr : r.length ≤ 2000000) (H : LogIs s recs) : Gives Tryd.prog 13 [.str s, .str r] h (.tup [.str (addV s recs r).1, .bool (addV s recs r).2]) := by
  have hR := fun g => specLogRead_gives s recs g hs H
  have hle := H.pre.length_le
  have hrl := H.len
  have hE := fun g => frame_gives recs.length r g (by omega) (by omega)
  have el := entryV_len recs.length r
  have et := entT_len recs.length r
  have i1 := dec_len21 recs.length (by omega)
  have i2 := dec_len21 r.length (by omega)
  rw [addV, List.length_append]
  generalize (joinE 0 recs).length = n at hR hle
  generalize entryV recs.length r = f at hE el
  have hfl : f.length ≤ 2000100 := by omega
  refine meets_of [] mixed Tryd.func13 rfl (by kernel_rfl) (by kernel_rfl) (by rw [Tryd.ntmps13]; simp only [List.length_cons, List.length_nil]; omega) (fun hf => ?_)
  rw [Tryd.results13]
  clear hf
  by_cases c : n = s.length ∧ s.length + f.length ≤ 9000
  · obtain ⟨rfl, c2⟩ := c
    have c3 : ¬ (9000 : Int) < s.length + f.length := by omega
    rw [if_pos ⟨rfl, c2⟩]
    try simp -implicitDefEqProofs only [c3, push_cast, Nat.reduceEqDiff, Nat.reduceBEq, Nat.reduceBNe, Nat.reduceAdd, Nat.reduceMul, Nat.reduceLT, Nat.reduceLeDiff, Nat.reduceSub, reduceCtorEq, Int.reduceToNat, ↓reduceIte]
    repeat'
      (first
       | (refine uYes ?_; first | exact List.mem_cons_self | (simp only [List.mem_cons, List.not_mem_nil, or_false, true_or, or_true]; done))
       | (refine uNo (by kernel_rfl))
       | (refine flatMk ?_; kernel_rfl)
       | (refine And.intro ?_ ?_)
       | (intro hx)
       | ((first
           | (refine callGF ?_)
           | (refine callQGF ?_)
           | (refine skipG ?_)
           | (refine callS (hR _) ?_)
           | (refine callQ (hR _) ?_)
           | (refine callG (fun hc => (hR _)) ?_)
           | (refine callQG (fun hc => (hR _)) ?_)
           | (refine callS (hE _) ?_)
           | (refine callQ (hE _) ?_)
           | (refine callG (fun hc => (hE _)) ?_)
           | (refine callQG (fun hc => (hE _)) ?_)); simp -implicitDefEqProofs only [c3, push_cast, Nat.reduceEqDiff, Nat.reduceBEq, Nat.reduceBNe, Nat.reduceAdd, Nat.reduceMul, Nat.reduceLT, Nat.reduceLeDiff, Nat.reduceSub, reduceCtorEq, Int.reduceToNat, ↓reduceIte]))
    all_goals first
      | omega
      | (simp only [lenMax]; omega)
      | (exfalso; omega)
      | (simp; done)
      | (simp; omega)
      | trace_state
  · rw [if_neg c]
    try simp -implicitDefEqProofs only [push_cast, Nat.reduceEqDiff, Nat.reduceBEq, Nat.reduceBNe, Nat.reduceAdd, Nat.reduceMul, Nat.reduceLT, Nat.reduceLeDiff, Nat.reduceSub, reduceCtorEq, Int.reduceToNat, ↓reduceIte]
    repeat'
      (first
       | (refine uYes ?_; first | exact List.mem_cons_self | (simp only [List.mem_cons, List.not_mem_nil, or_false, true_or, or_true]; done))
       | (refine uNo (by kernel_rfl))
       | (refine flatMk ?_; kernel_rfl)
       | (refine And.intro ?_ ?_)
       | (intro hx)
       | ((first
           | (refine callGF ?_)
           | (refine callQGF ?_)
           | (refine skipG ?_)
           | (refine callS (hR _) ?_)
           | (refine callQ (hR _) ?_)
           | (refine callG (fun hc => (hR _)) ?_)
           | (refine callQG (fun hc => (hR _)) ?_)
           | (refine callS (hE _) ?_)
           | (refine callQ (hE _) ?_)
           | (refine callG (fun hc => (hE _)) ?_)
           | (refine callQG (fun hc => (hE _)) ?_)); simp -implicitDefEqProofs only [push_cast, Nat.reduceEqDiff, Nat.reduceBEq, Nat.reduceBNe, Nat.reduceAdd, Nat.reduceMul, Nat.reduceLT, Nat.reduceLeDiff, Nat.reduceSub, reduceCtorEq, Int.reduceToNat, ↓reduceIte]))
    all_goals first
      | omega
      | (simp only [lenMax]; omega)
      | (exfalso; omega)
      | (simp; done)
      | (simp; omega)
      | trace_state
theorem implLogAdd_gives (s r : List UInt8) (recs : List (List UInt8)) (h : Hp) (hs : s.length ≤ 2000000) (hr : r.length ≤ 2000000) (H : LogIs s recs) : Gives Tryd.prog 12 [.str s, .str r] h (.tup [.str (addV s recs r).1, .bool (addV s recs r).2]) := by
  have hR := fun g => implLogRead_gives s recs g hs H
  have hle := H.pre.length_le
  have hrl := H.len
  have hE := fun g => entry_gives recs.length r g (by omega) (by omega)
  have el := entryV_len recs.length r
  have et := entT_len recs.length r
  have i1 := dec_len21 recs.length (by omega)
  have i2 := dec_len21 r.length (by omega)
  rw [addV, List.length_append]
  generalize (joinE 0 recs).length = n at hR hle
  generalize entryV recs.length r = f at hE el
  have hfl : f.length ≤ 2000100 := by omega
  have w1 : IntKind.i64.wrap ((s.length : Int) + f.length) = s.length + f.length := wrap_id (by omega) (by omega)
  refine meets_of [] mixed Tryd.func12 rfl (by kernel_rfl) (by kernel_rfl) (by rw [Tryd.ntmps12]; simp only [List.length_cons, List.length_nil]; omega) (fun hf => ?_)
  rw [Tryd.results12]
  clear hf
  by_cases c : n = s.length ∧ s.length + f.length ≤ 9000
  · obtain ⟨rfl, c2⟩ := c
    have c3 : ¬ (9000 : Int) < s.length + f.length := by omega
    rw [if_pos ⟨rfl, c2⟩]
    try simp -implicitDefEqProofs only [c3, w1, push_cast, Nat.reduceEqDiff, Nat.reduceBEq, Nat.reduceBNe, Nat.reduceAdd, Nat.reduceMul, Nat.reduceLT, Nat.reduceLeDiff, Nat.reduceSub, reduceCtorEq, Int.reduceToNat, ↓reduceIte]
    repeat'
      (first
       | (refine uYes ?_; first | exact List.mem_cons_self | (simp only [List.mem_cons, List.not_mem_nil, or_false, true_or, or_true]; done))
       | (refine uNo (by kernel_rfl))
       | (refine flatMk ?_; kernel_rfl)
       | (refine And.intro ?_ ?_)
       | (intro hx)
       | ((first
           | (refine callGF ?_)
           | (refine callQGF ?_)
           | (refine skipG ?_)
           | (refine callS (hR _) ?_)
           | (refine callQ (hR _) ?_)
           | (refine callG (fun hc => (hR _)) ?_)
           | (refine callQG (fun hc => (hR _)) ?_)
           | (refine callS (hE _) ?_)
           | (refine callQ (hE _) ?_)
           | (refine callG (fun hc => (hE _)) ?_)
           | (refine callQG (fun hc => (hE _)) ?_)); simp -implicitDefEqProofs only [c3, w1, push_cast, Nat.reduceEqDiff, Nat.reduceBEq, Nat.reduceBNe, Nat.reduceAdd, Nat.reduceMul, Nat.reduceLT, Nat.reduceLeDiff, Nat.reduceSub, reduceCtorEq, Int.reduceToNat, ↓reduceIte]))
    all_goals first
      | omega
      | (simp only [lenMax]; omega)
      | (exfalso; omega)
      | (simp; done)
      | (simp; omega)
      | trace_state
  · rw [if_neg c]
    try simp -implicitDefEqProofs only [w1, push_cast, Nat.reduceEqDiff, Nat.reduceBEq, Nat.reduceBNe, Nat.reduceAdd, Nat.reduceMul, Nat.reduceLT, Nat.reduceLeDiff, Nat.reduceSub, reduceCtorEq, Int.reduceToNat, ↓reduceIte]
    repeat'
      (first
       | (refine uYes ?_; first | exact List.mem_cons_self | (simp only [List.mem_cons, List.not_mem_nil, or_false, true_or, or_true]; done))
       | (refine uNo (by kernel_rfl))
       | (refine flatMk ?_; kernel_rfl)
       | (refine And.intro ?_ ?_)
       | (intro hx)
       | ((first
           | (refine callGF ?_)
           | (refine callQGF ?_)
           | (refine skipG ?_)
           | (refine callS (hR _) ?_)
           | (refine callQ (hR _) ?_)
           | (refine callG (fun hc => (hR _)) ?_)
           | (refine callQG (fun hc => (hR _)) ?_)
           | (refine callS (hE _) ?_)
           | (refine callQ (hE _) ?_)
           | (refine callG (fun hc => (hE _)) ?_)
           | (refine callQG (fun hc => (hE _)) ?_)); simp -implicitDefEqProofs only [w1, push_cast, Nat.reduceEqDiff, Nat.reduceBEq, Nat.reduceBNe, Nat.reduceAdd, Nat.reduceMul, Nat.reduceLT, Nat.reduceLeDiff, Nat.reduceSub, reduceCtorEq, Int.reduceToNat, ↓reduceIte]))
    all_goals first
      | omega
      | (simp only [lenMax]; omega)
      | (exfalso; omega)
      | (simp; done)
      | (simp; omega)
      | trace_state
end Go.Proofs.YtcmpcpigchlhpaaDoor

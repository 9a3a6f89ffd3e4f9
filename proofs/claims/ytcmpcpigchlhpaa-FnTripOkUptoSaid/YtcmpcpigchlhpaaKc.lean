/- The reference on rules: their texts. -/
import Derived.Test.YtcmpcpigchlhpaaKb

namespace Go.Proofs.Ytcmpcpigchlhpaa
set_option linter.unusedSectionVars false
open Go.Av
variable [Av.Start]
set_option maxRecDepth 10000
set_option maxHeartbeats 2000000
set_option linter.unusedSimpArgs false
set_option linter.unusedVariables false

def wordsR : List (List UInt8) := [[], [], [], [97, 100, 100], [115, 117, 98], [109, 117, 108], [112, 97, 114, 116], [109, 105, 110], [109, 97, 120], [105, 102], [116, 105, 101, 114, 115]]
omit [Av.Start] in
theorem wordsR_len (k : Nat) (hk : k < 11) : (wordsR.getD k []).length ≤ 5 := by
  match k, hk with
  | 0, _ | 1, _ | 2, _ | 3, _ | 4, _ | 5, _ | 6, _ | 7, _ | 8, _ | 9, _ | 10, _ => decide
theorem l4Words_gives (h : Hp) : Gives Try.prog 97 [] h (.slice (wordsR.map .str) .no) := by
  have e : ∀ n : Nat, n ≤ 5 → (n ≤ lenMax) = True := fun n hn => eq_true (by simp only [lenMax]; omega)
  have e0 := e 0 (by omega)
  have e2 := e 2 (by omega)
  have e3 := e 3 (by omega)
  have e4 := e 4 (by omega)
  have e5 := e 5 (by omega)
  rw [wordsR]
  refine meets_of [] mixed Try.func97 rfl (by kernel_rfl) (by kernel_rfl) (by rw [Try.ntmps97]; simp only [List.length_cons, List.length_nil]; omega) (fun hf => ?_)
  rw [Try.results97]
  clear hf
  try simp -implicitDefEqProofs only [e0, e2, e3, e4, e5, push_cast, Nat.reduceEqDiff, Nat.reduceBEq, Nat.reduceBNe, Nat.reduceAdd, Nat.reduceMul, Nat.reduceLT, Nat.reduceLeDiff, Nat.reduceSub, reduceCtorEq, Int.reduceToNat, ↓reduceIte]
  repeat'
    (first
     | (refine uYes ?_; first | exact List.mem_cons_self | (simp only [List.mem_cons, List.not_mem_nil, or_false, true_or, or_true]; done))
     | (refine uNo (by kernel_rfl))
     | (refine flatMk ?_; kernel_rfl)
     | (refine And.intro ?_ ?_)
     | (intro hx)
     | ((first
         | (refine callGF ?_)
         | (refine callQGF ?_)
         | (refine skipG ?_)
         | (refine callS (in_gives _ _ _ _) ?_)
         | (refine callQ (in_gives _ _ _ _) ?_)
         | (refine callG (fun hc => (in_gives _ _ _ _)) ?_)
         | (refine callQG (fun hc => (in_gives _ _ _ _)) ?_)); simp -implicitDefEqProofs only [e0, e2, e3, e4, e5, push_cast, Nat.reduceEqDiff, Nat.reduceBEq, Nat.reduceBNe, Nat.reduceAdd, Nat.reduceMul, Nat.reduceLT, Nat.reduceLeDiff, Nat.reduceSub, reduceCtorEq, Int.reduceToNat, ↓reduceIte]))
  all_goals first
    | omega
    | (simp only [lenMax]; omega)
    | trace_state
def kdT (W : D → List UInt8) (ks : List D) (b : List UInt8) : Nat → List UInt8
  | 0 => b
  | i + 1 => (kdT W ks b i ++ if i = 0 then [] else [44]) ++ W (ks.getD i .junk)
def mkTx (ms : List Mrk) (b : List UInt8) : Nat → List UInt8
  | 0 => b
  | i + 1 => (((mkTx ms b i ++ if i = 0 then [59] else [44]) ++ Lib.itoa (ms.getD i default).at_) ++ [58]) ++ Lib.itoa (ms.getD i default).price
omit [Av.Start] in
theorem kdT_len {W : D → List UInt8} {ks : List D} {b : List UInt8} {B : Nat} (hW : ∀ i, i < ks.length → (W (ks.getD i .junk)).length ≤ B) : ∀ i, i ≤ ks.length → (kdT W ks b i).length ≤ b.length + i * (B + 1)
  | 0, _ => by simp [kdT]
  | i + 1, h => by
    have h1 := kdT_len (b := b) hW i (by omega)
    have h2 := hW i (by omega)
    rw [kdT, List.length_append, List.length_append, Nat.succ_mul]
    split <;> simp only [List.length_cons, List.length_nil] <;> omega
omit [Av.Start] in
theorem mkTx_len {ms : List Mrk} {b : List UInt8} (H : ∀ i, i < ms.length → 0 ≤ (ms.getD i default).at_ ∧ (ms.getD i default).at_ ≤ 1000 ∧ 0 ≤ (ms.getD i default).price ∧ (ms.getD i default).price ≤ 1000000) : ∀ i, i ≤ ms.length → (mkTx ms b i).length ≤ b.length + i * 44
  | 0, _ => by simp [mkTx]
  | i + 1, h => by
    have h1 := mkTx_len (b := b) H i (by omega)
    have h2 := H i (by omega)
    have l1 := Lib.itoa_length_le (ms.getD i default).at_ (by omega) (by omega)
    have l2 := Lib.itoa_length_le (ms.getD i default).price (by omega) (by omega)
    rw [mkTx, List.length_append, List.length_append, List.length_append, List.length_append, Nat.succ_mul]
    split <;> simp only [List.length_cons, List.length_nil] <;> omega
theorem write_leaf {n : Nat} {op num : Int} {name : List UInt8} (kids : List D) (ms : List Mrk) (H : RuleP n op num name kids ms) (h : Hp) (ho : op = 1 ∨ op = 2) : Gives Try.prog 82 [ruD op num name kids ms] h (.str (if op = 1 then Lib.itoa num else name)) := by
  have hnum := H.num
  have hname := H.name
  rw [ruD]
  rcases ho with rfl | rfl
  · have hN := fun g => l1DecP_gives num g (by omega) (by omega)
    refine meets_of [] mixed Try.func82 rfl (by kernel_rfl) (by kernel_rfl) (by rw [Try.ntmps82]; simp only [List.length_cons, List.length_nil]; omega) (fun hf => ?_)
    rw [Try.results82]
    clear hf
    try simp -implicitDefEqProofs only [push_cast, Nat.reduceEqDiff, Nat.reduceBEq, Nat.reduceBNe, Nat.reduceAdd, Nat.reduceMul, Nat.reduceLT, Nat.reduceLeDiff, Nat.reduceSub, reduceCtorEq, Int.reduceToNat, ↓reduceIte]
    repeat'
      (first
       | (refine uYes ?_; first | exact List.mem_cons_self | (simp only [List.mem_cons, List.not_mem_nil, or_false, true_or, or_true]; done))
       | (refine uNo (by kernel_rfl))
       | (refine flatMk ?_; kernel_rfl)
       | (refine And.intro ?_ ?_)
       | (intro hx)
       | ((first
           | (refine callGF ?_)
           | (refine callQGF ?_)
           | (refine skipG ?_)
           | (refine callS (hN _) ?_)
           | (refine callQ (hN _) ?_)
           | (refine callG (fun hc => (hN _)) ?_)
           | (refine callQG (fun hc => (hN _)) ?_)); simp -implicitDefEqProofs only [push_cast, Nat.reduceEqDiff, Nat.reduceBEq, Nat.reduceBNe, Nat.reduceAdd, Nat.reduceMul, Nat.reduceLT, Nat.reduceLeDiff, Nat.reduceSub, reduceCtorEq, Int.reduceToNat, ↓reduceIte]))
    all_goals first
      | omega
      | trace_state
  · refine meets_of [] mixed Try.func82 rfl (by kernel_rfl) (by kernel_rfl) (by rw [Try.ntmps82]; simp only [List.length_cons, List.length_nil]; omega) (fun hf => ?_)
    rw [Try.results82]
    clear hf
    try simp -implicitDefEqProofs only [push_cast, Nat.reduceEqDiff, Nat.reduceBEq, Nat.reduceBNe, Nat.reduceAdd, Nat.reduceMul, Nat.reduceLT, Nat.reduceLeDiff, Nat.reduceSub, reduceCtorEq, Int.reduceToNat, ↓reduceIte]
    repeat'
      (first
       | (refine uYes ?_; first | exact List.mem_cons_self | (simp only [List.mem_cons, List.not_mem_nil, or_false, true_or, or_true]; done))
       | (refine uNo (by kernel_rfl))
       | (refine flatMk ?_; kernel_rfl)
       | (refine And.intro ?_ ?_)
       | (intro hx)
       | ((first
           | (refine callGF ?_)
           | (refine callQGF ?_)
           | (refine skipG ?_)
           | (refine callS (in_gives _ _ _ _) ?_)
           | (refine callQ (in_gives _ _ _ _) ?_)
           | (refine callG (fun hc => (in_gives _ _ _ _)) ?_)
           | (refine callQG (fun hc => (in_gives _ _ _ _)) ?_)); simp -implicitDefEqProofs only [push_cast, Nat.reduceEqDiff, Nat.reduceBEq, Nat.reduceBNe, Nat.reduceAdd, Nat.reduceMul, Nat.reduceLT, Nat.reduceLeDiff, Nat.reduceSub, reduceCtorEq, Int.reduceToNat, ↓reduceIte]))
    all_goals first
      | omega
      | rfl
      | trace_state
theorem write_ex : ∀ (n : Nat) (d : D), n ≤ 6 → RuleD n d → ∃ s : List UInt8, s.length ≤ 400 * 5 ^ n ∧ ∀ h, Gives Try.prog 82 [d] h (.str s)
  | n, d, hn6, HD => by
    obtain ⟨op, num, name, kids, ms, rfl, H⟩ := HD.p
    have h1 := H.lo
    have h2 := H.hi
    have h5 : 1 ≤ 5 ^ n := Nat.one_le_pow _ _ (by omega)
    by_cases ho : op = 1 ∨ op = 2
    · refine ⟨_, ?_, fun h => write_leaf kids ms H h ho⟩
      have hl := Lib.itoa_length_le num (by have := H.num; omega) (by have := H.num; omega)
      have hn : name.length ≤ 8 := by
        rcases H.name with ⟨_, _, e⟩ | ⟨_, e⟩
        · exact e
        · rw [e]; simp
      split <;> omega
    · -- the texts of the kids
      have hkl : kids.length ≤ 4 := by rw [H.klen]; exact kidsN_le op
      have hkp : 0 < kids.length := by
        rw [H.klen, kidsN, if_neg ho]
        repeat' split
        all_goals omega
      obtain ⟨m, rfl⟩ : ∃ m, n = m + 1 := by
        obtain ⟨m, e, _⟩ := H.kid hkp
        exact ⟨m, e⟩
      obtain ⟨W, hW⟩ : ∃ W : D → List UInt8, ∀ k, k ∈ kids → (W k).length ≤ 400 * 5 ^ m ∧ ∀ h, Gives Try.prog 82 [k] h (.str (W k)) := by
        have key : ∀ k : D, ∃ s : List UInt8, k ∈ kids → s.length ≤ 400 * 5 ^ m ∧ ∀ h, Gives Try.prog 82 [k] h (.str s) := fun k => by
          by_cases hk : k ∈ kids
          · obtain ⟨m', e, hd⟩ := H.sub k hk
            obtain rfl : m' = m := by omega
            obtain ⟨s, s1, s2⟩ := write_ex m' k (by omega) hd
            exact ⟨s, fun _ => ⟨s1, s2⟩⟩
          · exact ⟨[], fun e => absurd e hk⟩
        exact ⟨fun k => Classical.choose (key k), fun k => Classical.choose_spec (key k)⟩
      have hmem : ∀ i, i < kids.length → kids.getD i .junk ∈ kids := fun i hi => by
        rw [List.getD_eq_getElem?_getD, List.getElem?_eq_getElem hi]
        exact List.getElem_mem hi
      have hms4 : ms.length ≤ 4 := by
        by_cases e : op = 10
        · exact (H.ms e).len.2
        · rw [H.no e]; simp
      have hmn : ∀ i, i < ms.length → 0 ≤ (ms.getD i default).at_ ∧ (ms.getD i default).at_ ≤ 1000 ∧ 0 ≤ (ms.getD i default).price ∧ (ms.getD i default).price ≤ 1000000 := fun i hi => by
        by_cases e : op = 10
        · exact (H.ms e).num i hi
        · rw [H.no e] at hi; simp at hi
      obtain ⟨o, ho'⟩ : ∃ o : Nat, op = o := ⟨op.toNat, by omega⟩
      have hbl := wordsR_len o (by omega)
      generalize hB : 400 * 5 ^ m = B at hW
      have h5B : 400 * 5 ^ (m + 1) = 5 * B := by rw [Nat.pow_succ]; omega
      have hB6 : 400 ≤ B ∧ B ≤ 1250000 := by
        have h1 : 1 ≤ 5 ^ m := Nat.one_le_pow _ _ (by omega)
        have h2 : 5 ^ m ≤ 5 ^ 5 := Nat.pow_le_pow_right (by omega) (by omega)
        have h3 : (5 : Nat) ^ 5 = 3125 := by decide
        omega
      rw [h5B]
      have hk1 := fun i hi => kdT_len (b := wordsR.getD o [] ++ [40]) (fun i hi => (hW _ (hmem i hi)).1) i hi
      have hkB : ∀ i, i ≤ kids.length → (kdT W kids (wordsR.getD o [] ++ [40]) i).length ≤ 6 + 4 * (B + 1) := fun i hi => by
        have a := hk1 i hi
        have b : i * (B + 1) ≤ 4 * (B + 1) := Nat.mul_le_mul_right _ (by omega)
        rw [List.length_append, List.length_singleton] at a
        omega
      have hmB : ∀ i, i ≤ ms.length → (mkTx ms (kdT W kids (wordsR.getD o [] ++ [40]) kids.length) i).length ≤ 6 + 4 * (B + 1) + 176 := fun i hi => by
        have a := mkTx_len (b := kdT W kids (wordsR.getD o [] ++ [40]) kids.length) hmn i hi
        have b := hkB kids.length (Nat.le_refl _)
        omega
      refine ⟨mkTx ms (kdT W kids (wordsR.getD o [] ++ [40]) kids.length) ms.length ++ [41], ?_, fun h => ?_⟩
      · have := hmB ms.length (Nat.le_refl _)
        rw [List.length_append, List.length_singleton]
        omega
      have hd1 : decide (op = 1) = false := decide_eq_false (by omega)
      have hd2 : decide (op = 2) = false := decide_eq_false (by omega)
      have hS := H.allSz
      have h0L : (0 ≤ lenMax) = True := eq_true (Nat.zero_le _)
      have h1L : (1 ≤ lenMax) = True := eq_true (by simp only [lenMax]; omega)
      have hwl : wordsR.length = 11 := rfl
      subst ho'
      have hgo := getD_strs wordsR o
      rw [ruD]
      refine meets_of [] mixed Try.func82 rfl (by kernel_rfl) (by kernel_rfl) (by rw [Try.ntmps82]; simp only [List.length_cons, List.length_nil]; omega) (fun hf => ?_)
      rw [Try.results82]
      clear hf
      try simp -implicitDefEqProofs only [hd1, hd2, h0L, h1L, hwl, Int.toNat_natCast, push_cast, Nat.reduceEqDiff, Nat.reduceBEq, Nat.reduceBNe, Nat.reduceAdd, Nat.reduceMul, Nat.reduceLT, Nat.reduceLeDiff, Nat.reduceSub, reduceCtorEq, Int.reduceToNat, ↓reduceIte]
      repeat'
        (first
         | (refine uYes ?_; first | exact List.mem_cons_self | (simp only [List.mem_cons, List.not_mem_nil, or_false, true_or, or_true]; done))
         | (refine uNo (by kernel_rfl))
         | (refine flatMk ?_; kernel_rfl)
         | (refine And.intro ?_ ?_)
         | (intro hx)
         | ((first
             | (refine callGF ?_)
             | (refine callQGF ?_)
             | (refine skipG ?_)
             | (refine callS (l4Words_gives _) ?_)
             | (refine callQ (l4Words_gives _) ?_)
             | (refine callG (fun hc => (l4Words_gives _)) ?_)
             | (refine callQG (fun hc => (l4Words_gives _)) ?_)); simp -implicitDefEqProofs only [hd1, hd2, h0L, h1L, hwl, Int.toNat_natCast, push_cast, Nat.reduceEqDiff, Nat.reduceBEq, Nat.reduceBNe, Nat.reduceAdd, Nat.reduceMul, Nat.reduceLT, Nat.reduceLeDiff, Nat.reduceSub, reduceCtorEq, Int.reduceToNat, ↓reduceIte]))
      all_goals first
        | omega
        | (simp only [lenMax]; omega)
        | skip
      have hbase : (wordsR.getD o [] ++ [40]).length = (wordsR.getD o []).length + 1 := by rw [List.length_append, List.length_singleton]
      refine ev_loop [] (fun i : Nat => [(1, .ptr h.length 0), (3, .str (kdT W kids (wordsR.getD o [] ++ [40]) i)), (4, .int .i64 i)])
        (fun _ => [.row [.int .i64 o, .int .i64 num, .str name, .slice kids .no, .slice (ms.map Mrk.d) .no]]) (fun i => i ≤ kids.length) (fun i => kids.length - i) 0 trivial (Nat.zero_le _) ?_ ?_
      · refine ⟨1, by simp, by simp [tokSts], ?_⟩
        simp -implicitDefEqProofs only [kdT, Int.natCast_add, Int.cast_ofNat_Int, List.length_nil, Nat.le_refl, WeakTo, tokSts, tokOks, List.append_cancel_left_eq, exists_eq_left', exists_eq_left, List.append_cancel_left_eq, List.take_length, ObCl, and_true, true_and, push_cast, Nat.reduceEqDiff, Nat.reduceBEq, Nat.reduceBNe, Nat.reduceAdd, Nat.reduceMul, Nat.reduceLT, Nat.reduceLeDiff, Nat.reduceSub, reduceCtorEq, Int.reduceToNat, ↓reduceIte]
      · intro i hi
        have hw : IntKind.i64.wrap ((i : Int) + 1) = i + 1 := wrap_id (by omega) (by omega)
        have hb0 := hkB i hi
        rcases Nat.lt_or_ge i kids.length with hlt | hge
        · have hb1 := hkB (i + 1) hlt
          obtain ⟨m', em, hk, hz⟩ := H.kid hlt
          have ihi := (hW _ (hmem i hlt)).2
          have hwl2 := (hW _ (hmem i hlt)).1
          obtain ⟨op', num', name', kids', ms', e', _⟩ := hk.p
          have hL := hz (.agg [.int .i64 0, .int .i64 0, .str [], .slice [] .full, .slice [] .full])
          have hst : kdT W kids (wordsR.getD o [] ++ [40]) (i + 1) = (kdT W kids (wordsR.getD o [] ++ [40]) i ++ if i = 0 then [] else [44]) ++ W (kids.getD i .junk) := rfl
          generalize hs' : W (kids.getD i .junk) = s' at ihi hwl2 hst
          rw [e', ruD] at hL ihi
          generalize ht1 : kdT W kids (wordsR.getD o [] ++ [40]) (i + 1) = t1 at hst hb1
          generalize hs0 : kdT W kids (wordsR.getD o [] ++ [40]) i = t0 at hst hb0
          rcases Nat.eq_zero_or_pos i with hi0 | hi0
          · subst hi0
            rw [if_pos rfl, List.append_nil] at hst
            try simp -implicitDefEqProofs only [hw, hS, hL, h0L, h1L, push_cast, Nat.reduceEqDiff, Nat.reduceBEq, Nat.reduceBNe, Nat.reduceAdd, Nat.reduceMul, Nat.reduceLT, Nat.reduceLeDiff, Nat.reduceSub, reduceCtorEq, Int.reduceToNat, ↓reduceIte]
            repeat'
              (first
               | (refine uYes ?_; first | exact List.mem_cons_self | (simp only [List.mem_cons, List.not_mem_nil, or_false, true_or, or_true]; done))
               | (refine uNo (by kernel_rfl))
               | (refine flatMk ?_; kernel_rfl)
               | (refine And.intro ?_ ?_)
               | (intro hx)
               | ((first
                   | (refine callGF ?_)
                   | (refine callQGF ?_)
                   | (refine skipG ?_)
                   | (refine callS (ihi _) ?_)
                   | (refine callQ (ihi _) ?_)
                   | (refine callG (fun hc => (ihi _)) ?_)
                   | (refine callQG (fun hc => (ihi _)) ?_)); simp -implicitDefEqProofs only [hw, hS, hL, h0L, h1L, push_cast, Nat.reduceEqDiff, Nat.reduceBEq, Nat.reduceBNe, Nat.reduceAdd, Nat.reduceMul, Nat.reduceLT, Nat.reduceLeDiff, Nat.reduceSub, reduceCtorEq, Int.reduceToNat, ↓reduceIte]))
            all_goals first
              | omega
              | (simp only [lenMax]; omega)
              | (refine round_mk (0 + 1) (by omega) (by omega) ?_
                 simp -implicitDefEqProofs only [ht1, hst, show IntKind.i64.wrap (0 + 1) = 1 by decide, Int.natCast_add, Int.cast_ofNat_Int, List.length_nil, Nat.le_refl, WeakTo, tokSts, tokOks, List.append_cancel_left_eq, exists_eq_left', exists_eq_left, List.append_cancel_left_eq, List.take_length, ObCl, and_true, true_and, push_cast, Nat.reduceEqDiff, Nat.reduceBEq, Nat.reduceBNe, Nat.reduceAdd, Nat.reduceMul, Nat.reduceLT, Nat.reduceLeDiff, Nat.reduceSub, reduceCtorEq, Int.reduceToNat, ↓reduceIte]
                 done)
              | trace_state
          · rw [if_neg (by omega)] at hst
            have hi1 : decide (0 < (i : Int)) = true := decide_eq_true (by omega)
            try simp -implicitDefEqProofs only [hw, hS, hL, hi1, h0L, h1L, push_cast, Nat.reduceEqDiff, Nat.reduceBEq, Nat.reduceBNe, Nat.reduceAdd, Nat.reduceMul, Nat.reduceLT, Nat.reduceLeDiff, Nat.reduceSub, reduceCtorEq, Int.reduceToNat, ↓reduceIte]
            repeat'
              (first
               | (refine uYes ?_; first | exact List.mem_cons_self | (simp only [List.mem_cons, List.not_mem_nil, or_false, true_or, or_true]; done))
               | (refine uNo (by kernel_rfl))
               | (refine flatMk ?_; kernel_rfl)
               | (refine And.intro ?_ ?_)
               | (intro hx)
               | ((first
                   | (refine callGF ?_)
                   | (refine callQGF ?_)
                   | (refine skipG ?_)
                   | (refine callS (ihi _) ?_)
                   | (refine callQ (ihi _) ?_)
                   | (refine callG (fun hc => (ihi _)) ?_)
                   | (refine callQG (fun hc => (ihi _)) ?_)); simp -implicitDefEqProofs only [hw, hS, hL, hi1, h0L, h1L, push_cast, Nat.reduceEqDiff, Nat.reduceBEq, Nat.reduceBNe, Nat.reduceAdd, Nat.reduceMul, Nat.reduceLT, Nat.reduceLeDiff, Nat.reduceSub, reduceCtorEq, Int.reduceToNat, ↓reduceIte]))
            all_goals first
              | omega
              | (simp only [lenMax]; omega)
              | (refine round_mk (i + 1) (by omega) (by omega) ?_
                 simp -implicitDefEqProofs only [hw, ht1, hst, Int.natCast_add, Int.cast_ofNat_Int, List.length_nil, Nat.le_refl, WeakTo, tokSts, tokOks, List.append_cancel_left_eq, exists_eq_left', exists_eq_left, List.append_cancel_left_eq, List.take_length, ObCl, and_true, true_and, push_cast, Nat.reduceEqDiff, Nat.reduceBEq, Nat.reduceBNe, Nat.reduceAdd, Nat.reduceMul, Nat.reduceLT, Nat.reduceLeDiff, Nat.reduceSub, reduceCtorEq, Int.reduceToNat, ↓reduceIte]
                 done)
              | trace_state
        · obtain rfl : i = kids.length := by omega
          have hb2 := hmB
          generalize kdT W kids (wordsR.getD o [] ++ [40]) kids.length = tb at hb0 hb2 ⊢
          have hlt0 : decide ((kids.length : Int) < kids.length) = false := decide_eq_false (by omega)
          try simp -implicitDefEqProofs only [hw, hlt0, h0L, h1L, push_cast, Nat.reduceEqDiff, Nat.reduceBEq, Nat.reduceBNe, Nat.reduceAdd, Nat.reduceMul, Nat.reduceLT, Nat.reduceLeDiff, Nat.reduceSub, reduceCtorEq, Int.reduceToNat, ↓reduceIte]
          repeat'
            (first
             | (refine uYes ?_; first | exact List.mem_cons_self | (simp only [List.mem_cons, List.not_mem_nil, or_false, true_or, or_true]; done))
             | (refine uNo (by kernel_rfl))
             | (refine flatMk ?_; kernel_rfl)
             | (refine And.intro ?_ ?_)
             | (intro hx)
             | ((first
                 | (refine callGF ?_)
                 | (refine callQGF ?_)
                 | (refine skipG ?_)
                 | (refine callS (in_gives _ _ _ _) ?_)
                 | (refine callQ (in_gives _ _ _ _) ?_)
                 | (refine callG (fun hc => (in_gives _ _ _ _)) ?_)
                 | (refine callQG (fun hc => (in_gives _ _ _ _)) ?_)); simp -implicitDefEqProofs only [hw, hlt0, h0L, h1L, push_cast, Nat.reduceEqDiff, Nat.reduceBEq, Nat.reduceBNe, Nat.reduceAdd, Nat.reduceMul, Nat.reduceLT, Nat.reduceLeDiff, Nat.reduceSub, reduceCtorEq, Int.reduceToNat, ↓reduceIte]))
          refine ev_loop [] (fun i : Nat => [(1, .ptr h.length 0), (3, .str (mkTx ms tb i)), (5, .int .i64 i)])
            (fun _ => [.row [.int .i64 o, .int .i64 num, .str name, .slice kids .no, .slice (ms.map Mrk.d) .no]]) (fun i => i ≤ ms.length) (fun i => ms.length - i) 0 trivial (Nat.zero_le _) ?_ ?_
          · refine ⟨1, by simp, by simp [tokSts], ?_⟩
            simp -implicitDefEqProofs only [mkTx, Int.natCast_add, Int.cast_ofNat_Int, List.length_nil, Nat.le_refl, WeakTo, tokSts, tokOks, List.append_cancel_left_eq, exists_eq_left', exists_eq_left, List.append_cancel_left_eq, List.take_length, ObCl, and_true, true_and, push_cast, Nat.reduceEqDiff, Nat.reduceBEq, Nat.reduceBNe, Nat.reduceAdd, Nat.reduceMul, Nat.reduceLT, Nat.reduceLeDiff, Nat.reduceSub, reduceCtorEq, Int.reduceToNat, ↓reduceIte]
          · intro i hi
            have hw : IntKind.i64.wrap ((i : Int) + 1) = i + 1 := wrap_id (by omega) (by omega)
            have hb0 := hb2 i hi
            rcases Nat.lt_or_ge i ms.length with hlt | hge
            · have hb1 := hb2 (i + 1) hlt
              have hL := mrk_at hlt
              have hN := hmn i hlt
              have hst : mkTx ms tb (i + 1) = (((mkTx ms tb i ++ if i = 0 then [59] else [44]) ++ Lib.itoa (ms.getD i default).at_) ++ [58]) ++ Lib.itoa (ms.getD i default).price := rfl
              generalize ms.getD i default = mk at hL hN hst
              have l1 := Lib.itoa_length_le mk.at_ (by omega) (by omega)
              have l2 := Lib.itoa_length_le mk.price (by omega) (by omega)
              have D1 := fun g => l1DecP_gives mk.at_ g (by omega) (by omega)
              have D2 := fun g => l1DecP_gives mk.price g (by omega) (by omega)
              generalize ht1 : mkTx ms tb (i + 1) = t1 at hst hb1
              generalize hs0 : mkTx ms tb i = t0 at hst hb0
              rcases Nat.eq_zero_or_pos i with hi0 | hi0
              · subst hi0
                rw [if_pos rfl] at hst
                try simp -implicitDefEqProofs only [hw, hL, h0L, h1L, push_cast, Nat.reduceEqDiff, Nat.reduceBEq, Nat.reduceBNe, Nat.reduceAdd, Nat.reduceMul, Nat.reduceLT, Nat.reduceLeDiff, Nat.reduceSub, reduceCtorEq, Int.reduceToNat, ↓reduceIte]
                repeat'
                  (first
                   | (refine uYes ?_; first | exact List.mem_cons_self | (simp only [List.mem_cons, List.not_mem_nil, or_false, true_or, or_true]; done))
                   | (refine uNo (by kernel_rfl))
                   | (refine flatMk ?_; kernel_rfl)
                   | (refine And.intro ?_ ?_)
                   | (intro hx)
                   | ((first
                       | (refine callGF ?_)
                       | (refine callQGF ?_)
                       | (refine skipG ?_)
                       | (refine callS (D1 _) ?_)
                       | (refine callQ (D1 _) ?_)
                       | (refine callG (fun hc => (D1 _)) ?_)
                       | (refine callQG (fun hc => (D1 _)) ?_)
                       | (refine callS (D2 _) ?_)
                       | (refine callQ (D2 _) ?_)
                       | (refine callG (fun hc => (D2 _)) ?_)
                       | (refine callQG (fun hc => (D2 _)) ?_)); simp -implicitDefEqProofs only [hw, hL, h0L, h1L, push_cast, Nat.reduceEqDiff, Nat.reduceBEq, Nat.reduceBNe, Nat.reduceAdd, Nat.reduceMul, Nat.reduceLT, Nat.reduceLeDiff, Nat.reduceSub, reduceCtorEq, Int.reduceToNat, ↓reduceIte]))
                all_goals first
                  | omega
                  | (simp only [lenMax]; omega)
                  | (refine round_mk (0 + 1) (by omega) (by omega) ?_
                     simp -implicitDefEqProofs only [ht1, hst, show IntKind.i64.wrap (0 + 1) = 1 by decide, Int.natCast_add, Int.cast_ofNat_Int, List.length_nil, Nat.le_refl, WeakTo, tokSts, tokOks, List.append_cancel_left_eq, exists_eq_left', exists_eq_left, List.append_cancel_left_eq, List.take_length, ObCl, and_true, true_and, push_cast, Nat.reduceEqDiff, Nat.reduceBEq, Nat.reduceBNe, Nat.reduceAdd, Nat.reduceMul, Nat.reduceLT, Nat.reduceLeDiff, Nat.reduceSub, reduceCtorEq, Int.reduceToNat, ↓reduceIte]
                     done)
                  | trace_state
              · rw [if_neg (by omega)] at hst
                have hi1 : decide ((i : Int) = 0) = false := decide_eq_false (by omega)
                try simp -implicitDefEqProofs only [hw, hL, hi1, h0L, h1L, push_cast, Nat.reduceEqDiff, Nat.reduceBEq, Nat.reduceBNe, Nat.reduceAdd, Nat.reduceMul, Nat.reduceLT, Nat.reduceLeDiff, Nat.reduceSub, reduceCtorEq, Int.reduceToNat, ↓reduceIte]
                repeat'
                  (first
                   | (refine uYes ?_; first | exact List.mem_cons_self | (simp only [List.mem_cons, List.not_mem_nil, or_false, true_or, or_true]; done))
                   | (refine uNo (by kernel_rfl))
                   | (refine flatMk ?_; kernel_rfl)
                   | (refine And.intro ?_ ?_)
                   | (intro hx)
                   | ((first
                       | (refine callGF ?_)
                       | (refine callQGF ?_)
                       | (refine skipG ?_)
                       | (refine callS (D1 _) ?_)
                       | (refine callQ (D1 _) ?_)
                       | (refine callG (fun hc => (D1 _)) ?_)
                       | (refine callQG (fun hc => (D1 _)) ?_)
                       | (refine callS (D2 _) ?_)
                       | (refine callQ (D2 _) ?_)
                       | (refine callG (fun hc => (D2 _)) ?_)
                       | (refine callQG (fun hc => (D2 _)) ?_)); simp -implicitDefEqProofs only [hw, hL, hi1, h0L, h1L, push_cast, Nat.reduceEqDiff, Nat.reduceBEq, Nat.reduceBNe, Nat.reduceAdd, Nat.reduceMul, Nat.reduceLT, Nat.reduceLeDiff, Nat.reduceSub, reduceCtorEq, Int.reduceToNat, ↓reduceIte]))
                all_goals first
                  | omega
                  | (simp only [lenMax]; omega)
                  | (refine round_mk (i + 1) (by omega) (by omega) ?_
                     simp -implicitDefEqProofs only [hw, ht1, hst, Int.natCast_add, Int.cast_ofNat_Int, List.length_nil, Nat.le_refl, WeakTo, tokSts, tokOks, List.append_cancel_left_eq, exists_eq_left', exists_eq_left, List.append_cancel_left_eq, List.take_length, ObCl, and_true, true_and, push_cast, Nat.reduceEqDiff, Nat.reduceBEq, Nat.reduceBNe, Nat.reduceAdd, Nat.reduceMul, Nat.reduceLT, Nat.reduceLeDiff, Nat.reduceSub, reduceCtorEq, Int.reduceToNat, ↓reduceIte]
                     done)
                  | trace_state
            · obtain rfl : i = ms.length := by omega
              have hlt0 : decide ((ms.length : Int) < ms.length) = false := decide_eq_false (by omega)
              try simp -implicitDefEqProofs only [hw, hlt0, h1L, push_cast, Nat.reduceEqDiff, Nat.reduceBEq, Nat.reduceBNe, Nat.reduceAdd, Nat.reduceMul, Nat.reduceLT, Nat.reduceLeDiff, Nat.reduceSub, reduceCtorEq, Int.reduceToNat, ↓reduceIte]
              repeat'
                (first
                 | (refine uYes ?_; first | exact List.mem_cons_self | (simp only [List.mem_cons, List.not_mem_nil, or_false, true_or, or_true]; done))
                 | (refine uNo (by kernel_rfl))
                 | (refine flatMk ?_; kernel_rfl)
                 | (refine And.intro ?_ ?_)
                 | (intro hx)
                 | ((first
                     | (refine callGF ?_)
                     | (refine callQGF ?_)
                     | (refine skipG ?_)
                     | (refine callS (in_gives _ _ _ _) ?_)
                     | (refine callQ (in_gives _ _ _ _) ?_)
                     | (refine callG (fun hc => (in_gives _ _ _ _)) ?_)
                     | (refine callQG (fun hc => (in_gives _ _ _ _)) ?_)); simp -implicitDefEqProofs only [hw, hlt0, h1L, push_cast, Nat.reduceEqDiff, Nat.reduceBEq, Nat.reduceBNe, Nat.reduceAdd, Nat.reduceMul, Nat.reduceLT, Nat.reduceLeDiff, Nat.reduceSub, reduceCtorEq, Int.reduceToNat, ↓reduceIte]))
              all_goals first
                | omega
                | (simp only [lenMax]; omega)
                | trace_state
  termination_by n => n
end Go.Proofs.Ytcmpcpigchlhpaa

/- The reference on rules: which are ok, and how they are written. -/
namespace Go.Proofs.Ytcmpcpigchlhpaa
set_option linter.unusedSectionVars false
open Go.Av
variable [Av.Start]
set_option maxRecDepth 10000
set_option maxHeartbeats 1000000
set_option linter.unusedSimpArgs false
set_option linter.unusedVariables false

theorem ruleOk_ex (n : Nat) (d : D) (hn : n ≤ 6) (HD : RuleD n d) : ∃ b : Bool, ∀ h, Gives Try.prog 81 [d] h (.bool b) := by
  obtain ⟨s, s1, s2⟩ := write_ex n d hn HD
  have hP := fun g => l4Parts_gives n d HD 1 30 g (by omega) (by omega) (by omega) (by omega)
  obtain ⟨v, hv⟩ : ∃ v, partsD n d 1 30 = v := ⟨_, rfl⟩
  rw [hv] at hP
  obtain ⟨op, num, name, kids, ms, rfl, H⟩ := HD.p
  rw [ruD] at s2 hP ⊢
  refine ⟨decide (0 ≤ v) && decide (s.length ≤ 300), fun h => ?_⟩
  have hc : decide ((s.length : Int) ≤ 300) = decide (s.length ≤ 300) := decide_eq_decide.2 (by omega)
  cases h0 : decide (0 ≤ v) with
  | true =>
    refine meets_of [] mixed Try.func81 rfl (by kernel_rfl) (by kernel_rfl) (by rw [Try.ntmps81]; simp only [List.length_cons, List.length_nil]; omega) (fun hf => ?_)
    rw [Try.results81]
    clear hf
    try simp -implicitDefEqProofs only [h0, hc, push_cast, Nat.reduceEqDiff, Nat.reduceBEq, Nat.reduceBNe, Nat.reduceAdd, Nat.reduceMul, Nat.reduceLT, Nat.reduceLeDiff, Nat.reduceSub, reduceCtorEq, Int.reduceToNat, ↓reduceIte]
    repeat'
      (first
       | (refine uYes ?_; first | exact List.mem_cons_self | (simp only [List.mem_cons, List.not_mem_nil, or_false, true_or, or_true]; done))
       | (refine uNo (by kernel_rfl))
       | (refine flatMk ?_; kernel_rfl)
       | (refine And.intro ?_ ?_)
       | (intro hx)
       | ((first
           | (refine callGF ?_)
           | (refine callQGF ?_)
           | (refine skipG ?_)
           | (refine callS (hP _) ?_)
           | (refine callQ (hP _) ?_)
           | (refine callG (fun hc => (hP _)) ?_)
           | (refine callQG (fun hc => (hP _)) ?_)
           | (refine callS (s2 _) ?_)
           | (refine callQ (s2 _) ?_)
           | (refine callG (fun hc => (s2 _)) ?_)
           | (refine callQG (fun hc => (s2 _)) ?_)); simp -implicitDefEqProofs only [h0, hc, push_cast, Nat.reduceEqDiff, Nat.reduceBEq, Nat.reduceBNe, Nat.reduceAdd, Nat.reduceMul, Nat.reduceLT, Nat.reduceLeDiff, Nat.reduceSub, reduceCtorEq, Int.reduceToNat, ↓reduceIte]))
    all_goals first
      | omega
      | trace_state
  | false =>
    refine meets_of [] mixed Try.func81 rfl (by kernel_rfl) (by kernel_rfl) (by rw [Try.ntmps81]; simp only [List.length_cons, List.length_nil]; omega) (fun hf => ?_)
    rw [Try.results81]
    clear hf
    try simp -implicitDefEqProofs only [h0, hc, push_cast, Nat.reduceEqDiff, Nat.reduceBEq, Nat.reduceBNe, Nat.reduceAdd, Nat.reduceMul, Nat.reduceLT, Nat.reduceLeDiff, Nat.reduceSub, reduceCtorEq, Int.reduceToNat, ↓reduceIte]
    repeat'
      (first
       | (refine uYes ?_; first | exact List.mem_cons_self | (simp only [List.mem_cons, List.not_mem_nil, or_false, true_or, or_true]; done))
       | (refine uNo (by kernel_rfl))
       | (refine flatMk ?_; kernel_rfl)
       | (refine And.intro ?_ ?_)
       | (intro hx)
       | ((first
           | (refine callGF ?_)
           | (refine callQGF ?_)
           | (refine skipG ?_)
           | (refine callS (hP _) ?_)
           | (refine callQ (hP _) ?_)
           | (refine callG (fun hc => (hP _)) ?_)
           | (refine callQG (fun hc => (hP _)) ?_)
           | (refine callS (s2 _) ?_)
           | (refine callQ (s2 _) ?_)
           | (refine callG (fun hc => (s2 _)) ?_)
           | (refine callQG (fun hc => (s2 _)) ?_)); simp -implicitDefEqProofs only [h0, hc, push_cast, Nat.reduceEqDiff, Nat.reduceBEq, Nat.reduceBNe, Nat.reduceAdd, Nat.reduceMul, Nat.reduceLT, Nat.reduceLeDiff, Nat.reduceSub, reduceCtorEq, Int.reduceToNat, ↓reduceIte]))
    all_goals first
      | omega
      | trace_state
theorem ruleWrite_ex (n : Nat) (d : D) (hn : n ≤ 6) (HD : RuleD n d) : ∃ s : List UInt8, s.length ≤ 6250000 ∧ ∀ h, Gives Try.prog 50 [d] h (.str s) := by
  obtain ⟨s, s1, s2⟩ := write_ex n d hn HD
  obtain ⟨b, hb⟩ := ruleOk_ex n d hn HD
  have h5 : 5 ^ n ≤ 5 ^ 6 := Nat.pow_le_pow_right (by omega) hn
  have h6 : (5 : Nat) ^ 6 = 15625 := by decide
  obtain ⟨op, num, name, kids, ms, rfl, H⟩ := HD.p
  rw [ruD] at s2 hb ⊢
  have h0L : (0 ≤ lenMax) = True := eq_true (Nat.zero_le _)
  refine ⟨if b then s else [], by
    split
    · omega
    · exact Nat.zero_le _, fun h => ?_⟩
  cases b with
  | true =>
    refine meets_of [] mixed Try.func50 rfl (by kernel_rfl) (by kernel_rfl) (by rw [Try.ntmps50]; simp only [List.length_cons, List.length_nil]; omega) (fun hf => ?_)
    rw [Try.results50]
    clear hf
    try simp -implicitDefEqProofs only [h0L, push_cast, Nat.reduceEqDiff, Nat.reduceBEq, Nat.reduceBNe, Nat.reduceAdd, Nat.reduceMul, Nat.reduceLT, Nat.reduceLeDiff, Nat.reduceSub, reduceCtorEq, Int.reduceToNat, ↓reduceIte]
    repeat'
      (first
       | (refine uYes ?_; first | exact List.mem_cons_self | (simp only [List.mem_cons, List.not_mem_nil, or_false, true_or, or_true]; done))
       | (refine uNo (by kernel_rfl))
       | (refine flatMk ?_; kernel_rfl)
       | (refine And.intro ?_ ?_)
       | (intro hx)
       | ((first
           | (refine callGF ?_)
           | (refine callQGF ?_)
           | (refine skipG ?_)
           | (refine callS (hb _) ?_)
           | (refine callQ (hb _) ?_)
           | (refine callG (fun hc => (hb _)) ?_)
           | (refine callQG (fun hc => (hb _)) ?_)
           | (refine callS (s2 _) ?_)
           | (refine callQ (s2 _) ?_)
           | (refine callG (fun hc => (s2 _)) ?_)
           | (refine callQG (fun hc => (s2 _)) ?_)); simp -implicitDefEqProofs only [h0L, push_cast, Nat.reduceEqDiff, Nat.reduceBEq, Nat.reduceBNe, Nat.reduceAdd, Nat.reduceMul, Nat.reduceLT, Nat.reduceLeDiff, Nat.reduceSub, reduceCtorEq, Int.reduceToNat, ↓reduceIte]))
    all_goals first
      | omega
      | trace_state
  | false =>
    refine meets_of [] mixed Try.func50 rfl (by kernel_rfl) (by kernel_rfl) (by rw [Try.ntmps50]; simp only [List.length_cons, List.length_nil]; omega) (fun hf => ?_)
    rw [Try.results50]
    clear hf
    try simp -implicitDefEqProofs only [h0L, push_cast, Nat.reduceEqDiff, Nat.reduceBEq, Nat.reduceBNe, Nat.reduceAdd, Nat.reduceMul, Nat.reduceLT, Nat.reduceLeDiff, Nat.reduceSub, reduceCtorEq, Int.reduceToNat, ↓reduceIte]
    repeat'
      (first
       | (refine uYes ?_; first | exact List.mem_cons_self | (simp only [List.mem_cons, List.not_mem_nil, or_false, true_or, or_true]; done))
       | (refine uNo (by kernel_rfl))
       | (refine flatMk ?_; kernel_rfl)
       | (refine And.intro ?_ ?_)
       | (intro hx)
       | ((first
           | (refine callGF ?_)
           | (refine callQGF ?_)
           | (refine skipG ?_)
           | (refine callS (hb _) ?_)
           | (refine callQ (hb _) ?_)
           | (refine callG (fun hc => (hb _)) ?_)
           | (refine callQG (fun hc => (hb _)) ?_)); simp -implicitDefEqProofs only [h0L, push_cast, Nat.reduceEqDiff, Nat.reduceBEq, Nat.reduceBNe, Nat.reduceAdd, Nat.reduceMul, Nat.reduceLT, Nat.reduceLeDiff, Nat.reduceSub, reduceCtorEq, Int.reduceToNat, ↓reduceIte]))
    all_goals first
      | omega
      | trace_state
end Go.Proofs.Ytcmpcpigchlhpaa

/- The library's FormatUint at base 16. -/
import Derived.Test.YtcmpcpigchlhpaaDoorHe
import Derived.Lib.TrailingZeros
import Derived.Test.YtcmpcpigchlhpaaDoorGs
import Derived.Test.YtcmpcpigchlhpaaDoorEs
import Derived.Test.YtcmpcpigchlhpaaDoorShn
import Derived.Test.YtcmpcpigchlhpaaDoorGr

namespace Go.Proofs.YtcmpcpigchlhpaaDoor
set_option linter.unusedSectionVars false
open Go.Av
variable [Av.Start] [TabSha]
set_option maxRecDepth 10000
set_option maxHeartbeats 2000000
set_option linter.unusedSimpArgs false
set_option linter.unusedVariables false

def dbr : List Int := [0, 1, 56, 2, 57, 49, 28, 3, 61, 58, 42, 50, 38, 29, 17, 4, 62, 47, 59, 36, 45, 43, 51, 22, 53, 39, 33, 30, 24, 18, 12, 5, 63, 55, 48, 27, 60, 41, 37, 16, 46, 35, 44, 21, 52, 32, 23, 11, 54, 26, 40, 15, 34, 20, 31, 10, 25, 14, 19, 9, 13, 8, 7, 6]
/-- the library's table of the lowest bit -/
class TabBits : Prop where
  debr : GVar 7 (dbr.map (.int .u8))
omit [Av.Start] [TabSha] in
theorem tz_key : bitI .and .u64 16 (IntKind.u64.wrap (0 - 16)) = 16 := by decide +kernel
omit [Av.Start] [TabSha] in
theorem tz_at : ((dbr.drop 15).map (D.int .u8)).headD .junk = .int .u8 4 := rfl
theorem tz64_gives [TabBits] (h : Hp) : Gives Tryd.prog 99 [.int .u64 16] h (.int .i64 4) := by
  have w1 := tz_key
  have w2 : IntKind.u64.wrap (16 * 285870213051353865) = 4573923408821661840 := by decide +kernel
  have m1 : min 58 64 = 58 := rfl
  have w3 : Int.fdiv 4573923408821661840 (2 ^ 58) = 15 := by decide +kernel
  have w4 := tz_at
  have w5 : dbr.length = 64 := rfl
  refine meets_of [] mixed Tryd.func99 rfl (by kernel_rfl) (by kernel_rfl) (by rw [Tryd.ntmps99]; simp only [List.length_cons, List.length_nil]; omega) (fun hf => ?_)
  rw [Tryd.results99]
  clear hf
  try simp -implicitDefEqProofs only [w1, w2, w3, m1, w4, w5, IntKind.bits, push_cast, Nat.reduceEqDiff, Nat.reduceBEq, Nat.reduceBNe, Nat.reduceAdd, Nat.reduceMul, Nat.reduceLT, Nat.reduceLeDiff, Nat.reduceSub, reduceCtorEq, Int.reduceToNat, ↓reduceIte]
  repeat'
    (first
     | (refine uYes ?_; first | exact List.mem_cons_self | (simp only [List.mem_cons, List.not_mem_nil, or_false, true_or, or_true]; done))
     | (refine uNo (by kernel_rfl))
     | (refine flatMk ?_; kernel_rfl)
     | (refine And.intro ?_ ?_)
     | (intro hx)
     | ((first
         | (refine callGF ?_)
         | (refine callQGF ?_)
         | (refine skipG ?_)
         | (refine idxG (dbr.map (.int .u8)) TabBits.debr ?_)); simp -implicitDefEqProofs only [w1, w2, w3, m1, w4, w5, IntKind.bits, push_cast, Nat.reduceEqDiff, Nat.reduceBEq, Nat.reduceBNe, Nat.reduceAdd, Nat.reduceMul, Nat.reduceLT, Nat.reduceLeDiff, Nat.reduceSub, reduceCtorEq, Int.reduceToNat, ↓reduceIte]))
  all_goals first
    | omega
    | rfl
    | trace_state
theorem tz_gives [TabBits] (h : Hp) : Gives Tryd.prog 96 [.int .u64 16] h (.int .i64 4) := by
  refine meets_of [] mixed Tryd.func96 rfl (by kernel_rfl) (by kernel_rfl) (by rw [Tryd.ntmps96]; simp only [List.length_cons, List.length_nil]; omega) (fun hf => ?_)
  rw [Tryd.results96]
  clear hf
  try simp -implicitDefEqProofs only [push_cast, Nat.reduceEqDiff, Nat.reduceBEq, Nat.reduceBNe, Nat.reduceAdd, Nat.reduceMul, Nat.reduceLT, Nat.reduceLeDiff, Nat.reduceSub, reduceCtorEq, Int.reduceToNat, ↓reduceIte]
  repeat'
    (first
     | (refine uYes ?_; first | exact List.mem_cons_self | (simp only [List.mem_cons, List.not_mem_nil, or_false, true_or, or_true]; done))
     | (refine uNo (by kernel_rfl))
     | (refine flatMk ?_; kernel_rfl)
     | (refine And.intro ?_ ?_)
     | (intro hx)
     | ((first
         | (refine callGF ?_)
         | (refine callQGF ?_)
         | (refine skipG ?_)
         | (refine callS (tz64_gives _) ?_)
         | (refine callQ (tz64_gives _) ?_)
         | (refine callG (fun hc => (tz64_gives _)) ?_)
         | (refine callQG (fun hc => (tz64_gives _)) ?_)); simp -implicitDefEqProofs only [push_cast, Nat.reduceEqDiff, Nat.reduceBEq, Nat.reduceBNe, Nat.reduceAdd, Nat.reduceMul, Nat.reduceLT, Nat.reduceLeDiff, Nat.reduceSub, reduceCtorEq, Int.reduceToNat, ↓reduceIte]))
  all_goals first
    | omega
    | trace_state
omit [Av.Start] [TabSha] in
theorem pow_key : bitI .and .i64 16 15 = 0 := by decide +kernel
theorem pow2_gives (h : Hp) : Gives Tryd.prog 95 [.int .i64 16] h (.bool true) := by
  have w1 := pow_key
  have w2 : IntKind.i64.wrap (16 - 1) = 15 := by decide +kernel
  refine meets_of [] mixed Tryd.func95 rfl (by kernel_rfl) (by kernel_rfl) (by rw [Tryd.ntmps95]; simp only [List.length_cons, List.length_nil]; omega) (fun hf => ?_)
  rw [Tryd.results95]
  clear hf
  try simp -implicitDefEqProofs only [w1, w2, push_cast, Nat.reduceEqDiff, Nat.reduceBEq, Nat.reduceBNe, Nat.reduceAdd, Nat.reduceMul, Nat.reduceLT, Nat.reduceLeDiff, Nat.reduceSub, reduceCtorEq, Int.reduceToNat, ↓reduceIte]
  repeat'
    (first
     | (refine uYes ?_; first | exact List.mem_cons_self | (simp only [List.mem_cons, List.not_mem_nil, or_false, true_or, or_true]; done))
     | (refine uNo (by kernel_rfl))
     | (refine flatMk ?_; kernel_rfl)
     | (refine And.intro ?_ ?_)
     | (intro hx)
     | ((first
         | (refine callGF ?_)
         | (refine callQGF ?_)
         | (refine skipG ?_)
         | (refine callS (in_gives _ _ _ _) ?_)
         | (refine callQ (in_gives _ _ _ _) ?_)
         | (refine callG (fun hc => (in_gives _ _ _ _)) ?_)
         | (refine callQG (fun hc => (in_gives _ _ _ _)) ?_)); simp -implicitDefEqProofs only [w1, w2, push_cast, Nat.reduceEqDiff, Nat.reduceBEq, Nat.reduceBNe, Nat.reduceAdd, Nat.reduceMul, Nat.reduceLT, Nat.reduceLeDiff, Nat.reduceSub, reduceCtorEq, Int.reduceToNat, ↓reduceIte]))
  all_goals first
    | omega
    | trace_state
/-- the last n figures of a number, to base 16 -/
def lowD (x : Nat) : Nat → List UInt8
  | 0 => []
  | j + 1 => hexd (x / 16 ^ j % 16) :: lowD x j
theorem lowD_len (x : Nat) : ∀ n, (lowD x n).length = n
  | 0 => rfl
  | n + 1 => by rw [lowD, List.length_cons, lowD_len]
/-- the row of figures -/
def hRow (x j : Nat) : List D := (List.replicate (65 - j) 0 ++ lowD x j).map fun b => .int .u8 ((b : UInt8).toNat : Int)
theorem hRow_len (x j : Nat) (hj : j ≤ 65) : (hRow x j).length = 65 := by
  simp [hRow, lowD_len]; omega
theorem hRow_cl (x j m : Nat) : ∀ d, d ∈ hRow x j → Cl m d := fun d hd => by
  obtain ⟨y, _, rfl⟩ := List.mem_map.1 hd
  exact .int _ _
theorem hRow_set (x j : Nat) (hj : j < 65) : (hRow x j).take (64 - j) ++ D.int .u8 ((hexd (x / 16 ^ j % 16)).toNat : Int) :: (hRow x j).drop (64 - j + 1) = hRow x (j + 1) := by
  have e : 65 - j = (64 - j) + 1 := by omega
  have e2 : 65 - (j + 1) = 64 - j := by omega
  rw [hRow, hRow, e, e2, lowD, ← List.map_take, ← List.map_drop, List.take_append_of_le_length (by simp), List.drop_append, List.take_replicate, List.drop_replicate]
  simp
theorem hRow_drop (x n : Nat) (hn : n ≤ 65) : ((hRow x n).drop (65 - n)).map Go.Av.byteOf = lowD x n := by
  rw [hRow, ← List.map_drop, List.drop_append, List.drop_replicate]
  simp only [List.length_replicate, Nat.sub_self, List.replicate_zero, List.nil_append, List.drop_zero]
  exact byD_back (lowD x n)
theorem hRow_bytes (x n : Nat) : ∀ d, d ∈ hRow x n → isByte d := fun d hd => by
  obtain ⟨y, _, rfl⟩ := List.mem_map.1 hd
  trivial
/-- how many figures a number has to base 16 -/
def HexN (x n : Nat) : Prop := 1 ≤ n ∧ n ≤ 8 ∧ x < 16 ^ n ∧ (n = 1 ∨ 16 ^ (n - 1) ≤ x)
theorem hexN_is (x : Nat) (hx : x < 4294967296) : ∃ n, HexN x n := by
  by_cases h1 : x < 16
  · exact ⟨1, by omega, by omega, by omega, .inl rfl⟩
  by_cases h2 : x < 256
  · exact ⟨2, by omega, by omega, by omega, .inr (by simp; omega)⟩
  by_cases h3 : x < 4096
  · exact ⟨3, by omega, by omega, by omega, .inr (by simp; omega)⟩
  by_cases h4 : x < 65536
  · exact ⟨4, by omega, by omega, by omega, .inr (by simp; omega)⟩
  by_cases h5 : x < 1048576
  · exact ⟨5, by omega, by omega, by omega, .inr (by simp; omega)⟩
  by_cases h6 : x < 16777216
  · exact ⟨6, by omega, by omega, by omega, .inr (by simp; omega)⟩
  by_cases h7 : x < 268435456
  · exact ⟨7, by omega, by omega, by omega, .inr (by simp; omega)⟩
  exact ⟨8, by omega, by omega, by omega, .inr (by simp; omega)⟩
theorem hexN_step {x n : Nat} (H : HexN x n) (j : Nat) : 16 ≤ x / 16 ^ j ↔ j + 1 < n := by
  obtain ⟨h1, h2, h3, h4⟩ := H
  rw [Nat.le_div_iff_mul_le (Nat.pow_pos (by omega)), show 16 * 16 ^ j = 16 ^ (j + 1) by rw [Nat.pow_succ, Nat.mul_comm]]
  constructor
  · intro h
    refine Nat.lt_of_not_le fun hn => ?_
    have := Nat.pow_le_pow_right (n := 16) (by omega) hn
    omega
  · intro h
    rcases h4 with h4 | h4
    · omega
    · have := Nat.pow_le_pow_right (n := 16) (by omega) (show j + 1 ≤ n - 1 by omega)
      omega
omit [Av.Start] [TabSha] in
theorem and_low {y : Nat} (hy : y < 4294967296) : bitI .and .u64 (y : Int) 15 = ((y % 16 : Nat) : Int) := by
  have e : (BitVec.ofInt 64 (y : Int) &&& BitVec.ofInt 64 15).toNat = y % 16 := by
    rw [BitVec.toNat_and, BitVec.toNat_ofInt, BitVec.toNat_ofInt]
    rw [Int.emod_eq_of_lt (by omega) (by omega)]
    rw [Int.toNat_natCast]
    exact Nat.and_two_pow_sub_one_eq_mod y 4
  show IntKind.u64.wrap ((BitVec.ofInt 64 (y : Int) &&& BitVec.ofInt 64 15).toNat : Int) = _
  rw [e]
  show ((y % 16 : Nat) : Int) % 18446744073709551616 = _
  omega
/-- a number without its last k figures -/
def hq (x k : Nat) : Nat := x / 16 ^ k
theorem hq_zero (x : Nat) : hq x 0 = x := by simp [hq]
theorem hq_shr (x k : Nat) : ((hq x k : Nat) : Int).fdiv (2 ^ 4) = ((hq x (k + 1) : Nat) : Int) := by
  rw [Int.fdiv_eq_ediv_of_nonneg _ (by decide)]
  show ((hq x k : Nat) : Int) / ((16 : Nat) : Int) = _
  rw [← Int.natCast_ediv, hq, hq, Nat.pow_succ, Nat.div_div_eq_div_mul]
def dig36 : List UInt8 := [48, 49, 50, 51, 52, 53, 54, 55, 56, 57, 97, 98, 99, 100, 101, 102, 103, 104, 105, 106, 107, 108, 109, 110, 111, 112, 113, 114, 115, 116, 117, 118, 119, 120, 121, 122]
theorem dig36_at : ∀ n : Fin 16, dig36.getD n.val 0 = hexd n.val := by decide +kernel
theorem dig36_is : ([48, 49, 50, 51, 52, 53, 54, 55, 56, 57, 97, 98, 99, 100, 101, 102, 103, 104, 105, 106, 107, 108, 109, 110, 111, 112, 113, 114, 115, 116, 117, 118, 119, 120, 121, 122] : List UInt8) = dig36 := rfl
theorem hRow_put (x k : Nat) (hk : k < 65) : (hRow x k).take (64 - k) ++ D.int .u8 ((hexd (hq x k % 16)).toNat : Int) :: (hRow x k).drop (64 - k + 1) = hRow x (k + 1) := hRow_set x k hk
theorem fmtBits_gives [TabBits] (x n : Nat) (hxb : x < 4294967296) (H : HexN x n) (h : Hp) : Gives Tryd.prog 81 [.slice [] .full, .int .u64 x, .int .i64 16, .bool false, .bool false] h (.tup [.slice [] .no, .str (lowD x n)]) := by
  have w1 : IntKind.u64.wrap 16 = 16 := rfl
  have w2 : IntKind.i64.wrap 16 = 16 := rfl
  have w3 : IntKind.u64.wrap 4 = 4 := rfl
  have w4 : IntKind.u64.wrap (16 - 1) = 15 := rfl
  have hz : (List.replicate 65 (D.int .u8 0)) = hRow x 0 := rfl
  refine meets_of [] mixed Tryd.func81 rfl (by kernel_rfl) (by kernel_rfl) (by rw [Tryd.ntmps81]; simp only [List.length_cons, List.length_nil]; omega) (fun hf => ?_)
  rw [Tryd.results81]
  clear hf
  try simp -implicitDefEqProofs only [w1, w2, w3, w4, IntKind.bits, hz, push_cast, Nat.reduceEqDiff, Nat.reduceBEq, Nat.reduceBNe, Nat.reduceAdd, Nat.reduceMul, Nat.reduceLT, Nat.reduceLeDiff, Nat.reduceSub, reduceCtorEq, Int.reduceToNat, ↓reduceIte]
  repeat'
    (first
     | (refine uYes ?_; first | exact List.mem_cons_self | (simp only [List.mem_cons, List.not_mem_nil, or_false, true_or, or_true]; done))
     | (refine uNo (by kernel_rfl))
     | (refine flatMk ?_; kernel_rfl)
     | (refine And.intro ?_ ?_)
     | (intro hx)
     | ((first
         | (refine callGF ?_)
         | (refine callQGF ?_)
         | (refine skipG ?_)
         | (refine callS (pow2_gives _) ?_)
         | (refine callQ (pow2_gives _) ?_)
         | (refine callG (fun hc => (pow2_gives _)) ?_)
         | (refine callQG (fun hc => (pow2_gives _)) ?_)
         | (refine callS (tz_gives _) ?_)
         | (refine callQ (tz_gives _) ?_)
         | (refine callG (fun hc => (tz_gives _)) ?_)
         | (refine callQG (fun hc => (tz_gives _)) ?_)); simp -implicitDefEqProofs only [w1, w2, w3, w4, IntKind.bits, hz, push_cast, Nat.reduceEqDiff, Nat.reduceBEq, Nat.reduceBNe, Nat.reduceAdd, Nat.reduceMul, Nat.reduceLT, Nat.reduceLeDiff, Nat.reduceSub, reduceCtorEq, Int.reduceToNat, ↓reduceIte]))
  all_goals try first | omega | (simp [gok]; done)
  refine ev_loop [] (fun k : Nat => [(1, .int .u64 (hq x k)), (10, .slice [] .full), (3, .bool false), (4, .bool false), (12, .ptr h.length 0), (13, .int .i64 (65 - (k : Int))), (14, .int .u64 4), (15, .int .u64 16), (16, .int .u64 15)])
    (fun k => [.row (hRow x k)]) (fun k => k + 1 ≤ n) (fun k => n - k) 0 trivial H.1 ?_ ?_
  · refine ⟨1, by simp, by simp [tokSts], ?_⟩
    simp -implicitDefEqProofs only [hq_zero, Int.natCast_add, Int.cast_ofNat_Int, List.length_nil, Nat.le_refl, WeakTo, tokSts, tokOks, List.append_cancel_left_eq, exists_eq_left', exists_eq_left, List.append_cancel_left_eq, List.take_length, ObCl, and_true, true_and, push_cast, Nat.reduceEqDiff, Nat.reduceBEq, Nat.reduceBNe, Nat.reduceAdd, Nat.reduceMul, Nat.reduceLT, Nat.reduceLeDiff, Nat.reduceSub, reduceCtorEq, Int.reduceToNat, ↓reduceIte]
    exact ⟨rfl, hRow_cl _ _ _, by omega⟩
  · intro k hk
    have hk8 : k < 8 := by have := H.2.1; omega
    have hrl2 := hRow_len x (k + 1) (by omega)
    have h65 : 65 ≤ lenMax := by decide
    have h36 : 36 ≤ lenMax := by decide
    have hk8 : k < 8 := by have := H.2.1; omega
    have hst := hexN_step H k
    have hw : hq x k < 4294967296 := Nat.lt_of_le_of_lt (Nat.div_le_self _ _) hxb
    have hst : 16 ≤ hq x k ↔ k + 1 < n := hst
    have hsh := hq_shr x k
    have hput := hRow_put x k (by omega)
    have hal := and_low hw
    have hrl := hRow_len x k (by omega)
    have d36 := dig36_is
    have m1 : min 4 64 = 4 := rfl
    have w6 : IntKind.i64.wrap (65 - (k : Int) - 1) = 64 - k := by rw [wrap_id (by omega) (by omega)]; omega
    have t6 : (64 - (k : Int)).toNat = 64 - k := by omega
    obtain ⟨r, hr⟩ : ∃ r, hq x k % 16 = r := ⟨_, rfl⟩
    have hr16 : r < 16 := by omega
    have hdg := dig36_at ⟨r, hr16⟩
    simp only at hdg
    rw [hr] at hal hput
    have hdl : dig36.length = 36 := rfl
    by_cases hlt : k + 1 < n
    · have hge : 16 ≤ hq x k := hst.2 hlt
      try simp -implicitDefEqProofs only [hsh, hput, hal, hrl, d36, m1, w6, t6, hdg, hdl, h36, IntKind.bits, push_cast, Nat.reduceEqDiff, Nat.reduceBEq, Nat.reduceBNe, Nat.reduceAdd, Nat.reduceMul, Nat.reduceLT, Nat.reduceLeDiff, Nat.reduceSub, reduceCtorEq, Int.reduceToNat, ↓reduceIte]
      repeat'
        (first
         | (refine uYes ?_; first | exact List.mem_cons_self | (simp only [List.mem_cons, List.not_mem_nil, or_false, true_or, or_true]; done))
         | (refine uNo (by kernel_rfl))
         | (refine flatMk ?_; kernel_rfl)
         | (refine And.intro ?_ ?_)
         | (intro hx)
         | ((first
             | (refine callGF ?_)
             | (refine callQGF ?_)
             | (refine skipG ?_)
             | (refine callS (in_gives _ _ _ _) ?_)
             | (refine callQ (in_gives _ _ _ _) ?_)
             | (refine callG (fun hc => (in_gives _ _ _ _)) ?_)
             | (refine callQG (fun hc => (in_gives _ _ _ _)) ?_)); simp -implicitDefEqProofs only [hsh, hput, hal, hrl, d36, m1, w6, t6, hdg, hdl, h36, IntKind.bits, push_cast, Nat.reduceEqDiff, Nat.reduceBEq, Nat.reduceBNe, Nat.reduceAdd, Nat.reduceMul, Nat.reduceLT, Nat.reduceLeDiff, Nat.reduceSub, reduceCtorEq, Int.reduceToNat, ↓reduceIte]))
      all_goals first
        | omega
        | skip
      refine round_mk (k + 1) (by omega) (by omega) ?_
      simp -implicitDefEqProofs only [Int.natCast_add, Int.cast_ofNat_Int, List.length_nil, Nat.le_refl, WeakTo, tokSts, tokOks, List.append_cancel_left_eq, exists_eq_left', exists_eq_left, List.append_cancel_left_eq, List.take_length, ObCl, and_true, true_and, push_cast, Nat.reduceEqDiff, Nat.reduceBEq, Nat.reduceBNe, Nat.reduceAdd, Nat.reduceMul, Nat.reduceLT, Nat.reduceLeDiff, Nat.reduceSub, reduceCtorEq, Int.reduceToNat, ↓reduceIte]
      exact ⟨hRow_cl _ _ _, by omega⟩
    · have hge : ¬ 16 ≤ hq x k := fun h => hlt (hst.1 h)
      have hkn : k + 1 = n := by omega
      have hqr : hq x k = r := by omega
      try simp -implicitDefEqProofs only [hsh, hput, hal, hrl, d36, m1, w6, t6, hdg, hdl, h36, h65, hrl2, hqr, IntKind.bits, push_cast, Nat.reduceEqDiff, Nat.reduceBEq, Nat.reduceBNe, Nat.reduceAdd, Nat.reduceMul, Nat.reduceLT, Nat.reduceLeDiff, Nat.reduceSub, reduceCtorEq, Int.reduceToNat, ↓reduceIte]
      repeat'
        (first
         | (refine uYes ?_; first | exact List.mem_cons_self | (simp only [List.mem_cons, List.not_mem_nil, or_false, true_or, or_true]; done))
         | (refine uNo (by kernel_rfl))
         | (refine flatMk ?_; kernel_rfl)
         | (refine And.intro ?_ ?_)
         | (intro hx)
         | ((first
             | (refine callGF ?_)
             | (refine callQGF ?_)
             | (refine skipG ?_)
             | (refine callS (in_gives _ _ _ _) ?_)
             | (refine callQ (in_gives _ _ _ _) ?_)
             | (refine callG (fun hc => (in_gives _ _ _ _)) ?_)
             | (refine callQG (fun hc => (in_gives _ _ _ _)) ?_)); simp -implicitDefEqProofs only [hsh, hput, hal, hrl, d36, m1, w6, t6, hdg, hdl, h36, h65, hrl2, hqr, IntKind.bits, push_cast, Nat.reduceEqDiff, Nat.reduceBEq, Nat.reduceBNe, Nat.reduceAdd, Nat.reduceMul, Nat.reduceLT, Nat.reduceLeDiff, Nat.reduceSub, reduceCtorEq, Int.reduceToNat, ↓reduceIte]))
      all_goals first
        | omega
        | exact hRow_bytes _ _ _ (List.mem_of_mem_drop (List.mem_of_mem_take ‹_›))
        | (have e := hRow_drop x n (by omega)
           subst hkn
           rw [show 65 - (64 - k) = k + 1 by omega, show 64 - k = 65 - (k + 1) by omega, List.take_of_length_le (by rw [List.length_drop, hrl2]; omega)]
           exact e)
        | trace_state
theorem iFmtUint_gives [TabBits] (x n : Nat) (hxb : x < 4294967296) (H : HexN x n) (h : Hp) : Gives Tryd.prog 68 [.int .u64 x, .int .i64 16] h (.str (lowD x n)) := by
  refine meets_of [] mixed Tryd.func68 rfl (by kernel_rfl) (by kernel_rfl) (by rw [Tryd.ntmps68]; simp only [List.length_cons, List.length_nil]; omega) (fun hf => ?_)
  rw [Tryd.results68]
  clear hf
  try simp -implicitDefEqProofs only [push_cast, Nat.reduceEqDiff, Nat.reduceBEq, Nat.reduceBNe, Nat.reduceAdd, Nat.reduceMul, Nat.reduceLT, Nat.reduceLeDiff, Nat.reduceSub, reduceCtorEq, Int.reduceToNat, ↓reduceIte]
  repeat'
    (first
     | (refine uYes ?_; first | exact List.mem_cons_self | (simp only [List.mem_cons, List.not_mem_nil, or_false, true_or, or_true]; done))
     | (refine uNo (by kernel_rfl))
     | (refine flatMk ?_; kernel_rfl)
     | (refine And.intro ?_ ?_)
     | (intro hx)
     | ((first
         | (refine callGF ?_)
         | (refine callQGF ?_)
         | (refine skipG ?_)
         | (refine callS (fmtBits_gives x n hxb H _) ?_)
         | (refine callQ (fmtBits_gives x n hxb H _) ?_)
         | (refine callG (fun hc => (fmtBits_gives x n hxb H _)) ?_)
         | (refine callQG (fun hc => (fmtBits_gives x n hxb H _)) ?_)); simp -implicitDefEqProofs only [push_cast, Nat.reduceEqDiff, Nat.reduceBEq, Nat.reduceBNe, Nat.reduceAdd, Nat.reduceMul, Nat.reduceLT, Nat.reduceLeDiff, Nat.reduceSub, reduceCtorEq, Int.reduceToNat, ↓reduceIte]))
  all_goals first
    | omega
    | trace_state
theorem fmtUint_gives [TabBits] (x n : Nat) (hxb : x < 4294967296) (H : HexN x n) (h : Hp) : Gives Tryd.prog 48 [.int .u64 x, .int .i64 16] h (.str (lowD x n)) := by
  refine meets_of [] mixed Tryd.func48 rfl (by kernel_rfl) (by kernel_rfl) (by rw [Tryd.ntmps48]; simp only [List.length_cons, List.length_nil]; omega) (fun hf => ?_)
  rw [Tryd.results48]
  clear hf
  try simp -implicitDefEqProofs only [push_cast, Nat.reduceEqDiff, Nat.reduceBEq, Nat.reduceBNe, Nat.reduceAdd, Nat.reduceMul, Nat.reduceLT, Nat.reduceLeDiff, Nat.reduceSub, reduceCtorEq, Int.reduceToNat, ↓reduceIte]
  repeat'
    (first
     | (refine uYes ?_; first | exact List.mem_cons_self | (simp only [List.mem_cons, List.not_mem_nil, or_false, true_or, or_true]; done))
     | (refine uNo (by kernel_rfl))
     | (refine flatMk ?_; kernel_rfl)
     | (refine And.intro ?_ ?_)
     | (intro hx)
     | ((first
         | (refine callGF ?_)
         | (refine callQGF ?_)
         | (refine skipG ?_)
         | (refine callS (iFmtUint_gives x n hxb H _) ?_)
         | (refine callQ (iFmtUint_gives x n hxb H _) ?_)
         | (refine callG (fun hc => (iFmtUint_gives x n hxb H _)) ?_)
         | (refine callQG (fun hc => (iFmtUint_gives x n hxb H _)) ?_)); simp -implicitDefEqProofs only [push_cast, Nat.reduceEqDiff, Nat.reduceBEq, Nat.reduceBNe, Nat.reduceAdd, Nat.reduceMul, Nat.reduceLT, Nat.reduceLeDiff, Nat.reduceSub, reduceCtorEq, Int.reduceToNat, ↓reduceIte]))
  all_goals first
    | omega
    | trace_state
/-- a word's figures, filled up -/
theorem lowD_fill {x n : Nat} (hx : x < 16 ^ n) (m : Nat) : lowD x (n + m) = List.replicate m 48 ++ lowD x n := by
  induction m with
  | zero => rfl
  | succ m ih =>
    have e : x / 16 ^ (n + m) = 0 := Nat.div_eq_of_lt (Nat.lt_of_lt_of_le hx (Nat.pow_le_pow_right (by omega) (by omega)))
    rw [← Nat.add_assoc, lowD, e, ih, List.replicate_succ]
    rfl
theorem lowD_byte4 {x : Nat} (hx : x < 4294967296) : hexOf (byte4 (x : Int)) = lowD x 8 := by
  have hb : ∀ k, (UInt8.ofNat k).toNat = k % 256 := fun k => rfl
  simp only [hexOf, byte4, List.flatMap_cons, List.flatMap_nil, List.append_nil, hex2, hb, Int.toNat_natCast, lowD, List.cons_append, List.nil_append]
  rw [show (16 : Nat) ^ 7 = 268435456 from rfl, show (16 : Nat) ^ 6 = 16777216 from rfl, show (16 : Nat) ^ 5 = 1048576 from rfl, show (16 : Nat) ^ 4 = 65536 from rfl, show (16 : Nat) ^ 3 = 4096 from rfl, show (16 : Nat) ^ 2 = 256 from rfl, show (16 : Nat) ^ 1 = 16 from rfl, show (16 : Nat) ^ 0 = 1 from rfl]
  rw [show x / 16777216 % 256 / 16 = x / 268435456 % 16 by omega, show x / 16777216 % 256 % 16 = x / 16777216 % 16 by omega, show x / 65536 % 256 / 16 = x / 1048576 % 16 by omega, show x / 65536 % 256 % 16 = x / 65536 % 16 by omega, show x / 256 % 256 / 16 = x / 4096 % 16 by omega, show x / 256 % 256 % 16 = x / 256 % 16 by omega, show x % 256 / 16 = x / 16 % 16 by omega, show x % 256 % 16 = x / 1 % 16 by omega]
theorem hexOf_app (a b : List UInt8) : hexOf (a ++ b) = hexOf a ++ hexOf b := by simp [hexOf]
end Go.Proofs.YtcmpcpigchlhpaaDoor

/- SHA-256: the program's sum. -/
namespace Go.Proofs.YtcmpcpigchlhpaaDoor
set_option linter.unusedSectionVars false
open Go.Av
variable [Av.Start] [TabSha] [TabBits]
set_option maxRecDepth 10000
set_option maxHeartbeats 2000000
set_option linter.unusedSimpArgs false
set_option linter.unusedVariables false

omit [Av.Start] [TabSha] [TabBits] in
theorem repeatL_one (b : UInt8) (c : Nat) : Lib.repeatL [b] c = List.replicate c b := by
  induction c with
  | zero => rfl
  | succ c ih => rw [Lib.repeatL, ih, List.replicate_succ]; rfl
omit [TabSha] [TabBits] in
theorem repeat_gives (b : UInt8) (c : Nat) (h : Hp) (hc : c ≤ 1000000) : Gives Tryd.prog 46 [.str [b], .int .i64 c] h (.str (List.replicate c b)) := by
  refine gives_lib (enters_at Tryd.func46 (by kernel_rfl) (by kernel_rfl)) fun w σ vs hi hr => ?_
  obtain ⟨v, u, rfl, hv, hu⟩ := repL2 hr
  cases hu
  cases hv
  refine (Any.strings_Repeat Tryd.lays105 Tryd.Builder_Extra_105 ⟨[b].toArray⟩ c w (by omega) (by show 1 * c ≤ _; omega)).mono ?_
  rintro e w' ⟨rfl, hb⟩
  refine ⟨_, rfl, hb, fun ow _ => ?_⟩
  have e : (⟨[b].toArray⟩ : ByteArray).data.toList = [b] := rfl
  rw [e, repeatL_one]
  exact .str _ (by rw [List.length_replicate]; simp only [lenMax]; omega)
omit [Av.Start] [TabSha] [TabBits] in
theorem wordV_take (bs : List UInt8) {i : Nat} (hi : i < 16) : wordV (bs.take 64) i = wordV bs i := by
  have e : ∀ j, j < 64 → (bs.take 64).getD j 0 = bs.getD j 0 := fun j hj => by
    rw [List.getD_eq_getElem?_getD, List.getElem?_take, if_pos hj, List.getD_eq_getElem?_getD]
  simp only [wordV, e (4 * i) (by omega), e (4 * i + 1) (by omega), e (4 * i + 2) (by omega), e (4 * i + 3) (by omega)]
omit [Av.Start] [TabSha] [TabBits] in
theorem blockV_take (s : S8) (bs : List UInt8) : blockV s (bs.take 64) = blockV s bs := by
  have e : wordsV (bs.take 64) 16 = wordsV bs 16 := List.map_congr_left fun i hi => wordV_take bs (List.mem_range.1 hi)
  rw [blockV, blockV, e]
theorem hash_calls (tx : List UInt8) (hl : tx.length ≤ 10000000) (w : World) (hi : Av.Inv w [] []) : Calls Tryd.prog 37 #[.string ⟨tx.toArray⟩] w fun e w' => e = .returned (.string ⟨(hashV tx).toArray⟩) ∧ RowKit.Below w.heap.size w w' := by
  obtain ⟨p1, p2, p3⟩ := padN_is tx.length
  refine calls_of6 (K := fun st => st.fr 5 = .ptr 0 0 ∧ st.h = [.row (sumV tx).cs]) (args := [.str tx]) (vs := [.string ⟨tx.toArray⟩]) [] mixed Tryd.func37 rfl (by kernel_rfl) (by rw [Tryd.ntmps37]; simp only [List.length_cons, List.length_nil]; omega) hi ⟨rfl, fun k h1 h2 => by match k with | 0 => exact .str _ (by simp only [lenMax]; omega)⟩ ?_ ?_
  · have hp : (IntKind.i64.wrap (119 - (tx.length : Int).tmod 64)).tmod 64 = ((padN tx.length : Nat) : Int) := by
      have e0 : (tx.length : Int).tmod 64 = (tx.length : Int) % 64 := Int.tmod_eq_emod_of_nonneg (by omega)
      rw [e0, wrap_id (by omega) (by omega), Int.tmod_eq_emod_of_nonneg (by omega), padN]
      omega
    have hsz : IntKind.u64.wrap (IntKind.u64.wrap (tx.length : Int) * 8) = (tx.length : Int) * 8 := by
      show ((tx.length : Int) % 18446744073709551616 * 8) % 18446744073709551616 = _
      omega
    have h1 : 1 ≤ lenMax := by decide
    try simp -implicitDefEqProofs only [hp, hsz, h1, push_cast, Nat.reduceEqDiff, Nat.reduceBEq, Nat.reduceBNe, Nat.reduceAdd, Nat.reduceMul, Nat.reduceLT, Nat.reduceLeDiff, Nat.reduceSub, reduceCtorEq, Int.reduceToNat, ↓reduceIte]
    repeat'
      (first
       | (refine uYes ?_; first | exact List.mem_cons_self | (simp only [List.mem_cons, List.not_mem_nil, or_false, true_or, or_true]; done))
       | (refine uNo (by kernel_rfl))
       | (refine flatMk ?_; kernel_rfl)
       | (refine And.intro ?_ ?_)
       | (intro hx)
       | ((first
           | (refine callGF ?_)
           | (refine callQGF ?_)
           | (refine skipG ?_)
           | (refine callS (repeat_gives 0 (padN tx.length) _ (by omega)) ?_)
           | (refine callQ (repeat_gives 0 (padN tx.length) _ (by omega)) ?_)
           | (refine callG (fun hc => (repeat_gives 0 (padN tx.length) _ (by omega))) ?_)
           | (refine callQG (fun hc => (repeat_gives 0 (padN tx.length) _ (by omega))) ?_)); simp -implicitDefEqProofs only [hp, hsz, h1, push_cast, Nat.reduceEqDiff, Nat.reduceBEq, Nat.reduceBNe, Nat.reduceAdd, Nat.reduceMul, Nat.reduceLT, Nat.reduceLeDiff, Nat.reduceSub, reduceCtorEq, Int.reduceToNat, ↓reduceIte]))
    all_goals try first
      | omega
      | (simp only [lenMax, List.length_replicate]; omega)
    refine ev_loopB (h := []) [] (fun j : Nat => [(0, .str (padP tx j)), (3, .int .u64 ((tx.length : Int) * 8)), (4, .int .i64 (56 - 8 * (j : Int)))])
      (fun j => []) (fun j => j ≤ 8) (fun j => 8 - j) 0 trivial (Nat.zero_le _) ?_ ?_
    · refine ⟨0, by simp, by simp [tokSts], ?_⟩
      simp -implicitDefEqProofs only [Int.natCast_add, Int.cast_ofNat_Int, List.length_nil, Nat.le_refl, WeakTo, tokSts, tokOks, List.append_cancel_left_eq, exists_eq_left', exists_eq_left, List.append_cancel_left_eq, List.take_length, ObCl, and_true, true_and, push_cast, Nat.reduceEqDiff, Nat.reduceBEq, Nat.reduceBNe, Nat.reduceAdd, Nat.reduceMul, Nat.reduceLT, Nat.reduceLeDiff, Nat.reduceSub, reduceCtorEq, Int.reduceToNat, ↓reduceIte]
      exact ⟨by simp [padP, headP], by omega⟩
    · intro j hj
      have hjl := padP_len tx j
      have hjd := byD_len (padP tx j)
      by_cases hlj : j < 8
      · have w9 : IntKind.i64.wrap (56 - 8 * (j : Int) - 8) = 56 - 8 * ((j : Int) + 1) := by rw [wrap_id (by omega) (by omega)]; omega
        have t9 : (56 - 8 * (j : Int)).toNat = 8 * (7 - j) := by omega
        have hs : IntKind.u8.wrap (((tx.length : Int) * 8).fdiv (2 ^ min (8 * (7 - j)) 64)) = ((sizeB tx.length j).toNat : Int) := by
          have := sizeB_is tx.length j hlj
          rw [Int.natCast_mul] at this
          exact this
        try simp -implicitDefEqProofs only [hjd, hjl, w9, t9, hs, h1, IntKind.bits, push_cast, Nat.reduceEqDiff, Nat.reduceBEq, Nat.reduceBNe, Nat.reduceAdd, Nat.reduceMul, Nat.reduceLT, Nat.reduceLeDiff, Nat.reduceSub, reduceCtorEq, Int.reduceToNat, ↓reduceIte]
        repeat'
          (first
           | (refine uYes ?_; first | exact List.mem_cons_self | (simp only [List.mem_cons, List.not_mem_nil, or_false, true_or, or_true]; done))
           | (refine uNo (by kernel_rfl))
           | (refine flatMk ?_; kernel_rfl)
           | (refine And.intro ?_ ?_)
           | (intro hx)
           | ((first
               | (refine callGF ?_)
               | (refine callQGF ?_)
               | (refine skipG ?_)
               | (refine callS (in_gives _ _ _ _) ?_)
               | (refine callQ (in_gives _ _ _ _) ?_)
               | (refine callG (fun hc => (in_gives _ _ _ _)) ?_)
               | (refine callQG (fun hc => (in_gives _ _ _ _)) ?_)); simp -implicitDefEqProofs only [hjd, hjl, w9, t9, hs, h1, IntKind.bits, push_cast, Nat.reduceEqDiff, Nat.reduceBEq, Nat.reduceBNe, Nat.reduceAdd, Nat.reduceMul, Nat.reduceLT, Nat.reduceLeDiff, Nat.reduceSub, reduceCtorEq, Int.reduceToNat, ↓reduceIte]))
        all_goals first
          | omega
          | (simp only [lenMax]; omega)
          | skip
        refine round_mk (j + 1) (by omega) (by omega) ?_
        simp -implicitDefEqProofs only [padP_succ, w9, UInt8.ofNat_toNat, Int.natCast_add, Int.cast_ofNat_Int, List.length_nil, Nat.le_refl, WeakTo, tokSts, tokOks, List.append_cancel_left_eq, exists_eq_left', exists_eq_left, List.append_cancel_left_eq, List.take_length, ObCl, and_true, true_and, push_cast, Nat.reduceEqDiff, Nat.reduceBEq, Nat.reduceBNe, Nat.reduceAdd, Nat.reduceMul, Nat.reduceLT, Nat.reduceLeDiff, Nat.reduceSub, reduceCtorEq, Int.reduceToNat, ↓reduceIte]
      · obtain rfl : j = 8 := by omega
        have hp8 : padP tx 8 = padV tx := rfl
        simp only [hp8]
        have r8 : rootsL.length = 8 := rfl
        have rt : rootsL.take 8 = rootsL := rfl
        have m8 : min 8 8 = 8 := rfl
        try simp -implicitDefEqProofs only [r8, rt, m8, push_cast, Nat.reduceEqDiff, Nat.reduceBEq, Nat.reduceBNe, Nat.reduceAdd, Nat.reduceMul, Nat.reduceLT, Nat.reduceLeDiff, Nat.reduceSub, reduceCtorEq, Int.reduceToNat, ↓reduceIte]
        repeat'
          (first
           | (refine uYes ?_; first | exact List.mem_cons_self | (simp only [List.mem_cons, List.not_mem_nil, or_false, true_or, or_true]; done))
           | (refine uNo (by kernel_rfl))
           | (refine flatMk ?_; kernel_rfl)
           | (refine And.intro ?_ ?_)
           | (intro hx)
           | ((first
               | (refine callGF ?_)
               | (refine callQGF ?_)
               | (refine skipG ?_)
               | (refine loadG (rootsL.map (.int .u32)) TabSha.roots ?_)); simp -implicitDefEqProofs only [r8, rt, m8, push_cast, Nat.reduceEqDiff, Nat.reduceBEq, Nat.reduceBNe, Nat.reduceAdd, Nat.reduceMul, Nat.reduceLT, Nat.reduceLeDiff, Nat.reduceSub, reduceCtorEq, Int.reduceToNat, ↓reduceIte]))
        all_goals try first
          | omega
          | (obtain ⟨x, _, rfl⟩ := List.mem_map.1 ‹_›; trivial)
        have hpl : (padV tx).length = tx.length + 1 + padN tx.length + 8 := padP_len tx 8
        obtain ⟨m, hm⟩ : ∃ m, (padV tx).length = 64 * m := ⟨(padV tx).length / 64, by omega⟩
        have hsum : sumV tx = sumN rootsS (padV tx) m := by rw [sumV, hm, show 64 * m / 64 = m by omega]
        rw [hsum]
        clear hsum hp8 hjl hjd
        obtain ⟨bs, hbs⟩ : ∃ bs, padV tx = bs := ⟨_, rfl⟩
        rw [hbs] at hm hpl ⊢
        have hm9 : 64 * m ≤ 10000100 := by omega
        refine ev_loop (h := []) (ls := [.row _]) [] (fun k : Nat => [(0, .str (bs.drop (64 * k))), (5, .ptr 0 0)])
          (fun k => [.row (sumN rootsS bs k).cs]) (fun k => k ≤ m) (fun k => m - k) 0 trivial (Nat.zero_le _) ?_ ?_
        · refine ⟨1, by simp, by simp [tokSts], ?_⟩
          simp -implicitDefEqProofs only [Int.natCast_add, Int.cast_ofNat_Int, List.length_nil, Nat.le_refl, WeakTo, tokSts, tokOks, List.append_cancel_left_eq, exists_eq_left', exists_eq_left, List.append_cancel_left_eq, List.take_length, ObCl, and_true, true_and, push_cast, Nat.reduceEqDiff, Nat.reduceBEq, Nat.reduceBNe, Nat.reduceAdd, Nat.reduceMul, Nat.reduceLT, Nat.reduceLeDiff, Nat.reduceSub, reduceCtorEq, Int.reduceToNat, ↓reduceIte]
          exact ⟨rfl, S8.cs_cl _ _⟩
        · intro k hk
          have h0 : 0 ≤ lenMax := by decide
          have t8 : List.take 8 (sumN rootsS bs k).cs = (sumN rootsS bs k).cs := rfl
          have d8 : List.drop 8 (sumN rootsS bs k).cs = [] := rfl
          have hdl : (bs.drop (64 * k)).length = 64 * m - 64 * k := by rw [List.length_drop, hm]
          by_cases hlk : k < m
          · have hne : bs.drop (64 * k) ≠ [] := fun e => by rw [e] at hdl; simp at hdl; omega
            have hb := blockV_take (sumN rootsS bs k) (bs.drop (64 * k))
            have hs1 : sumN rootsS bs (k + 1) = blockV (sumN rootsS bs k) (bs.drop (64 * k)) := by rw [sumN, hb]
            have hcl : (blockV (sumN rootsS bs k) (bs.drop (64 * k))).cs.length = 8 := rfl
            have hcl2 : (sumN rootsS bs k).cs.length = 8 := rfl
            have htk : List.take (64 * m - 64 * k) (List.drop (64 * k) bs) = List.drop (64 * k) bs := List.take_of_length_le (by omega)
            have hnd : decide (bs.drop (64 * k) = []) = false := decide_eq_false hne
            have hnx : bs.drop (64 * (k + 1)) = (bs.drop (64 * k)).drop 64 := by rw [List.drop_drop]; congr 1
            try simp -implicitDefEqProofs only [hdl, hcl, hcl2, hnd, htk, h0, t8, d8, List.append_nil, push_cast, Nat.reduceEqDiff, Nat.reduceBEq, Nat.reduceBNe, Nat.reduceAdd, Nat.reduceMul, Nat.reduceLT, Nat.reduceLeDiff, Nat.reduceSub, reduceCtorEq, Int.reduceToNat, ↓reduceIte]
            repeat'
              (first
               | (refine uYes ?_; first | exact List.mem_cons_self | (simp only [List.mem_cons, List.not_mem_nil, or_false, true_or, or_true]; done))
               | (refine uNo (by kernel_rfl))
               | (refine flatMk ?_; kernel_rfl)
               | (refine And.intro ?_ ?_)
               | (intro hx)
               | ((first
                   | (refine callGF ?_)
                   | (refine callQGF ?_)
                   | (refine skipG ?_)
                   | (refine callS (block_gives (sumN rootsS bs k) (bs.drop (64 * k)) _ (by omega) (by omega)) ?_)
                   | (refine callQ (block_gives (sumN rootsS bs k) (bs.drop (64 * k)) _ (by omega) (by omega)) ?_)
                   | (refine callG (fun hc => (block_gives (sumN rootsS bs k) (bs.drop (64 * k)) _ (by omega) (by omega))) ?_)
                   | (refine callQG (fun hc => (block_gives (sumN rootsS bs k) (bs.drop (64 * k)) _ (by omega) (by omega))) ?_)); simp -implicitDefEqProofs only [hdl, hcl, hcl2, hnd, htk, h0, t8, d8, List.append_nil, push_cast, Nat.reduceEqDiff, Nat.reduceBEq, Nat.reduceBNe, Nat.reduceAdd, Nat.reduceMul, Nat.reduceLT, Nat.reduceLeDiff, Nat.reduceSub, reduceCtorEq, Int.reduceToNat, ↓reduceIte]))
            all_goals first
              | omega
              | (obtain ⟨x, _, rfl⟩ := List.mem_map.1 ‹_›; trivial)
              | skip
            refine round_mk (k + 1) (by omega) (by omega) ?_
            simp -implicitDefEqProofs only [hs1, hnx, Int.natCast_add, Int.cast_ofNat_Int, List.length_nil, Nat.le_refl, WeakTo, tokSts, tokOks, List.append_cancel_left_eq, exists_eq_left', exists_eq_left, List.append_cancel_left_eq, List.take_length, ObCl, and_true, true_and, push_cast, Nat.reduceEqDiff, Nat.reduceBEq, Nat.reduceBNe, Nat.reduceAdd, Nat.reduceMul, Nat.reduceLT, Nat.reduceLeDiff, Nat.reduceSub, reduceCtorEq, Int.reduceToNat, ↓reduceIte]
            exact S8.cs_cl _ _
          · obtain rfl : k = m := by omega
            have hnd : bs.drop (64 * k) = [] := List.drop_eq_nil_of_le (by omega)
            rw [hnd]
            try simp -implicitDefEqProofs only [h0, push_cast, Nat.reduceEqDiff, Nat.reduceBEq, Nat.reduceBNe, Nat.reduceAdd, Nat.reduceMul, Nat.reduceLT, Nat.reduceLeDiff, Nat.reduceSub, reduceCtorEq, Int.reduceToNat, ↓reduceIte]
            repeat'
              (first
               | (refine uYes ?_; first | exact List.mem_cons_self | (simp only [List.mem_cons, List.not_mem_nil, or_false, true_or, or_true]; done))
               | (refine uNo (by kernel_rfl))
               | (refine flatMk ?_; kernel_rfl)
               | (refine And.intro ?_ ?_)
               | (intro hx)
               | ((first
                   | (refine callGF ?_)
                   | (refine callQGF ?_)
                   | (refine skipG ?_)
                   | (refine callS (in_gives _ _ _ _) ?_)
                   | (refine callQ (in_gives _ _ _ _) ?_)
                   | (refine callG (fun hc => (in_gives _ _ _ _)) ?_)
                   | (refine callQG (fun hc => (in_gives _ _ _ _)) ?_)); simp -implicitDefEqProofs only [h0, push_cast, Nat.reduceEqDiff, Nat.reduceBEq, Nat.reduceBNe, Nat.reduceAdd, Nat.reduceMul, Nat.reduceLT, Nat.reduceLeDiff, Nat.reduceSub, reduceCtorEq, Int.reduceToNat, ↓reduceIte]))
            all_goals first
              | omega
              | trace_state
  · intro w1 σ1 a1 st1 hK H1 hS1
    obtain ⟨fr1, h1⟩ := st1
    obtain ⟨k5, kh⟩ := hK
    simp only at k5 kh
    subst kh
    have hb1 := step0_below hS1
    refine wp_seq (wp_region_list ?_)
    refine wpList_op (R := fun v w' => v = .pointer (some ⟨w1.heap.size, 0, none⟩) ∧ w' = w1.alloc (.cells #[.pointer none, .slice none 0 0] 73)) rfl (.inl ⟨_, _, ?_, rfl, rfl⟩) ?_
    · simp [execOp, Instr.alloc, Tryd.zeroValue73, newVar, newRow]
      rfl
    rintro v w2 ⟨rfl, rfl⟩
    obtain ⟨b, hbe⟩ : ∃ b, w1.heap.size = b := ⟨_, rfl⟩
    rw [hbe]
    have hlw : w.heap.size ≤ b := by rw [← hbe]; exact hS1.size
    have hsw : Av.Start.w0.heap.size ≤ b := Nat.le_trans hi.kept.size hlw
    obtain ⟨w2, hw2⟩ : ∃ w2, w1.alloc (.cells #[.pointer none, .slice none 0 0] 73) = w2 := ⟨_, rfl⟩
    have hbk : w2.heap[b]? = some (.cells #[.pointer none, .slice none 0 0] 73) := by
      rw [← hw2, ← hbe]
      exact heap_alloc_new w1 _
    have hb2 : b < w2.heap.size := by rw [← hw2, ← hbe]; simp
    have hA : Adds w1 w2 := by rw [← hw2]; exact (Adds.refl w1).alloc _
    rw [hw2]
    obtain ⟨i2, s2⟩ := inv_add H1.inv hA (some b) .dead (fun b' e => by cases e; exact ⟨by omega, hb2⟩) (fun cs e => by cases e)
    -- the words are read
    have H2 := H1.put (dst := some 6) s2 i2 (d := .ptr 1 0) (v := .pointer (some ⟨b, 0, none⟩)) (.ptr 1 0 b (by simp) (fun m hm => by simp at hm) (by
      have hl := H1.inv.len
      simp only [List.length_cons, List.length_nil] at hl
      rw [List.getElem?_append_right (by omega), hl]
      rfl)) (fun t e => by cases e; rw [Tryd.ntmps37]; decide)
    have hn : Tryd.f37.ntmps = 59 := Tryd.ntmps37
    have hnb : ∀ o, ¬ Go.Av.own (σ1 ++ [some b]) ([Ob.row (sumV tx).cs] ++ [Ob.dead]) b o := by
      rintro o ⟨r, h1, h2⟩
      have hl := H1.inv.len
      simp only [List.length_cons, List.length_nil] at hl
      match r with
      | 0 =>
        rw [List.getElem?_append_left (by omega)] at h1
        have := H1.inv.lt 0 b h1
        omega
      | 1 => rcases h2 with ⟨cs, e⟩ | ⟨m, e, _⟩ <;> simp at e
      | r + 2 => rw [List.getElem?_eq_none (by simp; omega)] at h1; cases h1
    refine wp_seq (wp_seq (ev_piece (mu := []) (K := AtF [(6, .ptr 1 0), (43, .agg ((sumV tx).l.map (.int .u32))), (44, .int .i64 0)] [.row (sumV tx).cs, .dead]) mixed (by kernel_rfl) ?_ H2 ?_))
    · have hcl : (sumV tx).cs.length = 8 := rfl
      have t8 : List.take 8 (sumV tx).cs = (sumV tx).cs := rfl
      simp only [putO]
      try simp -implicitDefEqProofs only [k5, hcl, t8, push_cast, Nat.reduceEqDiff, Nat.reduceBEq, Nat.reduceBNe, Nat.reduceAdd, Nat.reduceMul, Nat.reduceLT, Nat.reduceLeDiff, Nat.reduceSub, reduceCtorEq, Int.reduceToNat, ↓reduceIte]
      repeat'
        (first
         | (refine uYes ?_; first | exact List.mem_cons_self | (simp only [List.mem_cons, List.not_mem_nil, or_false, true_or, or_true]; done))
         | (refine uNo (by kernel_rfl))
         | (refine flatMk ?_; kernel_rfl)
         | (refine And.intro ?_ ?_)
         | (intro hx)
         | ((first
             | (refine callGF ?_)
             | (refine callQGF ?_)
             | (refine skipG ?_)
             | (refine callS (in_gives _ _ _ _) ?_)
             | (refine callQ (in_gives _ _ _ _) ?_)
             | (refine callG (fun hc => (in_gives _ _ _ _)) ?_)
             | (refine callQG (fun hc => (in_gives _ _ _ _)) ?_)); simp -implicitDefEqProofs only [k5, hcl, t8, push_cast, Nat.reduceEqDiff, Nat.reduceBEq, Nat.reduceBNe, Nat.reduceAdd, Nat.reduceMul, Nat.reduceLT, Nat.reduceLeDiff, Nat.reduceSub, reduceCtorEq, Int.reduceToNat, ↓reduceIte]))
      all_goals first
        | omega
        | exact ⟨rfl, rfl, rfl, rfl, trivial⟩
    · intro st3 σ3 a3 w3 hK3 H3 hS3
      have hS := (hS1.trans s2).trans (H2.inv.kept.size |> fun _ => hS3)
      have hb3 : b < w3.heap.size := Nat.lt_of_lt_of_le hb2 hS3.size
      have hbk3 : w3.heap[b]? = some (.cells #[.pointer none, .slice none 0 0] 73) := (hS3.block b hb2 hnb).trans hbk
      have hsg : σ3[1]? = some (some b) := by
        have := (hS3.mono.sig 1 (by simp) (fun m hm => by simp at hm)).1
        rw [this]
        have hl := H1.inv.len
        simp only [List.length_cons, List.length_nil] at hl
        rw [List.getElem?_append_right (by omega), hl]
        rfl
      have T3 := tailOk_of (b := b) (r := 1) (p6 := 6) (p43 := 43) (p44 := 44) H3 hsg hb3 hK3.l.1 hK3.l.2.1 hK3.l.2.2.1
      have hbw3 : RowKit.Below w.heap.size w w3 := step0_below hS
      have hB3 : Lib.IsBuilderF 73 5 b b (Lib.byteCells (hexOf (sumBs (sumV tx) 0))) w3 := .inl ⟨Nat.le_refl _, _, hbk3, World.ownsRowF_nil _ _ _ _, by simp [Value.ownBlock]⟩
      obtain ⟨S, hSe⟩ : ∃ S, sumV tx = S := ⟨_, rfl⟩
      have hWS : S.W := hSe ▸ sumN_w roots_w _ _
      rw [hSe] at T3 hB3
      refine wp_block (wp_loop (fun a' w' => ∃ i : Nat, i ≤ 8 ∧ TailOk Tryd.f37.ntmps b 6 43 44 S.l (i : Int) w' a' ∧ Lib.IsBuilderF 73 5 b b (Lib.byteCells (hexOf (sumBs S i))) w' ∧ RowKit.Below b w3 w')
        (fun a' _ => match a'.tmps.getD 44 undef with | .int _ i => (8 - i).toNat | _ => 0) ⟨0, by omega, T3, hB3, .refl _ _⟩ ?_)
      rintro a' w' ⟨i, hi8, T, hB, hbl⟩
      by_cases hlt : i < 8
      · refine ev_two (mu := []) (K := AtF [(6, .ptr 0 0), (43, .agg (S.l.map (.int .u32))), (44, .int .i64 i)] [.dead]) mixed (by kernel_rfl) (by kernel_rfl) ?_ T.cnc ?_
        · try simp -implicitDefEqProofs only [push_cast, Nat.reduceEqDiff, Nat.reduceBEq, Nat.reduceBNe, Nat.reduceAdd, Nat.reduceMul, Nat.reduceLT, Nat.reduceLeDiff, Nat.reduceSub, reduceCtorEq, Int.reduceToNat, ↓reduceIte]
          repeat'
            (first
             | (refine uYes ?_; first | exact List.mem_cons_self | (simp only [List.mem_cons, List.not_mem_nil, or_false, true_or, or_true]; done))
             | (refine uNo (by kernel_rfl))
             | (refine flatMk ?_; kernel_rfl)
             | (refine And.intro ?_ ?_)
             | (intro hx)
             | ((first
                 | (refine callGF ?_)
                 | (refine callQGF ?_)
                 | (refine skipG ?_)
                 | (refine callS (in_gives _ _ _ _) ?_)
                 | (refine callQ (in_gives _ _ _ _) ?_)
                 | (refine callG (fun hc => (in_gives _ _ _ _)) ?_)
                 | (refine callQG (fun hc => (in_gives _ _ _ _)) ?_)); simp -implicitDefEqProofs only [push_cast, Nat.reduceEqDiff, Nat.reduceBEq, Nat.reduceBNe, Nat.reduceAdd, Nat.reduceMul, Nat.reduceLT, Nat.reduceLeDiff, Nat.reduceSub, reduceCtorEq, Int.reduceToNat, ↓reduceIte]))
          all_goals first
            | omega
            | exact ⟨rfl, rfl, rfl, rfl, trivial⟩
        · intro st4 σ4 a4 w4 hK4 H4 hS4
          obtain ⟨C4, B4⟩ := hK4.pin H4 hS4
          have hg : S.l[i]? = some (S.l.getD i 0) := by rw [List.getD_eq_getElem?_getD, List.getElem?_eq_getElem (show i < S.l.length from hlt)]; rfl
          have hW : W32 (S.l.getD i 0) := hWS.all _ (List.mem_of_getElem? hg)
          have hnx := sumBs_succ S hlt
          obtain ⟨x, hxe⟩ : ∃ x, S.l.getD i 0 = x := ⟨_, rfl⟩
          rw [hxe] at hW hnx
          obtain ⟨y, rfl⟩ := Int.eq_ofNat_of_zero_le hW.1
          have hy : y < 4294967296 := by have := hW.2; omega
          obtain ⟨m, hm⟩ := hexN_is y hy
          have hm8 := hm.2.1
          have hgd : ((S.l.map (D.int .u32)).getD i .junk) = .int .u32 (y : Int) := by
            rw [List.getD_eq_getElem?_getD, List.getElem?_map, hg, hxe]
            rfl
          have hSl : S.l.length = 8 := rfl
          have w6 : IntKind.u64.wrap (y : Int) = y := by show (y : Int) % 18446744073709551616 = y; omega
          refine wp_seq (wp_block (ev_two (mu := []) (K := AtF [(6, .ptr 0 0), (43, .agg (S.l.map (.int .u32))), (44, .int .i64 i), (9, .str (lowD y m))] [.dead]) mixed (by kernel_rfl) (by kernel_rfl) ?_ C4 ?_))
          · try simp -implicitDefEqProofs only [hgd, w6, hSl, push_cast, Nat.reduceEqDiff, Nat.reduceBEq, Nat.reduceBNe, Nat.reduceAdd, Nat.reduceMul, Nat.reduceLT, Nat.reduceLeDiff, Nat.reduceSub, reduceCtorEq, Int.reduceToNat, ↓reduceIte]
            repeat'
              (first
               | (refine uYes ?_; first | exact List.mem_cons_self | (simp only [List.mem_cons, List.not_mem_nil, or_false, true_or, or_true]; done))
               | (refine uNo (by kernel_rfl))
               | (refine flatMk ?_; kernel_rfl)
               | (refine And.intro ?_ ?_)
               | (intro hx)
               | ((first
                   | (refine callGF ?_)
                   | (refine callQGF ?_)
                   | (refine skipG ?_)
                   | (refine callS (fmtUint_gives y m hy hm _) ?_)
                   | (refine callQ (fmtUint_gives y m hy hm _) ?_)
                   | (refine callG (fun hc => (fmtUint_gives y m hy hm _)) ?_)
                   | (refine callQG (fun hc => (fmtUint_gives y m hy hm _)) ?_)); simp -implicitDefEqProofs only [hgd, w6, hSl, push_cast, Nat.reduceEqDiff, Nat.reduceBEq, Nat.reduceBNe, Nat.reduceAdd, Nat.reduceMul, Nat.reduceLT, Nat.reduceLeDiff, Nat.reduceSub, reduceCtorEq, Int.reduceToNat, ↓reduceIte]))
            all_goals first
              | omega
              | exact ⟨rfl, rfl, rfl, rfl, rfl, trivial⟩
              | trace_state
          · intro st5 σ5 a5 w5 hK5 H5 hS5
            obtain ⟨C5, B5⟩ := hK5.pin H5 hS5
            refine wp_region_list ?_
            have h8 : lowD y (m + (8 - m)) = List.replicate (8 - m) 48 ++ lowD y m := lowD_fill hm.2.2.1 (8 - m)
            rw [show m + (8 - m) = 8 by omega] at h8
            have hml := lowD_len y m
            have h1l : 1 ≤ lenMax := by decide
            have w8 : IntKind.i64.wrap (8 - (m : Int)) = ((8 - m : Nat) : Int) := by rw [wrap_id (by omega) (by omega)]; omega
            refine ops_pre (mu := []) (K := AtF [(6, .ptr 0 0), (43, .agg (S.l.map (.int .u32))), (44, .int .i64 i), (55, .str (lowD y 8))] [.dead]) [_] [_, _, _, _, _, _] _ (by kernel_rfl) ?_ _ _ _ C5 ?_
            · try simp -implicitDefEqProofs only [hml, h1l, w8, h8, push_cast, Nat.reduceEqDiff, Nat.reduceBEq, Nat.reduceBNe, Nat.reduceAdd, Nat.reduceMul, Nat.reduceLT, Nat.reduceLeDiff, Nat.reduceSub, reduceCtorEq, Int.reduceToNat, ↓reduceIte]
              repeat'
                (first
                 | (refine uYes ?_; first | exact List.mem_cons_self | (simp only [List.mem_cons, List.not_mem_nil, or_false, true_or, or_true]; done))
                 | (refine uNo (by kernel_rfl))
                 | (refine flatMk ?_; kernel_rfl)
                 | (refine And.intro ?_ ?_)
                 | (intro hx)
                 | ((first
                     | (refine callGF ?_)
                     | (refine callQGF ?_)
                     | (refine skipG ?_)
                     | (refine callS (repeat_gives 48 (8 - m) _ (by omega)) ?_)
                     | (refine callQ (repeat_gives 48 (8 - m) _ (by omega)) ?_)
                     | (refine callG (fun hc => (repeat_gives 48 (8 - m) _ (by omega))) ?_)
                     | (refine callQG (fun hc => (repeat_gives 48 (8 - m) _ (by omega))) ?_)); simp -implicitDefEqProofs only [hml, h1l, w8, h8, push_cast, Nat.reduceEqDiff, Nat.reduceBEq, Nat.reduceBNe, Nat.reduceAdd, Nat.reduceMul, Nat.reduceLT, Nat.reduceLeDiff, Nat.reduceSub, reduceCtorEq, Int.reduceToNat, ↓reduceIte]))
              all_goals first
                | omega
                | (simp only [lenMax, List.length_replicate]; omega)
                | exact ⟨rfl, rfl, rfl, rfl, rfl, trivial⟩
                | trace_state
            · intro st6 σ6 a6 w6 hK6 H6 hS6
              obtain ⟨C6, B6⟩ := hK6.pin H6 hS6
              have hb46 : RowKit.Below w'.heap.size w' w6 := (B4.trans (below_less B5 B4.size)).trans (below_less B6 (Nat.le_trans B4.size B5.size))
              have hB6 := isB_below hB hb46
              have hbw6 : b < w6.heap.size := C6.inv.lt 0 b rfl
              have v6 : a6.tmps.getD 6 undef = .pointer (some ⟨b, 0, none⟩) := ptr_pin (r := 0) rfl (C6.fr 6)
              have v55 : a6.tmps.getD 55 undef = .string ⟨(lowD y 8).toArray⟩ := str_pin (C6.fr 55)
              have cW := Any.Builder_WriteString_k { Tryd.lays105 with } Tryd.Builder_Extra_105 b b (Lib.byteCells (hexOf (sumBs S i))) ⟨(lowD y 8).toArray⟩ w6 hB6 (by
                rw [Lib.byteCells_length, hexOf_len, sumBs_len S (by omega)]
                show _ + (lowD y 8).length ≤ _
                rw [lowD_len]
                omega) (by omega)
              have hcat : Lib.byteCells (hexOf (sumBs S i)) ++ Lib.strCells ⟨(lowD y 8).toArray⟩ = Lib.byteCells (hexOf (sumBs S (i + 1))) := by
                rw [hnx, hexOf_app, lowD_byte4 hy]
                show Lib.byteCells _ ++ Lib.byteCells (lowD y 8) = _
                rw [Lib.byteCells, Lib.byteCells, Lib.byteCells, List.map_append]
              refine wpList_op (R := fun v w' => Lib.IsBuilderF 73 5 b b (Lib.byteCells (hexOf (sumBs S (i + 1)))) w' ∧ RowKit.Below b w6 w') rfl (opres_call rfl (enters_at Tryd.func49 (by kernel_rfl) (by kernel_rfl)) (vs := #[.pointer (some ⟨b, 0, none⟩), .string ⟨(lowD y 8).toArray⟩]) ?_ (cW.mono ?_)) ?_
              · simp only [List.map_toArray, List.map_cons, List.map_nil]
                show #[a6.tmps.getD 6 undef, a6.tmps.getD 55 undef] = _
                rw [v6, v55]
              · rintro e w7 ⟨rfl, h7, b7, _⟩
                rw [hcat] at h7
                exact ⟨_, rfl, .inr h7, b7⟩
              · rintro v w7 ⟨h7, b7⟩
                have hsz : a6.tmps.size = 59 := C6.size
                have T7 : TailOk Tryd.f37.ntmps b 6 43 44 S.l (i : Int) w7 (a6.put (some 56) v) := by
                  refine ⟨pin_below C6.inv hsw b7, by simp [Act.put, C6.defers], by simp [Act.put, C6.size], ?_, ?_, ?_⟩
                  · rw [put_tmps a6 56 v 6 (by omega), if_neg (by decide)]; exact v6
                  · rw [put_tmps a6 56 v 43 (by omega), if_neg (by decide)]; exact rep_ints (C6.fr 43)
                  · rw [put_tmps a6 56 v 44 (by omega), if_neg (by decide)]; exact int_pin (C6.fr 44)
                have w9 : IntKind.i64.wrap ((i : Int) + 1) = i + 1 := wrap_id (by omega) (by omega)
                refine ev_piece (mu := []) (K := AtF [(6, .ptr 0 0), (43, .agg (S.l.map (.int .u32))), (44, .int .i64 ((i : Int) + 1))] [.dead]) mixed (by kernel_rfl) ?_ T7.cnc ?_
                · try simp -implicitDefEqProofs only [w9, push_cast, Nat.reduceEqDiff, Nat.reduceBEq, Nat.reduceBNe, Nat.reduceAdd, Nat.reduceMul, Nat.reduceLT, Nat.reduceLeDiff, Nat.reduceSub, reduceCtorEq, Int.reduceToNat, ↓reduceIte]
                  repeat'
                    (first
                     | (refine uYes ?_; first | exact List.mem_cons_self | (simp only [List.mem_cons, List.not_mem_nil, or_false, true_or, or_true]; done))
                     | (refine uNo (by kernel_rfl))
                     | (refine flatMk ?_; kernel_rfl)
                     | (refine And.intro ?_ ?_)
                     | (intro hx)
                     | ((first
                         | (refine callGF ?_)
                         | (refine callQGF ?_)
                         | (refine skipG ?_)
                         | (refine callS (in_gives _ _ _ _) ?_)
                         | (refine callQ (in_gives _ _ _ _) ?_)
                         | (refine callG (fun hc => (in_gives _ _ _ _)) ?_)
                         | (refine callQG (fun hc => (in_gives _ _ _ _)) ?_)); simp -implicitDefEqProofs only [w9, push_cast, Nat.reduceEqDiff, Nat.reduceBEq, Nat.reduceBNe, Nat.reduceAdd, Nat.reduceMul, Nat.reduceLT, Nat.reduceLeDiff, Nat.reduceSub, reduceCtorEq, Int.reduceToNat, ↓reduceIte]))
                  all_goals first
                    | omega
                    | exact ⟨rfl, rfl, rfl, rfl, trivial⟩
                    | trace_state
                · intro st8 σ8 a8 w8 hK8 H8 hS8
                  obtain ⟨C8, B8⟩ := hK8.pin H8 hS8
                  have hb78 : RowKit.Below b w7 w8 := below_less B8 (Nat.le_of_lt (T7.inv.lt 0 b rfl))
                  have T8 := tailOk_of (b := b) (r := 0) (p6 := 6) (p43 := 43) (p44 := 44) (zs := S.l) (i := ((i : Int) + 1)) C8 rfl (C8.inv.lt 0 b rfl) rfl rfl rfl
                  refine ⟨⟨i + 1, by omega, by rw [Int.natCast_add]; exact T8, isB_below h7 B8, (hbl.trans (below_less hb46 (Nat.le_of_lt (T.inv.lt 0 b rfl)))).trans (b7.trans hb78)⟩, ?_⟩
                  rw [T.t44, T8.t44]
                  simp only
                  omega
      · obtain rfl : i = 8 := by omega
        refine wp_mono (ev_sound (mu := []) (Q := fun e st => e = .exit 4 ∧ AtF [(6, .ptr 0 0)] [.dead] st) mixed _ _ (by kernel_rfl) ?_ _ _ _ T.cnc) ?_
        · try simp -implicitDefEqProofs only [push_cast, Nat.reduceEqDiff, Nat.reduceBEq, Nat.reduceBNe, Nat.reduceAdd, Nat.reduceMul, Nat.reduceLT, Nat.reduceLeDiff, Nat.reduceSub, reduceCtorEq, Int.reduceToNat, ↓reduceIte]
          repeat'
            (first
             | (refine uYes ?_; first | exact List.mem_cons_self | (simp only [List.mem_cons, List.not_mem_nil, or_false, true_or, or_true]; done))
             | (refine uNo (by kernel_rfl))
             | (refine flatMk ?_; kernel_rfl)
             | (refine And.intro ?_ ?_)
             | (intro hx)
             | ((first
                 | (refine callGF ?_)
                 | (refine callQGF ?_)
                 | (refine skipG ?_)
                 | (refine callS (in_gives _ _ _ _) ?_)
                 | (refine callQ (in_gives _ _ _ _) ?_)
                 | (refine callG (fun hc => (in_gives _ _ _ _)) ?_)
                 | (refine callQG (fun hc => (in_gives _ _ _ _)) ?_)); simp -implicitDefEqProofs only [push_cast, Nat.reduceEqDiff, Nat.reduceBEq, Nat.reduceBNe, Nat.reduceAdd, Nat.reduceMul, Nat.reduceLT, Nat.reduceLeDiff, Nat.reduceSub, reduceCtorEq, Int.reduceToNat, ↓reduceIte]))
          all_goals first
            | omega
            | exact ⟨rfl, rfl, trivial⟩
            | trace_state
        · rintro e a5 w5 ⟨st5, σ5, ⟨rfl, hK5⟩, H5, hS5⟩
          obtain ⟨C5, B5⟩ := hK5.pin H5 hS5
          have h9 := isB_below hB B5
          have b9 : RowKit.Below b w3 w5 := hbl.trans (below_less B5 (Nat.le_of_lt (T.inv.lt 0 b rfl)))
          have hbs : sumBs S 8 = S.l.flatMap byte4 := rfl
          rw [hbs, ← hSe] at h9
          have v6 : a5.tmps.getD 6 undef = .pointer (some ⟨b, 0, none⟩) := ptr_pin (r := 0) rfl (C5.fr 6)
          have cS := Any.Builder_String_any_k { Tryd.lays105 with } Tryd.Builder_Extra_105 b b (hashV tx) w5 h9 (Nat.le_of_lt (C5.inv.lt 0 b rfl))
          show Code.wp _ _ _ _ _
          refine wp_seq (wp_region_list ?_)
          refine wpList_op (R := fun v w' => v = .string ⟨(hashV tx).toArray⟩ ∧ RowKit.Below b w5 w') rfl (opres_call rfl (enters_at Tryd.func50 (by kernel_rfl) (by kernel_rfl)) (vs := #[.pointer (some ⟨b, 0, none⟩)]) ?_ (cS.mono ?_)) ?_
          · simp only [List.map_toArray, List.map_cons, List.map_nil]
            show #[a5.tmps.getD 6 undef] = _
            rw [v6]
          · rintro e w7 ⟨rfl, h7, b7, _⟩
            exact ⟨_, rfl, rfl, b7⟩
          · rintro v w7 ⟨rfl, b7⟩
            have hsz : a5.tmps.size = 59 := C5.size
            have C7 : Cnc Tryd.f37.ntmps w7 [some b] (a5.put (some 58) (.string ⟨(hashV tx).toArray⟩)) ⟨frL [(58, .str (hashV tx))], [.dead]⟩ := by
              refine cnc_pin (pin_below C5.inv hsw b7) (by simp [Act.put, C5.defers]) (by simp [Act.put, C5.size]) fun p hp => ?_
              simp only [List.mem_cons, List.not_mem_nil, or_false] at hp
              subst hp
              rw [put_tmps a5 58 _ 58 (by omega), if_pos rfl]
              exact .str _ (by rw [hashV_len]; decide)
            refine ops_sound (mu := []) (ops := [_, _]) [_] _ (AtF [(2, .str (hashV tx))] [.dead]) (by kernel_rfl) ?_ _ _ _ C7 ?_
            · try simp -implicitDefEqProofs only [push_cast, Nat.reduceEqDiff, Nat.reduceBEq, Nat.reduceBNe, Nat.reduceAdd, Nat.reduceMul, Nat.reduceLT, Nat.reduceLeDiff, Nat.reduceSub, reduceCtorEq, Int.reduceToNat, ↓reduceIte]
              repeat'
                (first
                 | (refine uYes ?_; first | exact List.mem_cons_self | (simp only [List.mem_cons, List.not_mem_nil, or_false, true_or, or_true]; done))
                 | (refine uNo (by kernel_rfl))
                 | (refine flatMk ?_; kernel_rfl)
                 | (refine And.intro ?_ ?_)
                 | (intro hx)
                 | ((first
                     | (refine callGF ?_)
                     | (refine callQGF ?_)
                     | (refine skipG ?_)
                     | (refine callS (in_gives _ _ _ _) ?_)
                     | (refine callQ (in_gives _ _ _ _) ?_)
                     | (refine callG (fun hc => (in_gives _ _ _ _)) ?_)
                     | (refine callQG (fun hc => (in_gives _ _ _ _)) ?_)); simp -implicitDefEqProofs only [push_cast, Nat.reduceEqDiff, Nat.reduceBEq, Nat.reduceBNe, Nat.reduceAdd, Nat.reduceMul, Nat.reduceLT, Nat.reduceLeDiff, Nat.reduceSub, reduceCtorEq, Int.reduceToNat, ↓reduceIte]))
              all_goals first
                | omega
                | exact ⟨rfl, rfl, trivial⟩
                | trace_state
            · intro st8 σ8 a8 w8 hK8 H8 hS8
              obtain ⟨C8, B8⟩ := hK8.pin H8 hS8
              show Code.wp _ _ _ _ _
              refine wp_ret ?_
              obtain ⟨v, e1, e2⟩ := res_sound (P := Tryd.prog) (fn := Tryd.f37) C8 (fun r hr => by
                rw [Tryd.results37] at hr
                simp only [List.mem_cons, List.not_mem_nil, or_false] at hr
                subst hr
                trivial)
              refine ⟨C8.defers, v, e1, ?_, ?_⟩
              · rw [Tryd.results37] at e2
                have := str_pin (s := hashV tx) e2
                rw [this]
              · exact hbw3.trans (below_less (b9.trans (b7.trans (below_less B8 (by have := b7.size; have := C5.inv.lt 0 b rfl; omega)))) hlw)
theorem hash_gives (tx : List UInt8) (h : Hp) (hl : tx.length ≤ 10000000) : Gives Tryd.prog 37 [.str tx] h (.str (hashV tx)) := by
  refine gives_lib (enters_at Tryd.func37 (by kernel_rfl) (by kernel_rfl)) fun w σ vs hi hr => ?_
  obtain ⟨v, rfl, hv⟩ := repL1 hr
  cases hv
  refine (hash_calls tx hl w (inv_none hi)).mono ?_
  rintro e w' ⟨rfl, hb⟩
  exact ⟨_, rfl, hb, fun ow _ => .str _ (by rw [hashV_len]; decide)⟩
end Go.Proofs.YtcmpcpigchlhpaaDoor

/- Logs in plain words: entries, and what can be read of a text. -/
namespace Go.Proofs.YtcmpcpigchlhpaaDoor
set_option linter.unusedSectionVars false
open Go.Av
variable [Av.Start] [TabSha]
set_option maxRecDepth 10000
set_option maxHeartbeats 1000000
set_option linter.unusedSimpArgs false
set_option linter.unusedVariables false

def entT (n : Nat) (r : List UInt8) : List UInt8 := Lib.itoa n ++ 58 :: (Lib.itoa r.length ++ 58 :: r)
def entryV (n : Nat) (r : List UInt8) : List UInt8 := entT n r ++ ((hashV (entT n r)).take 12 ++ [59])
theorem entT_len (n : Nat) (r : List UInt8) : (entT n r).length = (Lib.itoa n).length + (Lib.itoa r.length).length + 2 + r.length := by
  simp only [entT, List.length_append, List.length_cons]
  omega
theorem entryV_len (n : Nat) (r : List UInt8) : (entryV n r).length = (entT n r).length + 13 := by
  rw [entryV, List.length_append, List.length_append, List.length_take, hashV_len]
  rfl
theorem cut_uniq {c : UInt8} : ∀ {a a' x x' : List UInt8}, a ++ c :: x = a' ++ c :: x' → c ∉ a → c ∉ a' → a = a' ∧ x = x'
  | [], [], _, _, h, _, _ => ⟨rfl, by simpa using h⟩
  | [], b :: a', _, _, h, _, h2 => by
    simp only [List.nil_append, List.cons_append, List.cons.injEq] at h
    exact absurd (h.1 ▸ List.mem_cons_self) h2
  | b :: a, [], _, _, h, h1, _ => by
    simp only [List.nil_append, List.cons_append, List.cons.injEq] at h
    exact absurd (h.1 ▸ List.mem_cons_self) h1
  | b :: a, b' :: a', x, x', h, h1, h2 => by
    simp only [List.cons_append, List.cons.injEq] at h
    obtain ⟨e1, e2⟩ := cut_uniq h.2 (fun hm => h1 (List.mem_cons_of_mem _ hm)) (fun hm => h2 (List.mem_cons_of_mem _ hm))
    exact ⟨by rw [h.1, e1], e2⟩
theorem itoa_no58 (n : Int) : (58 : UInt8) ∉ Lib.itoa n := fun h => by
  rcases itoa_mem h with h | h
  · simp [isDg] at h
  · cases h
theorem itoa_inj {a b : Nat} (ha : a ≤ 9223372036854775807) (hb : b ≤ 9223372036854775807) (h : Lib.itoa (a : Int) = Lib.itoa (b : Int)) : a = b := by
  have h1 := numV_itoa (n := (a : Int)) (by omega) (by omega)
  have h2 := numV_itoa (n := (b : Int)) (by omega) (by omega)
  rw [h, h2] at h1
  have := congrArg Prod.fst h1
  simp only at this
  omega
/-- An entry ahead of a text, taken apart. -/
theorem ent_parse {n : Nat} {r s : List UInt8} (h : entryV n r <+: s) : ∃ tl, s = Lib.itoa n ++ 58 :: (Lib.itoa r.length ++ 58 :: (r ++ tl)) := by
  obtain ⟨t, rfl⟩ := h
  exact ⟨((hashV (entT n r)).take 12 ++ [59]) ++ t, by simp [entryV, entT, List.append_assoc]⟩
theorem ent_cut {n : Nat} {r s a bh : List UInt8} (h : entryV n r <+: s) (hs : s = a ++ 58 :: bh) (ha : (58 : UInt8) ∉ a) : a = Lib.itoa n ∧ ∃ tl, bh = Lib.itoa r.length ++ 58 :: (r ++ tl) := by
  obtain ⟨tl, e⟩ := ent_parse h
  rw [hs] at e
  obtain ⟨e1, e2⟩ := cut_uniq e ha (itoa_no58 _)
  exact ⟨e1, tl, e2⟩
theorem ent_cut2 {n : Nat} {r s a lg bd : List UInt8} (h : entryV n r <+: s) (hs : s = a ++ 58 :: (lg ++ 58 :: bd)) (ha : (58 : UInt8) ∉ a) (hl : (58 : UInt8) ∉ lg) : lg = Lib.itoa r.length ∧ ∃ tl, bd = r ++ tl := by
  obtain ⟨_, tl, e⟩ := ent_cut h hs ha
  obtain ⟨e1, e2⟩ := cut_uniq e hl (itoa_no58 _)
  exact ⟨e1, tl, e2⟩
theorem ent_uniq {n : Nat} {r r' s : List UInt8} (hs : s.length ≤ 9223372036854775807) (h : entryV n r <+: s) (h' : entryV n r' <+: s) : r = r' := by
  have l1 := h.length_le
  have l2 := h'.length_le
  rw [entryV_len, entT_len] at l1 l2
  obtain ⟨tl, e⟩ := ent_parse h
  obtain ⟨e1, tl', e2⟩ := ent_cut2 h' e (itoa_no58 _) (itoa_no58 _)
  have hl := itoa_inj (by omega) (by omega) e1
  exact (List.append_inj e2 hl).1
/-- entries one behind the other -/
def joinE : Nat → List (List UInt8) → List UInt8
  | _, [] => []
  | n, r :: rs => entryV n r ++ joinE (n + 1) rs
theorem joinE_app : ∀ (n : Nat) (a b : List (List UInt8)), joinE n (a ++ b) = joinE n a ++ joinE (n + a.length) b
  | n, [], b => rfl
  | n, r :: a, b => by
    rw [List.cons_append, joinE, joinE, joinE_app (n + 1) a b, List.append_assoc, List.length_cons, show n + 1 + a.length = n + (a.length + 1) by omega]
theorem joinE_snoc (n : Nat) (a : List (List UInt8)) (r : List UInt8) : joinE n (a ++ [r]) = joinE n a ++ entryV (n + a.length) r := by
  rw [joinE_app, joinE, joinE, List.append_nil]
theorem joinE_len_ge : ∀ (n : Nat) (a : List (List UInt8)), a.length ≤ (joinE n a).length
  | _, [] => Nat.zero_le _
  | n, r :: a => by
    have := joinE_len_ge (n + 1) a
    have h2 := entryV_len n r
    rw [joinE, List.length_append, List.length_cons]
    omega
/-- What a log says: entries, and behind them none that has the next number. -/
structure LogIs (log : List UInt8) (recs : List (List UInt8)) : Prop where
  pre : joinE 0 recs <+: log
  none : ∀ r, ¬ entryV recs.length r <+: log.drop (joinE 0 recs).length
theorem pre_drop {a b s : List UInt8} (h : a ++ b <+: s) : b <+: s.drop a.length := by
  obtain ⟨t, rfl⟩ := h
  rw [List.append_assoc, List.drop_left]
  exact List.prefix_append _ _
theorem pre_app {a b s : List UInt8} (h : a <+: s) (h2 : b <+: s.drop a.length) : a ++ b <+: s := by
  obtain ⟨t, rfl⟩ := h
  rw [List.drop_left] at h2
  obtain ⟨u, rfl⟩ := h2
  exact ⟨u, by rw [List.append_assoc]⟩
theorem logIs_ex (log : List UInt8) : ∃ recs, LogIs log recs := by
  have aux : ∀ (m : Nat) (recs : List (List UInt8)), joinE 0 recs <+: log → log.length - (joinE 0 recs).length ≤ m → ∃ recs', LogIs log recs' := by
    intro m
    induction m with
    | zero =>
      intro recs hp hm
      refine ⟨recs, hp, fun r hr => ?_⟩
      have := hr.length_le
      rw [entryV_len, List.length_drop] at this
      omega
    | succ m ih =>
      intro recs hp hm
      by_cases h : ∃ r, entryV recs.length r <+: log.drop (joinE 0 recs).length
      · obtain ⟨r, hr⟩ := h
        have e := joinE_snoc 0 recs r
        rw [Nat.zero_add] at e
        refine ih (recs ++ [r]) (by rw [e]; exact pre_app hp hr) ?_
        have hl := entryV_len recs.length r
        have := hr.length_le
        rw [List.length_drop] at this
        rw [e, List.length_append]
        omega
      · exact ⟨recs, hp, fun r hr => h ⟨r, hr⟩⟩
  exact aux log.length [] (List.nil_prefix) (by simp)
/-- where the k-th entry of a log begins -/
def offE (recs : List (List UInt8)) (k : Nat) : Nat := (joinE 0 (recs.take k)).length
theorem offE_zero (recs : List (List UInt8)) : offE recs 0 = 0 := rfl
theorem offE_all (recs : List (List UInt8)) : offE recs recs.length = (joinE 0 recs).length := by rw [offE, List.take_length]
theorem LogIs.ent {log : List UInt8} {recs : List (List UInt8)} (H : LogIs log recs) {k : Nat} (hk : k < recs.length) : entryV k (recs.getD k []) <+: log.drop (offE recs k) ∧ offE recs (k + 1) = offE recs k + (entryV k (recs.getD k [])).length := by
  have ht : recs.take (k + 1) = recs.take k ++ [recs.getD k []] := by
    rw [List.take_add_one, List.getElem?_eq_getElem hk, List.getD_eq_getElem?_getD, List.getElem?_eq_getElem hk]
    rfl
  have hl : (recs.take k).length = k := by rw [List.length_take]; omega
  have e : joinE 0 (recs.take (k + 1)) = joinE 0 (recs.take k) ++ entryV k (recs.getD k []) := by
    rw [ht, joinE_snoc, hl, Nat.zero_add]
  refine ⟨pre_drop ?_, by rw [offE, e, List.length_append]; rfl⟩
  rw [← e]
  refine List.IsPrefix.trans ?_ H.pre
  exact ⟨joinE (0 + (recs.take (k + 1)).length) (recs.drop (k + 1)), by rw [← joinE_app, List.take_append_drop]⟩
theorem LogIs.off_le {log : List UInt8} {recs : List (List UInt8)} (H : LogIs log recs) (k : Nat) : offE recs k ≤ log.length := by
  refine Nat.le_trans ?_ H.pre.length_le
  rw [offE]
  have : joinE 0 recs = joinE 0 (recs.take k) ++ joinE (0 + (recs.take k).length) (recs.drop k) := by rw [← joinE_app, List.take_append_drop]
  rw [this, List.length_append]
  omega
/-- of two lists of entries ahead of one text one is ahead of the other -/
theorem pre_cmp {s : List UInt8} (hs : s.length ≤ 9223372036854775807) : ∀ (n : Nat) (a b : List (List UInt8)) (d : Nat), joinE n a <+: s.drop d → joinE n b <+: s.drop d → a <+: b ∨ b <+: a
  | _, [], b, _, _, _ => .inl (List.nil_prefix)
  | _, r :: a, [], _, _, _ => .inr (List.nil_prefix)
  | n, r :: a, r' :: b, d, h1, h2 => by
    rw [joinE] at h1 h2
    have e : r = r' := ent_uniq (s := s.drop d) (by rw [List.length_drop]; omega) (List.IsPrefix.trans (List.prefix_append _ _) h1) (List.IsPrefix.trans (List.prefix_append _ _) h2)
    subst e
    have g1 := pre_drop h1
    have g2 := pre_drop h2
    rw [List.drop_drop] at g1 g2
    rcases pre_cmp hs (n + 1) a b _ g1 g2 with h | h
    · exact .inl (List.cons_prefix_cons.2 ⟨rfl, h⟩)
    · exact .inr (List.cons_prefix_cons.2 ⟨rfl, h⟩)
/-- what is ahead of the end of a log's entries is ahead of them -/
theorem LogIs.max {log : List UInt8} {recs a : List (List UInt8)} (hs : log.length ≤ 9223372036854775807) (H : LogIs log recs) (h : joinE 0 a <+: log) : a <+: recs := by
  rcases pre_cmp (s := log) hs 0 a recs 0 (by simpa using h) (by simpa using H.pre) with h1 | ⟨t, rfl⟩
  · exact h1
  · match t with
    | [] => exact ⟨[], by simp⟩
    | r :: t =>
      exfalso
      rw [joinE_app, Nat.zero_add, joinE] at h
      exact H.none r (List.IsPrefix.trans (List.prefix_append _ _) (pre_drop h))
theorem LogIs.uniq {log : List UInt8} {recs a : List (List UInt8)} (hs : log.length ≤ 9223372036854775807) (H : LogIs log recs) (K : LogIs log a) : recs = a :=
  (K.max hs H.pre).eq_of_length_le (H.max hs K.pre).length_le
/-- An entry more. -/
theorem LogIs.add {log : List UInt8} {recs : List (List UInt8)} (H : LogIs log recs) (hf : (joinE 0 recs).length = log.length) (r : List UInt8) : LogIs (log ++ entryV recs.length r) (recs ++ [r]) := by
  have e : joinE 0 recs = log := H.pre.eq_of_length hf
  have e2 : joinE 0 (recs ++ [r]) = log ++ entryV recs.length r := by rw [joinE_snoc, e, Nat.zero_add]
  refine ⟨by rw [e2]; exact ⟨[], by simp⟩, fun r' hr => ?_⟩
  have := hr.length_le
  rw [e2, List.drop_length, entryV_len] at this
  simp at this
end Go.Proofs.YtcmpcpigchlhpaaDoor

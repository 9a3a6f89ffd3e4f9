/- Contracts of functions of the program (D1). -/
import Derived.Test.YtmehbbepppjikaaM5
import Derived.Test.YtmehbbepppjikaaEd

namespace Go.Proofs.Ytmehbbepppjikaa
open Go.Av
set_option maxRecDepth 10000
set_option maxHeartbeats 1000000
set_option linter.unusedSimpArgs false
set_option linter.unusedVariables false

/-- a reader's cells: its bytes, its place -/
def rdC (bs : List Int) (p : Int) : List D := [.slice (bs.map (.int .u8)) .no, .int .i64 p]
structure Rd (bs : List Int) (p : Int) : Prop where
  byte : ∀ x, x ∈ bs → 0 ≤ x ∧ x ≤ 255
  len : bs.length ≤ 2000
  lo : 0 ≤ p
  hi : p ≤ 1000000000
def mixV (bs : List Int) (k : Int) : Int := bs.getD (k.tmod bs.length).toNat 0 * 131 + bs.getD ((k * 7 + 3).tmod bs.length).toNat 0 * 1117 + k * 29 + k.tdiv bs.length * 53
def pickV (bs : List Int) (p n : Int) : Int :=
  if n < 1 ∨ bs.length = 0 then 0
  else if p < bs.length then (bs.getD p.toNat 0).tmod n
  else (bitI .xor .i64 (mixV bs p) ((mixV bs p).tdiv 64)).tmod n
theorem getD_byte {bs : List Int} {p : Int} (H : Rd bs p) (i : Nat) : 0 ≤ bs.getD i 0 ∧ bs.getD i 0 ≤ 255 := by
  rw [List.getD_eq_getElem?_getD]
  cases e : bs[i]? with
  | none => simp
  | some x => exact H.byte x (List.mem_of_getElem? e)
theorem tmod_lo {a b : Int} (h : 0 ≤ a) : 0 ≤ a.tmod b := Int.tmod_nonneg _ h
theorem tmod_hi {a b : Int} (h : 0 < b) : a.tmod b < b := Int.tmod_lt_of_pos _ h
theorem mixV_range {bs : List Int} {p : Int} (H : Rd bs p) (h0 : bs.length ≠ 0) : 0 ≤ mixV bs p ∧ mixV bs p ≤ 200000000000 := by
  have h1 := getD_byte H (p.tmod bs.length).toNat
  have h2 := getD_byte H ((p * 7 + 3).tmod bs.length).toNat
  have h3 : 0 ≤ p.tdiv bs.length := Int.tdiv_nonneg H.lo (Int.natCast_nonneg _)
  have h4 : p.tdiv bs.length ≤ p := by
    rw [Int.tdiv_eq_ediv_of_nonneg H.lo]
    exact Int.ediv_le_self _ H.lo
  have := H.lo
  have := H.hi
  rw [mixV]
  omega
theorem bitI_xor {a b : Int} (ha : 0 ≤ a) (ha' : a ≤ 9223372036854775807) (hb : 0 ≤ b) (hb' : b ≤ 9223372036854775807) : 0 ≤ bitI .xor .i64 a b := by
  have e : (BitVec.ofInt 64 a ^^^ BitVec.ofInt 64 b).toNat = a.toNat ^^^ b.toNat := by
    rw [BitVec.toNat_xor, BitVec.toNat_ofInt, BitVec.toNat_ofInt]
    rw [Int.emod_eq_of_lt ha (by omega), Int.emod_eq_of_lt hb (by omega)]
  have hl : a.toNat ^^^ b.toNat < 2 ^ 63 := Nat.xor_lt_two_pow (by omega) (by omega)
  show 0 ≤ IntKind.i64.wrap ((BitVec.ofInt 64 a ^^^ BitVec.ofInt 64 b).toNat : Int)
  rw [e, wrap_id (by omega) (by omega)]
  omega
theorem pickV_range {bs : List Int} {p : Int} (H : Rd bs p) (n : Int) (hn : 1 ≤ n) : 0 ≤ pickV bs p n ∧ pickV bs p n < n := by
  rw [pickV]
  split
  · omega
  · split
    · exact ⟨tmod_lo (getD_byte H _).1, tmod_hi (by omega)⟩
    · rename_i h1 h2
      have hm := mixV_range H (by omega)
      have hd : 0 ≤ (mixV bs p).tdiv 64 ∧ (mixV bs p).tdiv 64 ≤ mixV bs p := by
        rw [Int.tdiv_eq_ediv_of_nonneg hm.1]
        exact ⟨Int.ediv_nonneg hm.1 (by omega), Int.ediv_le_self _ hm.1⟩
      exact ⟨tmod_lo (bitI_xor hm.1 (by omega) hd.1 (by omega)), tmod_hi (by omega)⟩

theorem pick_gives (bs : List Int) (p n : Int) (r : Nat) (h : Hp) (hr : ob h r = .row (rdC bs p)) (hrl : r < h.length) (H : Rd bs p) :
    Meets Try.prog 85 [.ptr r 0, .int .i64 n] h fun d' h' => d' = .int .i64 (pickV bs p n) ∧ h' = h.set r (.row (rdC bs (p + 1))) := by
  have hlo := H.lo
  have hhi := H.hi
  have hle := H.len
  refine meets_of [] mixed Try.func85 rfl (by kernel_rfl) (by kernel_rfl) (by rw [Try.ntmps85]; simp only [List.length_cons, List.length_nil]; omega) (fun hf => ?_)
  rw [Try.results85]
  clear hf
  have hset : ∀ x, ob (h.set r x) r = x := fun x => by simp [ob, List.getD_eq_getElem?_getD, hrl]
  have hw : IntKind.i64.wrap (p + 1) = p + 1 := wrap_id (by omega) (by omega)
  have hw1 : IntKind.i64.wrap (p + 1 - 1) = p := by rw [wrap_id (by omega) (by omega)]; omega
  simp only [rdC] at hr
  have hwb : ∀ i, IntKind.i64.wrap (bs.getD i 0) = bs.getD i 0 := fun i => by have := getD_byte H i; exact wrap_id (by omega) (by omega)
  have b1 := getD_byte H (p.tmod bs.length).toNat
  have b2 := getD_byte H ((p * 7 + 3).tmod bs.length).toNat
  have q0 : 0 ≤ p.tdiv bs.length := Int.tdiv_nonneg hlo (Int.natCast_nonneg _)
  have q1 : p.tdiv bs.length ≤ p := by
    rw [Int.tdiv_eq_ediv_of_nonneg hlo]
    exact Int.ediv_le_self _ hlo
  have w2 : IntKind.i64.wrap (p * 7) = p * 7 := wrap_id (by omega) (by omega)
  have w3 : IntKind.i64.wrap (p * 7 + 3) = p * 7 + 3 := wrap_id (by omega) (by omega)
  have w4 : IntKind.i64.wrap (bs.getD (p.tmod bs.length).toNat 0 * 131) = bs.getD (p.tmod bs.length).toNat 0 * 131 := wrap_id (by omega) (by omega)
  have w5 : IntKind.i64.wrap (bs.getD ((p * 7 + 3).tmod bs.length).toNat 0 * 1117) = bs.getD ((p * 7 + 3).tmod bs.length).toNat 0 * 1117 := wrap_id (by omega) (by omega)
  have w6 : IntKind.i64.wrap (bs.getD (p.tmod bs.length).toNat 0 * 131 + bs.getD ((p * 7 + 3).tmod bs.length).toNat 0 * 1117) = bs.getD (p.tmod bs.length).toNat 0 * 131 + bs.getD ((p * 7 + 3).tmod bs.length).toNat 0 * 1117 := wrap_id (by omega) (by omega)
  have w7 : IntKind.i64.wrap (p * 29) = p * 29 := wrap_id (by omega) (by omega)
  have w8 : IntKind.i64.wrap (bs.getD (p.tmod bs.length).toNat 0 * 131 + bs.getD ((p * 7 + 3).tmod bs.length).toNat 0 * 1117 + p * 29) = bs.getD (p.tmod bs.length).toNat 0 * 131 + bs.getD ((p * 7 + 3).tmod bs.length).toNat 0 * 1117 + p * 29 := wrap_id (by omega) (by omega)
  have w9 : IntKind.i64.wrap (p.tdiv bs.length) = p.tdiv bs.length := wrap_id (by omega) (by omega)
  have w10 : IntKind.i64.wrap (p.tdiv bs.length * 53) = p.tdiv bs.length * 53 := wrap_id (by omega) (by omega)
  have w11 : IntKind.i64.wrap (bs.getD (p.tmod bs.length).toNat 0 * 131 + bs.getD ((p * 7 + 3).tmod bs.length).toNat 0 * 1117 + p * 29 + p.tdiv bs.length * 53) = mixV bs p := wrap_id (by omega) (by omega)
  have w12 : ∀ x : Int, 0 ≤ x → x ≤ 200000000000 → IntKind.i64.wrap (x.tdiv 64) = x.tdiv 64 := fun x h0 h1 => by
    have a0 : 0 ≤ x.tdiv 64 := Int.tdiv_nonneg h0 (by omega)
    have a1 : x.tdiv 64 ≤ x := by
      rw [Int.tdiv_eq_ediv_of_nonneg h0]
      exact Int.ediv_le_self _ h0
    exact wrap_id (by omega) (by omega)
  try simp -implicitDefEqProofs only [hr, hset, hw, hw1, rdC, hwb, w2, w3, w4, w5, w6, w7, w8, w9, w10, w11, push_cast, Nat.reduceEqDiff, Nat.reduceBEq, Nat.reduceBNe, Nat.reduceAdd, Nat.reduceMul, Nat.reduceLT, Nat.reduceLeDiff, Nat.reduceSub, reduceCtorEq, Int.reduceToNat, ↓reduceIte]
  repeat'
    (first
     | (refine uYes ?_; first | exact List.mem_cons_self | (simp only [List.mem_cons, List.not_mem_nil, or_false, true_or, or_true]; done))
     | (refine uNo (by kernel_rfl))
     | (refine flatMk ?_; kernel_rfl)
     | (refine And.intro ?_ ?_)
     | (intro hx)
     | ((first
         | (refine callGF ?_)
         | (refine callQGF ?_)
         | (refine skipG ?_)
         | (refine callS (in_gives _ _ _ _) ?_)
         | (refine callQ (in_gives _ _ _ _) ?_)
         | (refine callG (fun hc => (in_gives _ _ _ _)) ?_)
         | (refine callQG (fun hc => (in_gives _ _ _ _)) ?_)); simp -implicitDefEqProofs only [hr, hset, hw, hw1, rdC, hwb, w2, w3, w4, w5, w6, w7, w8, w9, w10, w11, push_cast, Nat.reduceEqDiff, Nat.reduceBEq, Nat.reduceBNe, Nat.reduceAdd, Nat.reduceMul, Nat.reduceLT, Nat.reduceLeDiff, Nat.reduceSub, reduceCtorEq, Int.reduceToNat, ↓reduceIte]))
  all_goals first
    | omega
    | exact tmod_lo hlo
    | exact tmod_lo (by omega)
    | exact tmod_hi (by omega)
    | (refine back_set rfl hrl (fun d hd => ?_)
       simp only [List.mem_cons, List.not_mem_nil, or_false] at hd
       rcases hd with rfl | rfl
       · exact .slice _ _ (fun _ _ e => nomatch e)
       · exact .int _ _)
    | (rw [pickV, if_pos (by omega)])
    | (rw [pickV, if_neg (by omega), if_pos (by omega)])
    | (have hm := mixV_range H (by omega)
       rw [w12 _ hm.1 hm.2, pickV, if_neg (by omega), if_neg (by omega)])
    | trace_state
end Go.Proofs.Ytmehbbepppjikaa

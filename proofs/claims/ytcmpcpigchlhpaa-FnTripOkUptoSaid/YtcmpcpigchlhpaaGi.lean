/- Contracts of functions of the program (Gi). -/
import Derived.Test.YtcmpcpigchlhpaaGh
import Derived.Test.YtcmpcpigchlhpaaEd

namespace Go.Proofs.Ytcmpcpigchlhpaa
set_option linter.unusedSectionVars false
open Go.Av
variable [Av.Start]
set_option maxRecDepth 10000
set_option maxHeartbeats 1000000
set_option linter.unusedSimpArgs false
set_option linter.unusedVariables false

/-- a reader's cells: its bytes, its place -/
def rdC (bs : List Int) (p : Int) : List D := [.slice (bs.map (.int .u8)) .no, .int .i64 p]
structure Rd (bs : List Int) (p : Int) : Prop where
  byte : ∀ x, x ∈ bs → 0 ≤ x ∧ x ≤ 255
  len : bs.length ≤ 2000
  lo : 0 ≤ p
  hi : p ≤ 1000000000
def mixV (bs : List Int) (k : Int) : Int := bs.getD (k.tmod bs.length).toNat 0 * 131 + bs.getD ((k * 7 + 3).tmod bs.length).toNat 0 * 1117 + k * 29 + k.tdiv bs.length * 53
def pickV (bs : List Int) (p n : Int) : Int :=
  if n < 1 ∨ bs.length = 0 then 0
  else if p < bs.length then (bs.getD p.toNat 0).tmod n
  else (bitI .xor .i64 (mixV bs p) ((mixV bs p).tdiv 64)).tmod n
omit [Av.Start] in
theorem getD_byte {bs : List Int} {p : Int} (H : Rd bs p) (i : Nat) : 0 ≤ bs.getD i 0 ∧ bs.getD i 0 ≤ 255 := by
  rw [List.getD_eq_getElem?_getD]
  cases e : bs[i]? with
  | none => simp
  | some x => exact H.byte x (List.mem_of_getElem? e)
omit [Av.Start] in
theorem tmod_lo {a b : Int} (h : 0 ≤ a) : 0 ≤ a.tmod b := Int.tmod_nonneg _ h
omit [Av.Start] in
theorem tmod_hi {a b : Int} (h : 0 < b) : a.tmod b < b := Int.tmod_lt_of_pos _ h
omit [Av.Start] in
theorem mixV_range {bs : List Int} {p : Int} (H : Rd bs p) (h0 : bs.length ≠ 0) : 0 ≤ mixV bs p ∧ mixV bs p ≤ 200000000000 := by
  have h1 := getD_byte H (p.tmod bs.length).toNat
  have h2 := getD_byte H ((p * 7 + 3).tmod bs.length).toNat
  have h3 : 0 ≤ p.tdiv bs.length := Int.tdiv_nonneg H.lo (Int.natCast_nonneg _)
  have h4 : p.tdiv bs.length ≤ p := by
    rw [Int.tdiv_eq_ediv_of_nonneg H.lo]
    exact Int.ediv_le_self _ H.lo
  have := H.lo
  have := H.hi
  rw [mixV]
  omega
omit [Av.Start] in
theorem bitI_xor {a b : Int} (ha : 0 ≤ a) (ha' : a ≤ 9223372036854775807) (hb : 0 ≤ b) (hb' : b ≤ 9223372036854775807) : 0 ≤ bitI .xor .i64 a b := by
  have e : (BitVec.ofInt 64 a ^^^ BitVec.ofInt 64 b).toNat = a.toNat ^^^ b.toNat := by
    rw [BitVec.toNat_xor, BitVec.toNat_ofInt, BitVec.toNat_ofInt]
    rw [Int.emod_eq_of_lt ha (by omega), Int.emod_eq_of_lt hb (by omega)]
  have hl : a.toNat ^^^ b.toNat < 2 ^ 63 := Nat.xor_lt_two_pow (by omega) (by omega)
  show 0 ≤ IntKind.i64.wrap ((BitVec.ofInt 64 a ^^^ BitVec.ofInt 64 b).toNat : Int)
  rw [e, wrap_id (by omega) (by omega)]
  omega
omit [Av.Start] in
theorem pickV_range {bs : List Int} {p : Int} (H : Rd bs p) (n : Int) (hn : 1 ≤ n) : 0 ≤ pickV bs p n ∧ pickV bs p n < n := by
  rw [pickV]
  split
  · omega
  · split
    · exact ⟨tmod_lo (getD_byte H _).1, tmod_hi (by omega)⟩
    · rename_i h1 h2
      have hm := mixV_range H (by omega)
      have hd : 0 ≤ (mixV bs p).tdiv 64 ∧ (mixV bs p).tdiv 64 ≤ mixV bs p := by
        rw [Int.tdiv_eq_ediv_of_nonneg hm.1]
        exact ⟨Int.ediv_nonneg hm.1 (by omega), Int.ediv_le_self _ hm.1⟩
      exact ⟨tmod_lo (bitI_xor hm.1 (by omega) hd.1 (by omega)), tmod_hi (by omega)⟩

theorem pick_gives (bs : List Int) (p n : Int) (r : Nat) (h : Hp) (hr : ob h r = .row (rdC bs p)) (hrl : r < h.length) (H : Rd bs p) :
    Meets Try.prog 46 [.ptr r 0, .int .i64 n] h fun d' h' => d' = .int .i64 (pickV bs p n) ∧ h' = h.set r (.row (rdC bs (p + 1))) := by
  have hlo := H.lo
  have hhi := H.hi
  have hle := H.len
  refine meets_of [] mixed Try.func46 rfl (by kernel_rfl) (by kernel_rfl) (by rw [Try.ntmps46]; simp only [List.length_cons, List.length_nil]; omega) (fun hf => ?_)
  rw [Try.results46]
  clear hf
  have hset : ∀ x, ob (h.set r x) r = x := fun x => by simp [ob, List.getD_eq_getElem?_getD, hrl]
  have hw : IntKind.i64.wrap (p + 1) = p + 1 := wrap_id (by omega) (by omega)
  have hw1 : IntKind.i64.wrap (p + 1 - 1) = p := by rw [wrap_id (by omega) (by omega)]; omega
  simp only [rdC] at hr
  have hwb : ∀ i, IntKind.i64.wrap (bs.getD i 0) = bs.getD i 0 := fun i => by have := getD_byte H i; exact wrap_id (by omega) (by omega)
  have b1 := getD_byte H (p.tmod bs.length).toNat
  have b2 := getD_byte H ((p * 7 + 3).tmod bs.length).toNat
  have q0 : 0 ≤ p.tdiv bs.length := Int.tdiv_nonneg hlo (Int.natCast_nonneg _)
  have q1 : p.tdiv bs.length ≤ p := by
    rw [Int.tdiv_eq_ediv_of_nonneg hlo]
    exact Int.ediv_le_self _ hlo
  have w2 : IntKind.i64.wrap (p * 7) = p * 7 := wrap_id (by omega) (by omega)
  have w3 : IntKind.i64.wrap (p * 7 + 3) = p * 7 + 3 := wrap_id (by omega) (by omega)
  have w4 : IntKind.i64.wrap (bs.getD (p.tmod bs.length).toNat 0 * 131) = bs.getD (p.tmod bs.length).toNat 0 * 131 := wrap_id (by omega) (by omega)
  have w5 : IntKind.i64.wrap (bs.getD ((p * 7 + 3).tmod bs.length).toNat 0 * 1117) = bs.getD ((p * 7 + 3).tmod bs.length).toNat 0 * 1117 := wrap_id (by omega) (by omega)
  have w6 : IntKind.i64.wrap (bs.getD (p.tmod bs.length).toNat 0 * 131 + bs.getD ((p * 7 + 3).tmod bs.length).toNat 0 * 1117) = bs.getD (p.tmod bs.length).toNat 0 * 131 + bs.getD ((p * 7 + 3).tmod bs.length).toNat 0 * 1117 := wrap_id (by omega) (by omega)
  have w7 : IntKind.i64.wrap (p * 29) = p * 29 := wrap_id (by omega) (by omega)
  have w8 : IntKind.i64.wrap (bs.getD (p.tmod bs.length).toNat 0 * 131 + bs.getD ((p * 7 + 3).tmod bs.length).toNat 0 * 1117 + p * 29) = bs.getD (p.tmod bs.length).toNat 0 * 131 + bs.getD ((p * 7 + 3).tmod bs.length).toNat 0 * 1117 + p * 29 := wrap_id (by omega) (by omega)
  have w9 : IntKind.i64.wrap (p.tdiv bs.length) = p.tdiv bs.length := wrap_id (by omega) (by omega)
  have w10 : IntKind.i64.wrap (p.tdiv bs.length * 53) = p.tdiv bs.length * 53 := wrap_id (by omega) (by omega)
  have w11 : IntKind.i64.wrap (bs.getD (p.tmod bs.length).toNat 0 * 131 + bs.getD ((p * 7 + 3).tmod bs.length).toNat 0 * 1117 + p * 29 + p.tdiv bs.length * 53) = mixV bs p := wrap_id (by omega) (by omega)
  have w12 : ∀ x : Int, 0 ≤ x → x ≤ 200000000000 → IntKind.i64.wrap (x.tdiv 64) = x.tdiv 64 := fun x h0 h1 => by
    have a0 : 0 ≤ x.tdiv 64 := Int.tdiv_nonneg h0 (by omega)
    have a1 : x.tdiv 64 ≤ x := by
      rw [Int.tdiv_eq_ediv_of_nonneg h0]
      exact Int.ediv_le_self _ h0
    exact wrap_id (by omega) (by omega)
  try simp -implicitDefEqProofs only [hr, hset, hw, hw1, rdC, hwb, w2, w3, w4, w5, w6, w7, w8, w9, w10, w11, push_cast, Nat.reduceEqDiff, Nat.reduceBEq, Nat.reduceBNe, Nat.reduceAdd, Nat.reduceMul, Nat.reduceLT, Nat.reduceLeDiff, Nat.reduceSub, reduceCtorEq, Int.reduceToNat, ↓reduceIte]
  repeat'
    (first
     | (refine uYes ?_; first | exact List.mem_cons_self | (simp only [List.mem_cons, List.not_mem_nil, or_false, true_or, or_true]; done))
     | (refine uNo (by kernel_rfl))
     | (refine flatMk ?_; kernel_rfl)
     | (refine And.intro ?_ ?_)
     | (intro hx)
     | ((first
         | (refine callGF ?_)
         | (refine callQGF ?_)
         | (refine skipG ?_)
         | (refine callS (in_gives _ _ _ _) ?_)
         | (refine callQ (in_gives _ _ _ _) ?_)
         | (refine callG (fun hc => (in_gives _ _ _ _)) ?_)
         | (refine callQG (fun hc => (in_gives _ _ _ _)) ?_)); simp -implicitDefEqProofs only [hr, hset, hw, hw1, rdC, hwb, w2, w3, w4, w5, w6, w7, w8, w9, w10, w11, push_cast, Nat.reduceEqDiff, Nat.reduceBEq, Nat.reduceBNe, Nat.reduceAdd, Nat.reduceMul, Nat.reduceLT, Nat.reduceLeDiff, Nat.reduceSub, reduceCtorEq, Int.reduceToNat, ↓reduceIte]))
  all_goals first
    | omega
    | exact tmod_lo hlo
    | exact tmod_lo (by omega)
    | exact tmod_hi (by omega)
    | (refine back_set rfl hrl (fun d hd => ?_)
       simp only [List.mem_cons, List.not_mem_nil, or_false] at hd
       rcases hd with rfl | rfl
       · exact .slice _ _ (fun _ _ e => nomatch e)
       · exact .int _ _)
    | (rw [pickV, if_pos (by omega)])
    | (rw [pickV, if_neg (by omega), if_pos (by omega)])
    | (have hm := mixV_range H (by omega)
       rw [w12 _ hm.1 hm.2, pickV, if_neg (by omega), if_neg (by omega)])
    | trace_state
end Go.Proofs.Ytcmpcpigchlhpaa

namespace Go.Proofs.Ytcmpcpigchlhpaa
set_option linter.unusedSectionVars false
open Go.Av
variable [Av.Start]
set_option maxRecDepth 10000
set_option maxHeartbeats 1000000
set_option linter.unusedSimpArgs false
set_option linter.unusedVariables false

def fitB (l : Leg) (o : Hold) : Bool := !thereB l o.txn && decide (l.holds.length < 6) && mayB l o
def canB (l : Leg) (o : Hold) (s : Int) : Bool := fitB l o && (if 0 < o.seats then decide (o.seats ≤ roomW l 9 (o.cls.toNat + 1)) && decide (bidV l ≤ s) else decide (-o.seats ≤ l.sold.getD o.cls.toNat 0 - backV l o.cls))
def holdL (l : Leg) (o : Hold) : Leg := { l with holds := l.holds.take (placeN l o.txn) ++ o :: l.holds.drop (placeN l o.txn) }
omit [Av.Start] in
theorem fitB_iff {l : Leg} {o : Hold} (h : LegP l) : fitB l o = true ↔ thereB l o.txn = false ∧ l.holds.length < 6 ∧ inB o.txn 1 99 = true ∧ inB o.cls 0 2 = true ∧ -l.cap ≤ o.seats ∧ o.seats ≤ l.cap ∧ o.seats ≠ 0 := by
  have hc := h.cap
  simp only [fitB, mayB, Bool.and_eq_true, Bool.not_eq_true', decide_eq_true_eq, decide_eq_false_iff_not]
  rw [wrap_id (by omega) (by omega), Int.zero_sub, inB_iff (n := o.seats)]
  constructor
  · rintro ⟨⟨a, b⟩, ⟨⟨c, d⟩, e⟩, f⟩
    exact ⟨a, b, c, d, e.1, e.2, f⟩
  · rintro ⟨a, b, c, d, e, f, g⟩
    exact ⟨⟨a, b⟩, ⟨⟨c, d⟩, e, f⟩, g⟩
end Go.Proofs.Ytcmpcpigchlhpaa

namespace Go.Proofs.Ytcmpcpigchlhpaa
set_option linter.unusedSectionVars false
open Go.Av
variable [Av.Start]
set_option maxRecDepth 10000
set_option linter.unusedSimpArgs false
set_option linter.unusedVariables false

/-! What holding, keeping and letting go leave of a leg that is ok. -/
def upS (c : Int) (o : Hold) : Int := if c ≤ o.cls ∧ 0 < o.seats then o.seats else 0
def dnS (c : Int) (o : Hold) : Int := if o.cls = c ∧ o.seats < 0 then -o.seats else 0
omit [Av.Start] in
theorem upS_nn (c : Int) (o : Hold) : 0 ≤ upS c o := by rw [upS]; split <;> omega
omit [Av.Start] in
theorem dnS_nn (c : Int) (o : Hold) : 0 ≤ dnS c o := by rw [dnS]; split <;> omega
omit [Av.Start] in
theorem usedI_def (l : Leg) (c : Int) : usedI l c = (l.sold.drop c.toNat).sum + (l.holds.map (upS c)).sum := rfl
omit [Av.Start] in
theorem backI_def (l : Leg) (c : Int) : backI l c = (l.holds.map (dnS c)).sum := rfl
omit [Av.Start] in
theorem sum_insert (f : Hold → Int) (xs : List Hold) (k : Nat) (o : Hold) : ((xs.take k ++ o :: xs.drop k).map f).sum = (xs.map f).sum + f o := by
  conv => rhs; rw [← List.take_append_drop k xs]
  simp only [List.map_append, List.map_cons, List.sum_append, List.sum_cons]
  omega
omit [Av.Start] in
theorem sum_erase (f : Hold → Int) (xs : List Hold) {k : Nat} (hk : k < xs.length) : ((xs.eraseIdx k).map f).sum = (xs.map f).sum - f (xs.getD k default) := by
  have e : xs.getD k default = xs[k] := by rw [List.getD_eq_getElem?_getD, List.getElem?_eq_getElem hk]; rfl
  rw [e]
  have e2 : (xs.map f).sum = ((xs.take k ++ xs[k] :: xs.drop (k + 1)).map f).sum := by
    conv => lhs; rw [← List.take_append_drop k xs, List.drop_eq_getElem_cons hk]
  rw [List.eraseIdx_eq_take_drop_succ, e2]
  simp only [List.map_append, List.map_cons, List.sum_append, List.sum_cons]
  omega
omit [Av.Start] in
theorem sum_set (xs : List Int) {i : Nat} (hi : i < xs.length) (v : Int) (c : Nat) : ((xs.set i v).drop c).sum = (xs.drop c).sum + (if c ≤ i then v - xs.getD i 0 else 0) := by
  have e : xs.getD i 0 = xs[i] := by rw [List.getD_eq_getElem?_getD, List.getElem?_eq_getElem hi]; rfl
  rw [e]
  split
  · rename_i h
    rw [List.drop_set, if_neg (by omega)]
    have hi' : i - c < (xs.drop c).length := by rw [List.length_drop]; omega
    have e2 : (xs.drop c)[i - c] = xs[i] := by
      rw [List.getElem_drop]
      congr 1
      omega
    have e3 : (xs.drop c).sum = ((xs.drop c).take (i - c) ++ xs[i] :: (xs.drop c).drop (i - c + 1)).sum := by
      conv => lhs; rw [← List.take_append_drop (i - c) (xs.drop c), List.drop_eq_getElem_cons hi', e2]
    rw [List.set_eq_take_append_cons_drop, if_pos hi', e3]
    simp only [List.sum_append, List.sum_cons]
    omega
  · rename_i h
    rw [List.drop_set, if_pos (by omega)]
    omega
omit [Av.Start] in
/-- what a leg needs to stay ok when its holds and what is sold turn -/
theorem turn_ok {l l' : Leg} (h : LegP l) (hn : l'.name = l.name) (hs : l'.src = l.src) (hd : l'.dst = l.dst) (hde : l'.dep = l.dep) (har : l'.arr = l.arr) (hca : l'.cap = l.cap) (hli : l'.limits = l.limits) (hbi : l'.bids = l.bids)
    (sold : l'.sold.length = 3) (sol : ∀ x, x ∈ l'.sold → 0 ≤ x ∧ x ≤ l.cap) (holds : l'.holds.length ≤ 6) (hold : ∀ o, o ∈ l'.holds → mayB l o = true)
    (rise : ∀ i, i < l'.holds.length → i ≠ 0 → (l'.holds.getD (i - 1) default).txn < (l'.holds.getD i default).txn)
    (used : ∀ i : Nat, i < 3 → usedI l' i ≤ l.limits.getD i 0) (back : ∀ i : Nat, i < 3 → backI l' i ≤ l'.sold.getD i 0) : LegP l' := by
  have hc := h.cap
  have hm : ∀ o, o ∈ l'.holds → -9 ≤ o.seats ∧ o.seats ≤ 9 := fun o ho => by
    have := hold o ho
    simp only [mayB, Bool.and_eq_true, Bool.not_eq_true', decide_eq_false_iff_not] at this
    rw [wrap_id (by omega) (by omega)] at this
    have h2 := inB_iff.1 this.1.2
    omega
  refine ⟨hn ▸ h.name, hs ▸ h.src, hd ▸ h.dst, by rw [hs, hd]; exact h.ne, hde ▸ h.dep, by rw [hde, har]; exact h.arr, hca ▸ h.cap, hli ▸ h.limits, by rw [hli, hca]; exact h.lim, by rw [hli]; exact h.fall, by rw [hli, hca]; exact h.lim0, sold, by rw [hca]; exact sol, hbi ▸ h.bids, by rw [hbi]; exact h.bid, by rw [hbi]; exact h.bfall, holds, fun i hi => ?_, rise, fun i hi => ?_, fun i hi => ?_⟩
  · have hmem : l'.holds.getD i default ∈ l'.holds := by
      rw [List.getD_eq_getElem?_getD, List.getElem?_eq_getElem hi]
      exact List.getElem_mem hi
    have := hold _ hmem
    simp only [mayB] at this ⊢
    rw [hca]
    exact this
  · obtain ⟨a1, a2, a3⟩ := sumW_small (l'.sold.drop i) 0 (fun x hx => by
      have := sol x (List.mem_of_mem_drop hx)
      omega) (by omega) (by simp only [List.length_drop]; omega)
    obtain ⟨b1, b2, b3⟩ := usedW_small i l'.holds (sumW 0 (l'.sold.drop i)) (fun x hx => (hm x hx).2) (by omega) (by simp only [List.length_drop] at a3; omega)
    have := used i hi
    rw [hli]
    have e : usedV l' i = usedI l' i := by
      rw [usedV, usedI]
      simp only [Int.toNat_natCast]
      omega
    omega
  · obtain ⟨b1, b2, b3⟩ := backW_small i l'.holds 0 (fun x hx => (hm x hx).1) (by omega) (by omega)
    have e : backV l' i = backI l' i := by
      rw [backV, backI]
      omega
    have := back i hi
    omega
omit [Av.Start] in
theorem whileN_stop {α : Type} {p : α → Bool} (d : α) : ∀ {xs : List α}, whileN p xs < xs.length → p (xs.getD (whileN p xs) d) = false
  | [], h => by simp at h
  | x :: xs, h => by
    cases e : p x with
    | true =>
      have e1 : whileN p (x :: xs) = whileN p xs + 1 := by simp [whileN, e]
      rw [e1] at h ⊢
      simpa using whileN_stop d (xs := xs) (by simpa using h)
    | false =>
      have e1 : whileN p (x :: xs) = 0 := by simp [whileN, e]
      rw [e1]
      simpa using e
omit [Av.Start] in
theorem getD_erase (xs : List Hold) (k i : Nat) : (xs.eraseIdx k).getD i default = if i < k then xs.getD i default else xs.getD (i + 1) default := by
  simp only [List.getD_eq_getElem?_getD, List.getElem?_eraseIdx]
  split <;> rfl
omit [Av.Start] in
theorem getD_insert (xs : List Hold) {k : Nat} (hk : k ≤ xs.length) (o : Hold) (i : Nat) : (xs.take k ++ o :: xs.drop k).getD i default = if i < k then xs.getD i default else if i = k then o else xs.getD (i - 1) default := by
  have hl : (xs.take k).length = k := by rw [List.length_take]; omega
  simp only [List.getD_eq_getElem?_getD]
  by_cases h1 : i < k
  · rw [if_pos h1, List.getElem?_append_left (by omega), List.getElem?_take_of_lt h1]
  · rw [if_neg h1, List.getElem?_append_right (by omega), hl]
    by_cases h2 : i = k
    · rw [if_pos h2, h2, Nat.sub_self]; rfl
    · rw [if_neg h2, show i - k = (i - k - 1) + 1 by omega, List.getElem?_cons_succ, List.getElem?_drop]
      congr 2
      omega
omit [Av.Start] in
theorem mem_getD {xs : List Hold} {k : Nat} (hk : k < xs.length) : xs.getD k default ∈ xs := by
  rw [List.getD_eq_getElem?_getD, List.getElem?_eq_getElem hk]
  exact List.getElem_mem hk
omit [Av.Start] in
theorem LegP.may {l : Leg} (h : LegP l) : ∀ o, o ∈ l.holds → mayB l o = true := fun o ho => by
  obtain ⟨i, hi, rfl⟩ := List.mem_iff_getElem.1 ho
  have := h.hold i hi
  rwa [List.getD_eq_getElem?_getD, List.getElem?_eq_getElem hi] at this
omit [Av.Start] in
theorem LegP.used' {l : Leg} (h : LegP l) (i : Nat) (hi : i < 3) : Go.Proofs.Ytcmpcpigchlhpaa.usedI l i ≤ l.limits.getD i 0 := by
  have := h.usedI (c := (i : Int)) (by omega)
  have := h.used i hi
  omega
omit [Av.Start] in
theorem LegP.back' {l : Leg} (h : LegP l) (i : Nat) (hi : i < 3) : Go.Proofs.Ytcmpcpigchlhpaa.backI l i ≤ l.sold.getD i 0 := by
  have := h.backI (i : Int)
  have := h.back i hi
  omega
omit [Av.Start] in
/-- what one of the holds adds is no more than what all add -/
theorem sum_ge (f : Hold → Int) (hf : ∀ o, 0 ≤ f o) : ∀ (xs : List Hold) {k : Nat}, k < xs.length → 0 ≤ (xs.map f).sum ∧ f (xs.getD k default) ≤ (xs.map f).sum
  | x :: xs, 0, _ => by
    have : 0 ≤ (xs.map f).sum := by
      cases xs with
      | nil => simp
      | cons y ys => exact (sum_ge f hf (y :: ys) (k := 0) (by simp)).1
    have := hf x
    simp only [List.map_cons, List.sum_cons, List.getD_cons_zero]
    omega
  | x :: xs, k + 1, h => by
    have := sum_ge f hf xs (k := k) (by simpa using h)
    have := hf x
    simp only [List.map_cons, List.sum_cons, List.getD_cons_succ]
    omega
omit [Av.Start] in
theorem erase_rise {l : Leg} (h : LegP l) (k i : Nat) (hi : i < (l.holds.eraseIdx k).length) (h0 : i ≠ 0) : ((l.holds.eraseIdx k).getD (i - 1) default).txn < ((l.holds.eraseIdx k).getD i default).txn := by
  have hl : (l.holds.eraseIdx k).length = if k < l.holds.length then l.holds.length - 1 else l.holds.length := List.length_eraseIdx ..
  rw [getD_erase, getD_erase]
  split at hl <;> split <;> split <;> exact h.rises (by omega) (by omega)
omit [Av.Start] in
theorem drop_ok {l : Leg} (h : LegP l) (n : Int) : LegP (dropL l n) := by
  cases ht : thereB l n with
  | false => rw [dropL, ht]; exact h
  | true =>
    have hk := thereB_t ht
    rw [dropL, ht]
    have hl : (l.holds.eraseIdx (placeN l n)).length = l.holds.length - 1 := by rw [List.length_eraseIdx, if_pos hk]
    have hh := h.holds
    refine turn_ok (l' := { l with holds := l.holds.eraseIdx (placeN l n) }) h rfl rfl rfl rfl rfl rfl rfl rfl h.sold h.sol (by show (l.holds.eraseIdx (placeN l n)).length ≤ 6; omega) (fun o ho => h.may o (List.mem_of_mem_eraseIdx ho)) (fun i hi h0 => erase_rise h _ i hi h0) (fun i hi => ?_) (fun i hi => ?_)
    · have h1 := h.used' i hi
      rw [usedI_def] at h1 ⊢
      have h2 := sum_erase (upS i) l.holds hk
      have h3 := upS_nn i (l.holds.getD (placeN l n) default)
      simp only at h1 h2 ⊢
      omega
    · have h1 := h.back' i hi
      rw [backI_def] at h1 ⊢
      have h2 := sum_erase (dnS i) l.holds hk
      have h3 := dnS_nn i (l.holds.getD (placeN l n) default)
      simp only at h1 h2 ⊢
      omega
omit [Av.Start] in
theorem drop_sum_ge : ∀ (xs : List Int) (i : Nat), (∀ x, x ∈ xs → 0 ≤ x) → 0 ≤ (xs.drop i).sum ∧ xs.getD i 0 ≤ (xs.drop i).sum
  | [], i, _ => by simp
  | x :: xs, 0, h => by
    have h1 := h x List.mem_cons_self
    have h2 := (drop_sum_ge xs 0 (fun y hy => h y (List.mem_cons_of_mem _ hy))).1
    simp only [List.drop_zero, List.sum_cons, List.getD_cons_zero] at h2 ⊢
    omega
  | x :: xs, i + 1, h => by
    simpa using drop_sum_ge xs i (fun y hy => h y (List.mem_cons_of_mem _ hy))
omit [Av.Start] in
theorem getD_set (xs : List Int) {i : Nat} (hi : i < xs.length) (v : Int) (j : Nat) : (xs.set i v).getD j 0 = if i = j then v else xs.getD j 0 := by
  simp only [List.getD_eq_getElem?_getD, List.getElem?_set, hi, if_true]
  split <;> rfl
omit [Av.Start] in
theorem keep_ok {l : Leg} (h : LegP l) (n : Int) : LegP (keepL l n) ∧ (thereB l n = true → soldV l (placeN l n) true = l.sold.set (l.holds.getD (placeN l n) default).cls.toNat (l.sold.getD (l.holds.getD (placeN l n) default).cls.toNat 0 + (l.holds.getD (placeN l n) default).seats)) := by
  cases ht : thereB l n with
  | false => exact ⟨by rw [keepL, ht]; exact h, fun e => nomatch e⟩
  | true =>
    have hk := thereB_t ht
    have hm := h.seats _ (mem_getD hk)
    have hl : (l.holds.eraseIdx (placeN l n)).length = l.holds.length - 1 := by rw [List.length_eraseIdx, if_pos hk]
    have hh := h.holds
    have hs := h.sold
    have hca := h.cap
    have hk2 : placeN l n < l.holds.length := hk
    generalize hP : placeN l n = P at hk hm hl hk2
    generalize hO : l.holds.getD P default = o at hm
    have hcl := inB_iff.1 hm.2.1
    have hc3 : o.cls.toNat < l.sold.length := by omega
    have hcc : ((o.cls.toNat : Nat) : Int) = o.cls := by omega
    have hx : 0 ≤ l.sold.getD o.cls.toNat 0 ∧ l.sold.getD o.cls.toNat 0 ≤ l.cap := (all_getD (d := 0) (p := fun x => 0 ≤ x ∧ x ≤ l.cap)).2 h.sol _ hc3
    have hw : IntKind.i64.wrap (l.sold.getD o.cls.toNat 0 + o.seats) = l.sold.getD o.cls.toNat 0 + o.seats := wrap_id (by omega) (by omega)
    have hsv : soldV l P true = l.sold.set o.cls.toNat (l.sold.getD o.cls.toNat 0 + o.seats) := by
      rw [soldV, hO, hw]; rfl
    refine ⟨?_, fun _ => by rw [hsv]⟩
    have he : keepL l n = { l with sold := l.sold.set o.cls.toNat (l.sold.getD o.cls.toNat 0 + o.seats), holds := l.holds.eraseIdx P } := by rw [keepL, ht, hP, hsv]; rfl
    rw [he]
    have u := h.used' o.cls.toNat (by omega)
    have b := h.back' o.cls.toNat (by omega)
    have lm := h.lim o.cls.toNat (by omega)
    have u1 := sum_ge (upS o.cls.toNat) (upS_nn _) l.holds hk2
    have b1 := sum_ge (dnS o.cls.toNat) (dnS_nn _) l.holds hk2
    have d1 := drop_sum_ge l.sold o.cls.toNat (fun x hx => (h.sol x hx).1)
    rw [usedI_def] at u
    rw [backI_def] at b
    rw [hO] at u1 b1
    simp only [Int.toNat_natCast] at u
    simp only [hcc] at u u1 b b1
    have up0 : 0 < o.seats → o.seats ≤ (l.holds.map (upS o.cls)).sum := fun e => by
      have := u1.2
      rwa [upS, if_pos ⟨Int.le_refl _, e⟩] at this
    have dn0 : o.seats < 0 → -o.seats ≤ (l.holds.map (dnS o.cls)).sum := fun e => by
      have := b1.2
      rwa [dnS, if_pos ⟨rfl, e⟩] at this
    refine turn_ok (l' := { l with sold := l.sold.set o.cls.toNat (l.sold.getD o.cls.toNat 0 + o.seats), holds := l.holds.eraseIdx P }) h rfl rfl rfl rfl rfl rfl rfl rfl (by simp [hs]) (fun x hx' => ?_) (by show (l.holds.eraseIdx P).length ≤ 6; omega) (fun o ho => h.may o (List.mem_of_mem_eraseIdx ho)) (fun i hi h0 => erase_rise h _ i hi h0) (fun i hi => ?_) (fun i hi => ?_)
    · rcases List.mem_or_eq_of_mem_set hx' with e | e
      · exact h.sol x e
      · rw [e]
        have := u1.1
        have := b1.1
        by_cases e : 0 < o.seats
        · have := up0 e
          omega
        · have := dn0 (by omega)
          omega
    · have h1 := h.used' i hi
      rw [usedI_def] at h1 ⊢
      have h2 := sum_erase (upS i) l.holds hk2
      have h3 := sum_set l.sold hc3 (l.sold.getD o.cls.toNat 0 + o.seats) i
      rw [hO] at h2
      simp only [upS, Int.toNat_natCast] at h1 h2 h3 ⊢
      split at h2 <;> split at h3 <;> omega
    · have h1 := h.back' i hi
      rw [backI_def] at h1 ⊢
      have h2 := sum_erase (dnS i) l.holds hk2
      have h3 := getD_set l.sold hc3 (l.sold.getD o.cls.toNat 0 + o.seats) i
      rw [hO] at h2
      simp only at h1 h2 h3 ⊢
      rw [h3]
      have h4 := dnS_nn i o
      by_cases e : o.cls.toNat = i
      · rw [if_pos e]
        by_cases e2 : o.seats < 0
        · have h5 : dnS i o = -o.seats := by rw [dnS, if_pos ⟨by omega, e2⟩]
          subst e
          omega
        · subst e
          omega
      · rw [if_neg e]
        omega
omit [Av.Start] in
theorem roomW_le {l : Leg} (h : LegP l) (s0 : Int) : ∀ {k i : Nat}, i < k → k ≤ 3 → roomW l s0 k ≤ l.limits.getD i 0 - Go.Proofs.Ytcmpcpigchlhpaa.usedI l i
  | k + 1, i, h1, h2 => by
    have u := h.usedI (c := (k : Int)) (by omega)
    have lm := h.lim k (by omega)
    have hca := h.cap
    rw [roomW, wrap_id (by omega) (by omega)]
    by_cases e : i = k
    · subst e; omega
    · have := roomW_le h s0 (k := k) (i := i) (by omega) (by omega)
      omega
omit [Av.Start] in
theorem hold_ok {l : Leg} (h : LegP l) {o : Hold} {s : Int} (hc : canB l o s = true) : LegP (holdL l o) := by
  have hf : fitB l o = true := by
    rw [canB, Bool.and_eq_true] at hc; exact hc.1
  obtain ⟨t1, t2, t3, t4, t5, t6, t7⟩ := (fitB_iff h).1 hf
  have t4' := inB_iff.1 t4
  rw [canB, hf, Bool.true_and] at hc
  have hpl : placeN l o.txn ≤ l.holds.length := whileN_le _ _
  have hmay : mayB l o = true := by
    rw [fitB, Bool.and_eq_true] at hf; exact hf.2
  have hlo : ∀ i, i < placeN l o.txn → (l.holds.getD i default).txn < o.txn := fun i hi => by
    have := whileN_lt (p := fun x : Hold => decide (x.txn < o.txn)) default hi
    simpa using this
  have hhi : ∀ i, placeN l o.txn ≤ i → i < l.holds.length → o.txn < (l.holds.getD i default).txn := fun i h1 h2 => by
    have a := whileN_stop (p := fun x : Hold => decide (x.txn < o.txn)) (default : Hold) (xs := l.holds) (show whileN _ l.holds < _ by have : whileN (fun x : Hold => decide (x.txn < o.txn)) l.holds = placeN l o.txn := rfl; omega)
    have a2 : ¬ (l.holds.getD (placeN l o.txn) default).txn < o.txn := of_decide_eq_false a
    have a3 : (l.holds.getD (placeN l o.txn) default).txn ≠ o.txn := fun e => by
      rw [thereB, decide_eq_true e, decide_eq_true (by omega)] at t1
      cases t1
    by_cases e : placeN l o.txn = i
    · rw [← e]; omega
    · have := h.rises (i := placeN l o.txn) (j := i) (by omega) h2
      omega
  have hll : (holdL l o).holds.length = l.holds.length + 1 := by
    simp only [holdL, List.length_append, List.length_cons, List.length_take, List.length_drop]
    omega
  refine turn_ok (l' := holdL l o) h rfl rfl rfl rfl rfl rfl rfl rfl h.sold h.sol (by omega) (fun x hx => ?_) (fun i hi h0 => ?_) (fun i hi => ?_) (fun i hi => ?_)
  · rcases List.mem_append.1 hx with hx | hx
    · exact h.may x (List.mem_of_mem_take hx)
    · rcases List.mem_cons.1 hx with rfl | hx
      · exact hmay
      · exact h.may x (List.mem_of_mem_drop hx)
  · show ((l.holds.take (placeN l o.txn) ++ o :: l.holds.drop (placeN l o.txn)).getD (i - 1) default).txn < ((l.holds.take (placeN l o.txn) ++ o :: l.holds.drop (placeN l o.txn)).getD i default).txn
    rw [hll] at hi
    rw [getD_insert _ hpl, getD_insert _ hpl]
    by_cases h1 : i < placeN l o.txn
    · rw [if_pos (by omega), if_pos h1]
      exact h.rises (by omega) (by omega)
    · by_cases h2 : i = placeN l o.txn
      · rw [if_pos (by omega), if_neg h1, if_pos h2]
        exact hlo _ (by omega)
      · rw [if_neg (by omega), if_neg h1, if_neg h2]
        by_cases h3 : i - 1 = placeN l o.txn
        · rw [if_pos h3]
          exact hhi _ (by omega) (by omega)
        · rw [if_neg h3]
          exact h.rises (by omega) (by omega)
  · have h1 := h.used' i hi
    rw [usedI_def] at h1 ⊢
    have h2 := sum_insert (upS i) l.holds (placeN l o.txn) o
    have h3 : i ≤ o.cls.toNat → roomW l 9 (o.cls.toNat + 1) ≤ l.limits.getD i 0 - Go.Proofs.Ytcmpcpigchlhpaa.usedI l i := fun e => roomW_le h 9 (by omega) (by omega)
    rw [usedI_def] at h3
    simp only [upS, holdL] at h1 h2 h3 ⊢
    rw [h2]
    split at hc
    · rw [Bool.and_eq_true, decide_eq_true_eq, decide_eq_true_eq] at hc
      split
      · have := h3 (by omega)
        omega
      · omega
    · rw [if_neg (by omega)]; omega
  · have h1 := h.back' i hi
    rw [backI_def] at h1 ⊢
    have h2 := sum_insert (dnS i) l.holds (placeN l o.txn) o
    have h3 := h.backI o.cls
    rw [backI_def] at h3
    simp only [dnS, holdL] at h1 h2 h3 ⊢
    rw [h2]
    split at hc
    · rw [if_neg (by omega)]; omega
    · rw [decide_eq_true_eq] at hc
      split
      · rename_i e
        rw [show o.cls.toNat = i by omega] at hc
        have e2 : o.cls = (i : Int) := e.1
        rw [e2] at h3 hc
        omega
      · omega
end Go.Proofs.Ytcmpcpigchlhpaa

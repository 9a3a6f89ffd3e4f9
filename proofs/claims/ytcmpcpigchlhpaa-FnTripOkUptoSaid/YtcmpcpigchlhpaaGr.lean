/- Decimal numerals: what the library's Itoa and Atoi and the reference's l1Dec and l2Num have in common. Plain Lean, no program in sight. -/
import Derived.Lib.ItoaLen
import Derived.Lib.AtoiAllCases
import Derived.Lib.Split
import Derived.Lib.Join

namespace Go.Proofs.Ytcmpcpigchlhpaa
set_option linter.unusedSectionVars false
set_option maxRecDepth 10000

def isDg (b : UInt8) : Bool := decide (48 ≤ b.toNat ∧ b.toNat ≤ 57)
def stepD (n : Nat) (b : UInt8) : Nat := n * 10 + (b.toNat - 48)
def valD (s : List UInt8) : Nat := s.foldl stepD 0
theorem u8_of {n : Nat} (h : n < 256) : (UInt8.ofNat n).toNat = n := by simp [UInt8.toNat_ofNat']; omega
theorem dg_of {d : Nat} (h : d < 10) : isDg (UInt8.ofNat (48 + d)) = true ∧ (UInt8.ofNat (48 + d)).toNat - 48 = d := by
  rw [isDg, u8_of (by omega)]
  exact ⟨decide_eq_true (by omega), by omega⟩
theorem dec_small {u : Nat} (h : u < 10) : Lib.decDigits u = [UInt8.ofNat (48 + u)] := by rw [Lib.decDigits, dif_pos h]
theorem dec_big {u : Nat} (h : ¬ u < 10) : Lib.decDigits u = Lib.decDigits (u / 10) ++ [UInt8.ofNat (48 + u % 10)] := by rw [Lib.decDigits, dif_neg h]
theorem valD_app (s : List UInt8) (b : UInt8) : valD (s ++ [b]) = stepD (valD s) b := by simp [valD]
/-- the numeral of a number: digits, no nought ahead, and it spells that number -/
theorem dec_props : ∀ (u : Nat), (Lib.decDigits u).all isDg = true ∧ valD (Lib.decDigits u) = u ∧ ∃ c r, Lib.decDigits u = c :: r ∧ (c = 48 → r = [] ∧ u = 0)
  | u => by
    by_cases h : u < 10
    · rw [dec_small h]
      obtain ⟨h1, h2⟩ := dg_of h
      refine ⟨by rw [List.all_cons, h1]; rfl, by show 0 * 10 + _ = _; rw [h2]; omega, _, _, rfl, fun e => ⟨rfl, ?_⟩⟩
      have := congrArg UInt8.toNat e
      rw [u8_of (by omega)] at this
      have e2 : (48 : UInt8).toNat = 48 := rfl
      omega
    · have ih := dec_props (u / 10)
      rw [dec_big h]
      obtain ⟨i1, i2, c, r, i3, i4⟩ := ih
      obtain ⟨h1, h2⟩ := dg_of (d := u % 10) (by omega)
      refine ⟨by rw [List.all_append, i1, List.all_cons, h1]; rfl, ?_, c, r ++ [UInt8.ofNat (48 + u % 10)], by rw [i3]; rfl, fun e => ?_⟩
      · rw [valD_app, i2, stepD, h2]
        omega
      · have := (i4 e).2
        omega
termination_by u => u
decreasing_by omega
theorem valD_ge : ∀ (s : List UInt8) (a : Nat), a ≤ s.foldl stepD a
  | [], a => Nat.le_refl _
  | b :: s, a => Nat.le_trans (by simp only [stepD]; omega) (valD_ge s (stepD a b))
/-- digits without a nought ahead are a numeral -/
theorem dec_valD : ∀ (n : Nat) (s : List UInt8), s.length = n → s ≠ [] → s.all isDg = true → (s.length ≤ 1 ∨ s.head? ≠ some 48) → Lib.decDigits (valD s) = s
  | 0, s, hl, hn, _, _ => absurd (List.eq_nil_of_length_eq_zero hl) hn
  | n + 1, s, hl, hn, hd, h0 => by
    obtain ⟨s', b, rfl⟩ : ∃ s' b, s = s' ++ [b] := ⟨s.dropLast, s.getLast hn, (List.dropLast_concat_getLast hn).symm⟩
    rw [List.all_append, Bool.and_eq_true] at hd
    have hb : isDg b = true := by simpa using hd.2
    rw [isDg, decide_eq_true_eq] at hb
    rw [valD_app, stepD]
    by_cases hs : s' = []
    · subst hs
      rw [show valD [] = 0 from rfl, dec_small (by omega)]
      simp only [List.nil_append, List.cons.injEq, and_true]
      apply UInt8.toNat_inj.1
      rw [u8_of (by omega)]
      omega
    · have hlen : 1 ≤ s'.length := by
        cases s' with
        | nil => exact absurd rfl hs
        | cons => simp
      have hh : s'.head? ≠ some 48 := by
        rcases h0 with h0 | h0
        · simp at h0
          exact absurd h0 hs
        · cases s' with
          | nil => exact absurd rfl hs
          | cons c r => simpa using h0
      have ih := dec_valD n s' (by simpa using hl) hs hd.1 (.inr hh)
      have hpos : ¬ valD s' < 1 := fun hz => by
        have hz0 : valD s' = 0 := by omega
        rw [hz0, dec_small (by omega)] at ih
        rw [← ih] at hh
        exact hh rfl
      rw [dec_big (by omega)]
      have e1 : (valD s' * 10 + (b.toNat - 48)) / 10 = valD s' := by omega
      have e2 : (valD s' * 10 + (b.toNat - 48)) % 10 = b.toNat - 48 := by omega
      rw [e1, e2, ih]
      simp only [List.append_cancel_left_eq, List.cons.injEq, and_true]
      apply UInt8.toNat_inj.1
      rw [u8_of (by omega)]
      omega
/-- what l2Num reads -/
def num12 (s : List UInt8) : Int := if (1 ≤ s.length ∧ s.length ≤ 12) ∧ (s.length ≤ 1 ∨ s.head? ≠ some 48) ∧ s.all isDg = true then (valD s : Int) else -1
theorem valD_lt : ∀ (s : List UInt8) (a : Nat), s.all isDg = true → s.foldl stepD a < (a + 1) * 10 ^ s.length
  | [], a, _ => by simp
  | b :: s, a, h => by
    rw [List.all_cons, Bool.and_eq_true, isDg, decide_eq_true_eq] at h
    have := valD_lt s (stepD a b) h.2
    rw [List.foldl_cons, List.length_cons, Nat.pow_succ]
    refine Nat.lt_of_lt_of_le this ?_
    rw [Nat.mul_comm (10 ^ s.length) 10, ← Nat.mul_assoc]
    exact Nat.mul_le_mul_right _ (by simp only [stepD]; omega)
theorem num12_dec {u : Nat} (h : u < 1000000000000) : num12 (Lib.decDigits u) = u := by
  obtain ⟨h1, h2, c, r, h3, h4⟩ := dec_props u
  have hl : (Lib.decDigits u).length ≤ 12 := by
    apply Decidable.byContradiction
    intro hn
    have hp : ∀ (k v : Nat), v < 10 ^ (k + 1) → (Lib.decDigits v).length ≤ k + 1 := fun k => by
      induction k with
      | zero => intro v hv; rw [dec_small (by omega)]; simp
      | succ k ih =>
        intro v hv
        by_cases h : v < 10
        · rw [dec_small h]; simp
        · rw [dec_big h, List.length_append]
          have := ih (v / 10) (by rw [Nat.pow_succ] at hv; omega)
          simp only [List.length_cons, List.length_nil]
          omega
    exact hn (hp 11 u (by omega))
  rw [num12, if_pos, h2]
  refine ⟨⟨by rw [h3]; simp, hl⟩, ?_, h1⟩
  rw [h3]
  by_cases hc : c = 48
  · exact .inl (by rw [(h4 hc).1]; simp)
  · exact .inr (by simpa using hc)
theorem num12_some {s : List UInt8} (h : 0 ≤ num12 s) : ∃ u : Nat, num12 s = u ∧ u < 1000000000000 ∧ s = Lib.decDigits u := by
  rw [num12] at h ⊢
  split
  · rename_i hc
    refine ⟨valD s, rfl, ?_, (dec_valD _ s rfl (fun e => by rw [e] at hc; simp at hc) hc.2.2 hc.2.1).symm⟩
    have := valD_lt s 0 hc.2.2
    have h2 := Nat.pow_le_pow_right (n := 10) (by decide) hc.1.2
    have : valD s < (0 + 1) * 10 ^ s.length := this
    omega
  · rename_i hc
    rw [if_neg hc] at h
    omega
theorem num12_ge (s : List UInt8) : -1 ≤ num12 s := by
  rw [num12]
  split <;> omega
/-- how a parse ends -/
def okV : Lib.NumEnd Int → Option Int
  | .ok v => some v
  | _ => none
def badV (s : List UInt8) : Int := if Lib.atoiAll s = .range then Lib.atoiSat s else 0
/-- what impl's number reads -/
def numV (s : List UInt8) : Int × Bool :=
  match okV (Lib.atoiAll s) with
  | some v => (v, decide (Lib.itoa v = s))
  | none => (badV s, false)
theorem okV_some {e : Lib.NumEnd Int} {v : Int} (h : okV e = some v) : e = .ok v := by
  cases e with
  | ok u => exact congrArg _ (Option.some.inj h)
  | _ => cases h
theorem parse_dec : ∀ (l : List UInt8) (a : Nat), l.all isDg = true → l.foldl stepD a < 18446744073709551616 → Lib.parseUint10 a l = .ok (l.foldl stepD a)
  | [], a, _, _ => rfl
  | c :: r, a, hd, hv => by
    rw [List.all_cons, Bool.and_eq_true, isDg, decide_eq_true_eq] at hd
    rw [List.foldl_cons] at hv
    have hg := valD_ge r (stepD a c)
    have hs : stepD a c = a * 10 + (c.toNat - 48) := rfl
    rw [Lib.parseUint10, if_pos hd.1, if_neg (by omega), if_neg (by omega), List.foldl_cons]
    exact parse_dec r _ hd.2 hv
theorem atoi_dec {u : Nat} (h : u < 18446744073709551616) : Lib.parseMag (Lib.decDigits u) = .ok u := by
  obtain ⟨h1, h2, c, r, h3, _⟩ := dec_props u
  rw [Lib.parseMag, if_neg (by rw [h3]; simp), parse_dec _ _ h1 (by show valD _ < _; rw [h2]; exact h)]
  exact congrArg _ h2
theorem dg_ne {c : UInt8} (h : isDg c = true) : c.toNat ≠ 43 ∧ c.toNat ≠ 45 := by
  rw [isDg, decide_eq_true_eq] at h
  omega
theorem atoi_itoa {n : Int} (h0 : -9223372036854775808 ≤ n) (h1 : n ≤ 9223372036854775807) : Lib.atoiAll (Lib.itoa n) = .ok n := by
  rw [Lib.itoa]
  split
  · rw [Lib.atoiAll_minus, atoi_dec (by omega), Lib.signed, if_neg (by omega)]
    congr 1
    omega
  · obtain ⟨k1, _, c, r, k3, _⟩ := dec_props n.toNat
    have hm := atoi_dec (u := n.toNat) (by omega)
    have hc : isDg c = true := by
      rw [k3] at k1
      simp only [List.all_cons, Bool.and_eq_true] at k1
      exact k1.1
    rw [k3] at hm ⊢
    rw [Lib.atoiAll_plain c r (dg_ne hc).1 (dg_ne hc).2, hm, Lib.signless, if_neg (by omega)]
    congr 1
    omega
theorem numV_itoa {n : Int} (h0 : -9223372036854775808 ≤ n) (h1 : n ≤ 9223372036854775807) : numV (Lib.itoa n) = (n, true) := by
  rw [numV, atoi_itoa h0 h1]
  simp [okV]
theorem numV_true {s : List UInt8} (h : (numV s).2 = true) : s = Lib.itoa (numV s).1 ∧ -9223372036854775808 ≤ (numV s).1 ∧ (numV s).1 ≤ 9223372036854775807 := by
  rw [numV] at h ⊢
  cases hv : okV (Lib.atoiAll s) with
  | some v =>
    rw [hv] at h
    exact ⟨(of_decide_eq_true h).symm, Lib.atoiAll_bounds (okV_some hv)⟩
  | none =>
    rw [hv] at h
    cases h
theorem itoa_nat (u : Nat) : Lib.itoa (u : Int) = Lib.decDigits u := by rw [Lib.itoa, if_neg (by omega), Int.toNat_natCast]
theorem num12_itoa {n : Int} (h0 : 0 ≤ n) (h1 : n < 1000000000000) : num12 (Lib.itoa n) = n := by
  obtain ⟨u, rfl⟩ := Int.eq_ofNat_of_zero_le h0
  rw [itoa_nat]
  exact num12_dec (by omega)
theorem num12_pos {s : List UInt8} (h : 0 ≤ num12 s) : s = Lib.itoa (num12 s) ∧ num12 s < 1000000000000 := by
  obtain ⟨u, h1, h2, h3⟩ := num12_some h
  rw [h1, itoa_nat]
  exact ⟨h3, by omega⟩
theorem itoa_ne (n : Int) : Lib.itoa n ≠ [] := by
  rw [Lib.itoa]
  split
  · simp
  · obtain ⟨_, _, c, r, h, _⟩ := dec_props n.toNat
    rw [h]
    simp
/-- no byte of a numeral is another one than a figure or the stroke -/
theorem itoa_mem {n : Int} {b : UInt8} (h : b ∈ Lib.itoa n) : isDg b = true ∨ b = 45 := by
  rw [Lib.itoa] at h
  split at h
  · rcases List.mem_cons.1 h with h | h
    · exact .inr h
    · exact .inl (List.all_eq_true.1 (dec_props n.natAbs).1 b h)
  · exact .inl (List.all_eq_true.1 (dec_props n.toNat).1 b h)
end Go.Proofs.Ytcmpcpigchlhpaa

/- Texts cut at a byte and joined again. Plain Lean, no program in sight. -/
namespace Go.Proofs.Ytcmpcpigchlhpaa
set_option linter.unusedSectionVars false
set_option maxRecDepth 10000

/-- a text cut at each c -/
def splitC (c : UInt8) : List UInt8 → List (List UInt8)
  | [] => [[]]
  | b :: s => if b = c then [] :: splitC c s else match splitC c s with
    | [] => [[b]]
    | w :: ws => (b :: w) :: ws
theorem splitC_ne (c : UInt8) : ∀ s, splitC c s ≠ []
  | [] => by simp [splitC]
  | b :: s => by
    rw [splitC]
    split
    · simp
    · split <;> simp
theorem splitC_none {c : UInt8} : ∀ {a : List UInt8}, c ∉ a → splitC c a = [a]
  | [], _ => rfl
  | b :: a, h => by
    rw [List.mem_cons, not_or] at h
    rw [splitC, if_neg (fun e => h.1 e.symm), splitC_none h.2]
theorem splitC_app {c : UInt8} : ∀ {a : List UInt8} (r : List UInt8), c ∉ a → splitC c (a ++ c :: r) = a :: splitC c r
  | [], r, _ => by rw [List.nil_append, splitC, if_pos rfl]
  | b :: a, r, h => by
    rw [List.mem_cons, not_or] at h
    rw [List.cons_append, splitC, if_neg (fun e => h.1 e.symm), splitC_app r h.2]
theorem index_cases (c : UInt8) : ∀ s : List UInt8, (Lib.index s [c] = -1 ∧ c ∉ s) ∨ ∃ a r, s = a ++ c :: r ∧ c ∉ a ∧ Lib.index s [c] = a.length
  | [] => .inl ⟨rfl, by simp⟩
  | b :: s => by
    by_cases e : b = c
    · subst e
      exact .inr ⟨[], s, rfl, by simp, by simp [Lib.index]⟩
    · have hp : [c].isPrefixOf (b :: s) = false := by simp [List.isPrefixOf, Ne.symm e]
      rcases index_cases c s with ⟨h1, h2⟩ | ⟨a, r, h1, h2, h3⟩
      · refine .inl ⟨by rw [Lib.index, hp, h1]; rfl, ?_⟩
        rw [List.mem_cons, not_or]
        exact ⟨Ne.symm e, h2⟩
      · refine .inr ⟨b :: a, r, by rw [h1]; rfl, ?_, ?_⟩
        · rw [List.mem_cons, not_or]
          exact ⟨Ne.symm e, h2⟩
        · have hn : ¬ ((a.length : Int) == -1) = true := by simp
          rw [Lib.index, hp, h3, if_neg (by simp), if_neg hn, List.length_cons]
          omega
theorem lib_split (c : UInt8) (s : List UInt8) : Lib.split s [c] = splitC c s := by
  show Lib.splitK [c] 0 (Lib.count s [c]) s = _
  generalize hn : s.length = n
  induction n using Nat.strongRecOn generalizing s with
  | ind n ih =>
    rcases index_cases c s with ⟨h1, h2⟩ | ⟨a, r, h1, h2, h3⟩
    · rw [Lib.count_miss h1, splitC_none h2]
      rfl
    · have hd : s.drop (a.length + 1) = r := by rw [h1]; simp
      have ht : s.take a.length = a := by rw [h1]; simp
      have hm : ¬ (Lib.index s [c] == -1) = true := by rw [h3]; simp
      rw [Lib.count_hit (by simp) h3, Nat.add_comm, Lib.splitK, if_neg hm, h3]
      simp only [Int.toNat_natCast, Nat.add_zero, List.length_cons, List.length_nil, Nat.zero_add, hd, ht]
      rw [ih r.length (by rw [← hn, h1]; simp; omega) r rfl]
      rw [h1, splitC_app r h2]
theorem lib_cut (c : UInt8) (s : List UInt8) : (c ∉ s ∧ Lib.cut s [c] = (s, [], false)) ∨ ∃ a r, s = a ++ c :: r ∧ c ∉ a ∧ Lib.cut s [c] = (a, r, true) := by
  rcases index_cases c s with ⟨h1, h2⟩ | ⟨a, r, h1, h2, h3⟩
  · refine .inl ⟨h2, ?_⟩
    rw [Lib.cut, h1]
    rfl
  · refine .inr ⟨a, r, h1, h2, ?_⟩
    rw [Lib.cut, if_pos (by omega), h3]
    simp only [Int.toNat_natCast, List.length_cons, List.length_nil, Nat.zero_add]
    rw [h1]
    simp
/-- texts with c between -/
def joinC (c : UInt8) : List (List UInt8) → List UInt8
  | [] => []
  | [w] => w
  | w :: v :: ws => w ++ c :: joinC c (v :: ws)
theorem lib_join (c : UInt8) : ∀ ws, Lib.join ws [c] = joinC c ws
  | [] => rfl
  | [w] => by simp [Lib.join, joinC, List.intercalate]
  | w :: v :: ws => by
    have := lib_join c (v :: ws)
    rw [Lib.join] at this ⊢
    rw [joinC, ← this]
    simp [List.intercalate, List.intersperse]
theorem joinC_cons (c : UInt8) (w : List UInt8) {ws : List (List UInt8)} (h : ws ≠ []) : joinC c (w :: ws) = w ++ c :: joinC c ws := by
  cases ws with
  | nil => exact absurd rfl h
  | cons v ws => rfl
theorem join_split (c : UInt8) : ∀ s, joinC c (splitC c s) = s
  | [] => rfl
  | b :: s => by
    have ih := join_split c s
    rw [splitC]
    split
    · rename_i e
      rw [joinC_cons c [] (splitC_ne c s), ih, e]
      rfl
    · split
      · rename_i e
        exact absurd e (splitC_ne c s)
      · rename_i w ws e
        rw [e] at ih
        cases ws with
        | nil =>
          simp only [joinC] at ih ⊢
          rw [ih]
        | cons v ws =>
          simp only [joinC] at ih ⊢
          rw [List.cons_append, ih]
theorem split_join (c : UInt8) : ∀ (ws : List (List UInt8)), ws ≠ [] → (∀ w, w ∈ ws → c ∉ w) → splitC c (joinC c ws) = ws
  | [], h, _ => absurd rfl h
  | [w], _, h => splitC_none (h w (by simp))
  | w :: v :: ws, _, h => by
    rw [joinC, splitC_app _ (h w (by simp)), split_join c (v :: ws) (by simp) (fun x hx => h x (List.mem_cons_of_mem _ hx))]
theorem splitC_mem (c : UInt8) : ∀ (s w : List UInt8), w ∈ splitC c s → c ∉ w
  | [], w, h => by
    simp only [splitC, List.mem_cons, List.not_mem_nil, or_false] at h
    subst h
    simp
  | b :: s, w, h => by
    rw [splitC] at h
    split at h
    · rcases List.mem_cons.1 h with rfl | h
      · simp
      · exact splitC_mem c s w h
    · rename_i e
      split at h
      · rename_i e2
        exact absurd e2 (splitC_ne c s)
      · rename_i v ws e2
        rcases List.mem_cons.1 h with rfl | h
        · rw [List.mem_cons, not_or]
          exact ⟨Ne.symm e, splitC_mem c s v (by rw [e2]; exact List.mem_cons_self)⟩
        · exact splitC_mem c s w (by rw [e2]; exact List.mem_cons_of_mem _ h)
theorem splitC_len (c : UInt8) (s : List UInt8) : (splitC c s).length = Lib.count s [c] + 1 := by
  generalize hn : s.length = n
  induction n using Nat.strongRecOn generalizing s with
  | ind n ih =>
    rcases index_cases c s with ⟨h1, h2⟩ | ⟨a, r, h1, h2, h3⟩
    · rw [Lib.count_miss h1, splitC_none h2]
      rfl
    · have hd : s.drop (a.length + 1) = r := by rw [h1]; simp
      rw [Lib.count_hit (by simp) h3]
      simp only [List.length_cons, List.length_nil, Nat.zero_add, hd]
      have := ih r.length (by rw [← hn, h1]; simp; omega) r rfl
      rw [h1, splitC_app r h2, List.length_cons, this]
      omega
theorem splitB_eq (c : UInt8) (s : List UInt8) : Lib.splitB ⟨#[c]⟩ 0 (Lib.countB ⟨s.toArray⟩ ⟨#[c]⟩) ⟨s.toArray⟩ = (splitC c s).map fun w => (⟨w.toArray⟩ : ByteArray) := by
  have h := Lib.splitB_data ⟨#[c]⟩ 0 (Lib.countB ⟨s.toArray⟩ ⟨#[c]⟩) ⟨s.toArray⟩
  have e : Lib.splitK [c] 0 (Lib.count s [c]) s = splitC c s := lib_split c s
  have h2 : (Lib.splitB ⟨#[c]⟩ 0 (Lib.countB ⟨s.toArray⟩ ⟨#[c]⟩) ⟨s.toArray⟩).map (·.data.toList) = splitC c s := h.trans e
  rw [← h2, List.map_map]
  exact (List.map_id'' (fun x => rfl) _).symm
theorem splitC_le (c : UInt8) : ∀ s : List UInt8, (splitC c s).length ≤ s.length + 1 ∧ ∀ w, w ∈ splitC c s → w.length ≤ s.length
  | [] => by simp [splitC]
  | b :: s => by
    obtain ⟨h1, h2⟩ := splitC_le c s
    rw [splitC]
    split
    · refine ⟨by simp only [List.length_cons]; omega, fun w hw => ?_⟩
      rcases List.mem_cons.1 hw with rfl | hw
      · exact Nat.zero_le _
      · have := h2 w hw
        simp only [List.length_cons]
        omega
    · split
      · simp
      · rename_i v ws e
        rw [e] at h1 h2
        refine ⟨by simp only [List.length_cons] at h1 ⊢; omega, fun w hw => ?_⟩
        rcases List.mem_cons.1 hw with rfl | hw
        · have := h2 v List.mem_cons_self
          simp only [List.length_cons]
          omega
        · have := h2 w (List.mem_cons_of_mem _ hw)
          simp only [List.length_cons]
          omega
end Go.Proofs.Ytcmpcpigchlhpaa

/- Contracts of functions of the program (W6). -/
import Derived.Test.YtmehbbepppjikaaW5
import Derived.Test.YtmehbbepppjikaaP1

namespace Go.Proofs.Ytmehbbepppjikaa
open Go.Av
set_option maxRecDepth 10000
set_option maxHeartbeats 1000000
set_option linter.unusedSimpArgs false
set_option linter.unusedVariables false

theorem erase_len {α : Type} (xs : List α) {k : Nat} (hk : k < xs.length) : (xs.eraseIdx k).length = xs.length - 1 := by
  rw [List.length_eraseIdx, if_pos hk]
theorem there_eq {l : Leg} {n : Int} (h : thereB l n = true) : (l.holds.getD (placeN l n) default).txn = n := by
  simp only [thereB, Bool.and_eq_true, decide_eq_true_eq] at h
  exact h.2
theorem not_there {l : Leg} (h : LegP l) {n : Int} (ht : thereB l n = false) : ∀ i, i < l.holds.length → (l.holds.getD i default).txn ≠ n := by
  intro i hi e
  have hp : placeN l n = i := whileN_at default (by omega) (fun j hj => decide_eq_true (by have := h.rises hj hi; omega)) (fun _ => decide_eq_false (by omega))
  rw [thereB, hp, decide_eq_true hi, decide_eq_true e] at ht
  cases ht
theorem gone {l x : Leg} (h : LegP l) {n : Int} (hx : x.holds = if thereB l n then l.holds.eraseIdx (placeN l n) else l.holds) : ∀ i, i < x.holds.length → (x.holds.getD i default).txn ≠ n := by
  intro i hi
  cases ht : thereB l n with
  | false =>
    rw [ht] at hx
    rw [hx] at hi ⊢
    exact not_there h ht i hi
  | true =>
    rw [ht, if_pos rfl] at hx
    rw [hx] at hi ⊢
    have hk := thereB_t ht
    have he := there_eq ht
    rw [erase_len _ hk] at hi
    rw [getD_erase]
    split
    · rename_i hik
      have := h.rises hik hk
      omega
    · have := h.rises (i := placeN l n) (j := i + 1) (by omega) (by omega)
      omega
theorem there_gone {x : Leg} {n : Int} (h : ∀ i, i < x.holds.length → (x.holds.getD i default).txn ≠ n) : thereB x n = false := by
  cases e : thereB x n with
  | false => rfl
  | true => exact absurd (there_eq e) (h _ (thereB_t e))
theorem dropL_holds (l : Leg) (n : Int) : (dropL l n).holds = if thereB l n then l.holds.eraseIdx (placeN l n) else l.holds := by
  rw [dropL]; split <;> rfl
theorem keepL_holds (l : Leg) (n : Int) : (keepL l n).holds = if thereB l n then l.holds.eraseIdx (placeN l n) else l.holds := by
  rw [keepL]; split <;> rfl
theorem dropL_sold (l : Leg) (n : Int) : (dropL l n).sold = l.sold := by
  rw [dropL]; split <;> rfl
theorem dropL_facts {l : Leg} (hb : legB l = true) (n : Int) : legB (dropL l n) = true ∧ (dropL l n).sold = l.sold ∧ (l.holds.length : Int) - 1 ≤ (dropL l n).holds.length ∧ dropL (dropL l n) n = dropL l n ∧ keepL (dropL l n) n = dropL l n := by
  have hp := legP_of hb
  have ht := there_gone (gone hp (dropL_holds l n))
  refine ⟨(drop_ok hp n).mk_leg, dropL_sold l n, ?_, ?_, ?_⟩
  · rw [dropL_holds]
    split
    · rename_i h1
      rw [erase_len _ (thereB_t h1)]
      omega
    · omega
  · rw [dropL, ht]; rfl
  · rw [keepL, ht]; rfl

def sumK (a b : List Int) : Nat → Int
  | 0 => 0
  | k + 1 => sumK a b k + a.getD k 0 - b.getD k 0
def heldK (l : Leg) (n : Int) : Nat → Int
  | 0 => 0
  | k + 1 => if (l.holds.getD k default).txn = n then (l.holds.getD k default).seats else heldK l n k
theorem sumK_range {a b : List Int} (ha : ∀ i, 0 ≤ a.getD i 0 ∧ a.getD i 0 ≤ 9) (hb : ∀ i, 0 ≤ b.getD i 0 ∧ b.getD i 0 ≤ 9) : ∀ k : Nat, -9 * k ≤ sumK a b k ∧ sumK a b k ≤ 9 * k
  | 0 => by simp [sumK]
  | k + 1 => by
    have := sumK_range ha hb k
    have := ha k
    have := hb k
    simp only [sumK]
    omega
theorem heldK_none {l : Leg} {n : Int} : ∀ {k : Nat}, (∀ i, i < k → (l.holds.getD i default).txn ≠ n) → heldK l n k = 0
  | 0, _ => rfl
  | k + 1, h => by rw [heldK, if_neg (h k (by omega)), heldK_none fun i hi => h i (by omega)]
theorem heldK_at {l : Leg} (h : LegP l) {n : Int} (ht : thereB l n = true) : ∀ {k : Nat}, k ≤ l.holds.length → placeN l n < k → heldK l n k = (l.holds.getD (placeN l n) default).seats
  | 0, _, h0 => absurd h0 (by omega)
  | k + 1, hk, h0 => by
    rw [heldK]
    by_cases e : placeN l n = k
    · rw [← e, if_pos (there_eq ht)]
    · have h1 := h.rises (i := placeN l n) (j := k) (by omega) (by omega)
      have h2 := there_eq ht
      rw [if_neg (by omega), heldK_at h ht (by omega) (by omega)]
theorem sold_range {l : Leg} (h : LegP l) (i : Nat) : 0 ≤ l.sold.getD i 0 ∧ l.sold.getD i 0 ≤ 9 := by
  have hc := h.cap
  rw [List.getD_eq_getElem?_getD]
  by_cases hi : i < l.sold.length
  · rw [List.getElem?_eq_getElem hi]
    have := h.sol _ (List.getElem_mem hi)
    simp only [Option.getD_some]
    omega
  · rw [List.getElem?_eq_none (by omega)]
    simp
theorem keepL_facts {l : Leg} (hb : legB l = true) (n : Int) : legB (keepL l n) = true ∧ (keepL l n).sold.length = 3 ∧ sumK (keepL l n).sold l.sold 3 = heldK l n l.holds.length ∧ ∀ i, i < (keepL l n).holds.length → ((keepL l n).holds.getD i default).txn ≠ n := by
  have hp := legP_of hb
  obtain ⟨k1, k2⟩ := keep_ok hp n
  refine ⟨k1.mk_leg, k1.sold, ?_, gone hp (keepL_holds l n)⟩
  cases ht : thereB l n with
  | false =>
    rw [heldK_none (not_there hp ht), show (keepL l n).sold = l.sold by rw [keepL, ht]; rfl]
    simp only [sumK]
    omega
  | true =>
    have hk := thereB_t ht
    obtain ⟨c0, c1⟩ := hp.cls hk
    have e := k2 ht
    rw [heldK_at hp ht (Nat.le_refl _) hk, show (keepL l n).sold = soldV l (placeN l n) true by rw [keepL, ht]; rfl, e]
    have hs := hp.sold
    generalize (l.holds.getD (placeN l n) default).seats = s
    generalize (l.holds.getD (placeN l n) default).cls = c at c0 c1
    have hc : c.toNat < l.sold.length := by omega
    simp only [sumK]
    rw [getD_set _ hc, getD_set _ hc, getD_set _ hc]
    have hcc : c.toNat = 0 ∨ c.toNat = 1 ∨ c.toNat = 2 := by omega
    rcases hcc with e | e | e <;> rw [e] <;> simp <;> omega
end Go.Proofs.Ytmehbbepppjikaa

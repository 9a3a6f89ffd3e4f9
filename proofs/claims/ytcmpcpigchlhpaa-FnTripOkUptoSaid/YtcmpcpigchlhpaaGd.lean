/- Contracts of functions of the program (Gd). -/
import Derived.Test.YtcmpcpigchlhpaaGb
import Derived.Test.YtcmpcpigchlhpaaGc

namespace Go.Proofs.Ytcmpcpigchlhpaa
set_option linter.unusedSectionVars false
open Go.Av
variable [Av.Start]
set_option maxRecDepth 10000
set_option linter.unusedSimpArgs false
set_option linter.unusedVariables false

/-- how many seats a class and all better ones leave -/
def roomW (l : Leg) (s : Int) : Nat → Int
  | 0 => s
  | k + 1 => min (roomW l s k) (IntKind.i64.wrap (l.limits.getD k 0 - usedV l k))

/-- the same without wrapping: small numbers -/
def usedI (l : Leg) (c : Int) : Int := (l.sold.drop c.toNat).sum + (l.holds.map fun o => if c ≤ o.cls ∧ 0 < o.seats then o.seats else 0).sum
omit [Av.Start] in
theorem sumW_small : ∀ (xs : List Int) (n : Int), (∀ x, x ∈ xs → 0 ≤ x ∧ x ≤ 9) → 0 ≤ n → n + 9 * xs.length ≤ 1000000 → sumW n xs = n + xs.sum ∧ n ≤ sumW n xs ∧ sumW n xs ≤ n + 9 * xs.length
  | [], n, _, _, _ => by simp [sumW]
  | x :: xs, n, h, hn, hl => by
    obtain ⟨h1, h2⟩ := h x List.mem_cons_self
    simp only [List.length_cons] at hl
    obtain ⟨i1, i2, i3⟩ := sumW_small xs (n + x) (fun y hy => h y (List.mem_cons_of_mem _ hy)) (by omega) (by omega)
    have e : sumW n (x :: xs) = sumW (n + x) xs := by simp only [sumW, List.foldl_cons]; rw [wrap_id (by omega) (by omega)]
    rw [e, List.sum_cons, List.length_cons]
    omega
omit [Av.Start] in
theorem usedW_small (c : Int) : ∀ (xs : List Hold) (n : Int), (∀ x, x ∈ xs → x.seats ≤ 9) → 0 ≤ n → n + 9 * xs.length ≤ 1000000 →
    usedW c n xs = n + (xs.map fun o => if c ≤ o.cls ∧ 0 < o.seats then o.seats else 0).sum ∧ n ≤ usedW c n xs ∧ usedW c n xs ≤ n + 9 * xs.length
  | [], n, _, _, _ => by simp [usedW]
  | x :: xs, n, h, hn, hl => by
    have h1 := h x List.mem_cons_self
    simp only [List.length_cons] at hl
    rw [List.map_cons, List.sum_cons, List.length_cons]
    by_cases hc : c ≤ x.cls ∧ 0 < x.seats
    · obtain ⟨i1, i2, i3⟩ := usedW_small c xs (n + x.seats) (fun y hy => h y (List.mem_cons_of_mem _ hy)) (by omega) (by omega)
      have e : usedW c n (x :: xs) = usedW c (n + x.seats) xs := by simp only [usedW, List.foldl_cons]; rw [if_pos hc, wrap_id (by omega) (by omega)]
      rw [e, if_pos hc]
      omega
    · obtain ⟨i1, i2, i3⟩ := usedW_small c xs n (fun y hy => h y (List.mem_cons_of_mem _ hy)) (by omega) (by omega)
      have e : usedW c n (x :: xs) = usedW c n xs := by simp only [usedW, List.foldl_cons]; rw [if_neg hc]
      rw [e, if_neg hc]
      omega
omit [Av.Start] in
theorem backW_small (c : Int) : ∀ (xs : List Hold) (n : Int), (∀ x, x ∈ xs → -9 ≤ x.seats) → 0 ≤ n → n + 9 * xs.length ≤ 1000000 →
    backW c n xs = n + (xs.map fun o => if o.cls = c ∧ o.seats < 0 then -o.seats else 0).sum ∧ n ≤ backW c n xs ∧ backW c n xs ≤ n + 9 * xs.length
  | [], n, _, _, _ => by simp [backW]
  | x :: xs, n, h, hn, hl => by
    have h1 := h x List.mem_cons_self
    simp only [List.length_cons] at hl
    rw [List.map_cons, List.sum_cons, List.length_cons]
    by_cases hc : x.cls = c ∧ x.seats < 0
    · obtain ⟨i1, i2, i3⟩ := backW_small c xs (n - x.seats) (fun y hy => h y (List.mem_cons_of_mem _ hy)) (by omega) (by omega)
      have e : backW c n (x :: xs) = backW c (n - x.seats) xs := by simp only [backW, List.foldl_cons]; rw [if_pos hc, wrap_id (by omega) (by omega)]
      rw [e, if_pos hc]
      omega
    · obtain ⟨i1, i2, i3⟩ := backW_small c xs n (fun y hy => h y (List.mem_cons_of_mem _ hy)) (by omega) (by omega)
      have e : backW c n (x :: xs) = backW c n xs := by simp only [backW, List.foldl_cons]; rw [if_neg hc]
      rw [e, if_neg hc]
      omega
def backI (l : Leg) (c : Int) : Int := (l.holds.map fun o => if o.cls = c ∧ o.seats < 0 then -o.seats else 0).sum

omit [Av.Start] in
theorem inB_iff {n lo hi : Int} : inB n lo hi = true ↔ lo ≤ n ∧ n ≤ hi := by simp [inB]
omit [Av.Start] in
theorem all_getD {α : Type} {d : α} {p : α → Prop} {xs : List α} : (∀ i, i < xs.length → p (xs.getD i d)) ↔ ∀ x, x ∈ xs → p x := by
  constructor
  · intro h x hx
    obtain ⟨i, hi, rfl⟩ := List.mem_iff_getElem.1 hx
    have := h i hi
    rwa [List.getD_eq_getElem?_getD, List.getElem?_eq_getElem hi] at this
  · intro h i hi
    rw [List.getD_eq_getElem?_getD, List.getElem?_eq_getElem hi]
    exact h _ (List.getElem_mem hi)

/-- what a leg that is ok is, in plain words -/
structure LegP (l : Leg) : Prop where
  name : nameB l.name = true
  src : nameB l.src = true
  dst : nameB l.dst = true
  ne : l.src ≠ l.dst
  dep : 0 ≤ l.dep ∧ l.dep ≤ 9999
  arr : l.dep + 1 ≤ l.arr ∧ l.arr ≤ 9999
  cap : 1 ≤ l.cap ∧ l.cap ≤ 9
  limits : l.limits.length = 3
  lim : ∀ i, i < 3 → 0 ≤ l.limits.getD i 0 ∧ l.limits.getD i 0 ≤ l.cap
  fall : ∀ i, i < 3 → i ≠ 0 → l.limits.getD i 0 ≤ l.limits.getD (i - 1) 0
  lim0 : l.limits.getD 0 0 = l.cap
  sold : l.sold.length = 3
  sol : ∀ x, x ∈ l.sold → 0 ≤ x ∧ x ≤ l.cap
  bids : 1 ≤ l.bids.length ∧ l.bids.length ≤ 4
  bid : ∀ i, i < l.bids.length → 0 ≤ l.bids.getD i 0 ∧ l.bids.getD i 0 ≤ 1000000000
  bfall : ∀ i, i < l.bids.length → i ≠ 0 → l.bids.getD i 0 ≤ l.bids.getD (i - 1) 0
  holds : l.holds.length ≤ 6
  hold : ∀ i, i < l.holds.length → mayB l (l.holds.getD i default) = true
  rise : ∀ i, i < l.holds.length → i ≠ 0 → (l.holds.getD (i - 1) default).txn < (l.holds.getD i default).txn
  used : ∀ i : Nat, i < 3 → usedV l i ≤ l.limits.getD i 0
  back : ∀ i : Nat, i < 3 → backV l i ≤ l.sold.getD i 0
omit [Av.Start] in
theorem legP_of {l : Leg} (h : legB l = true) : LegP l := by
  simp only [legB, holdsB, anyB, fallB, Bool.and_eq_true, decide_eq_true_eq, Bool.not_not, allB_iff, Bool.not_eq_true', decide_eq_false_iff_not, holdAt, clsAt, fallAt, inB_iff, Bool.or_eq_true] at h
  obtain ⟨⟨⟨⟨⟨⟨⟨⟨⟨⟨⟨⟨⟨⟨a1, a2⟩, a3⟩, a4⟩, a5⟩, a6⟩, a7⟩, a8⟩, a9⟩, a10⟩, a11⟩, a12⟩, a13⟩, a14⟩, ⟨a15, a16⟩, a17⟩ := h
  have e8 : l.limits.length = 3 := by omega
  have e11 : l.sold.length = 3 := by omega
  rw [wrap_id (by omega) (by omega)] at a6
  rw [e8] at a9
  exact ⟨a1, a2, a3, a4, a5, a6, a7, e8, fun i hi => (a9 i hi).1, fun i hi h0 => (a9 i hi).2.resolve_left h0, a10, e11, all_getD.1 a12, by omega, fun i hi => (a14 i hi).1, fun i hi h0 => (a14 i hi).2.resolve_left h0, a17, fun i hi => (a15 i hi).1, fun i hi h0 => (a15 i hi).2.resolve_left h0, fun i hi => (a16 i hi).1, fun i hi => (a16 i hi).2⟩
omit [Av.Start] in
theorem LegP.mk_leg {l : Leg} (h : LegP l) : legB l = true := by
  obtain ⟨a1, a2, a3, a4, a5, a6, a7, e8, a9, a9', a10, e11, a12, a13, a14, a14', a17, a15, a15', a16, a16'⟩ := h
  simp only [legB, holdsB, anyB, fallB, Bool.and_eq_true, decide_eq_true_eq, Bool.not_not, allB_iff, Bool.not_eq_true', decide_eq_false_iff_not, holdAt, clsAt, fallAt, inB_iff, Bool.or_eq_true]
  rw [wrap_id (by omega) (by omega), e8, e11]
  have dd : ∀ {p : Prop} {i : Nat}, (i ≠ 0 → p) → i = 0 ∨ p := fun {p i} h => by
    by_cases e : i = 0
    · exact .inl e
    · exact .inr (h e)
  exact ⟨⟨⟨⟨⟨⟨⟨⟨⟨⟨⟨⟨⟨⟨a1, a2⟩, a3⟩, a4⟩, a5⟩, a6⟩, a7⟩, by omega⟩, fun i hi => ⟨a9 i hi, dd (a9' i hi)⟩⟩, a10⟩, by omega⟩, by rw [← e11]; exact all_getD.2 a12⟩, by omega⟩, fun i hi => ⟨a14 i hi, dd (a14' i hi)⟩⟩, ⟨fun i hi => ⟨a15 i hi, dd (a15' i hi)⟩, fun i hi => ⟨a16 i hi, a16' i hi⟩⟩, a17⟩
omit [Av.Start] in
theorem legB_iff {l : Leg} : legB l = true ↔ LegP l := ⟨legP_of, LegP.mk_leg⟩

omit [Av.Start] in
theorem LegP.seats {l : Leg} (h : LegP l) : ∀ o, o ∈ l.holds → inB o.txn 1 99 = true ∧ inB o.cls 0 2 = true ∧ -l.cap ≤ o.seats ∧ o.seats ≤ l.cap ∧ o.seats ≠ 0 := by
  refine (all_getD (d := default)).1 fun i hi => ?_
  have := h.hold i hi
  have hc := h.cap
  simp only [mayB, Bool.and_eq_true, Bool.not_eq_true', decide_eq_false_iff_not] at this
  rw [wrap_id (by omega) (by omega)] at this
  have h2 := inB_iff.1 this.1.2
  exact ⟨this.1.1.1, this.1.1.2, by omega, h2.2, this.2⟩
omit [Av.Start] in
theorem LegP.usedI {l : Leg} (h : LegP l) {c : Int} (h0 : 0 ≤ c) : usedV l c = usedI l c ∧ 0 ≤ usedV l c ∧ usedV l c ≤ 81 := by
  have hs := h.sold
  have hc := h.cap
  have hh := h.holds
  obtain ⟨a1, a2, a3⟩ := sumW_small (l.sold.drop c.toNat) 0 (fun x hx => by
    have := h.sol x (List.mem_of_mem_drop hx)
    omega) (by omega) (by simp only [List.length_drop]; omega)
  obtain ⟨b1, b2, b3⟩ := usedW_small c l.holds (sumW 0 (l.sold.drop c.toNat)) (fun x hx => by
    have := h.seats x hx
    omega) (by omega) (by simp only [List.length_drop] at a3; omega)
  simp only [List.length_drop] at a3
  rw [usedV, Go.Proofs.Ytcmpcpigchlhpaa.usedI]
  omega
omit [Av.Start] in
theorem LegP.backI {l : Leg} (h : LegP l) (c : Int) : backV l c = backI l c ∧ 0 ≤ backV l c ∧ backV l c ≤ 54 := by
  have hc := h.cap
  have hh := h.holds
  obtain ⟨b1, b2, b3⟩ := backW_small c l.holds 0 (fun x hx => by
    have := h.seats x hx
    omega) (by omega) (by omega)
  rw [backV, Go.Proofs.Ytcmpcpigchlhpaa.backI]
  omega
omit [Av.Start] in
theorem LegP.roomW {l : Leg} (h : LegP l) : ∀ {k : Nat}, k < 3 → roomW l 9 (k + 1) = roomW l l.cap (k + 1) ∧ 0 ≤ roomW l 9 (k + 1) ∧ roomW l 9 (k + 1) ≤ l.limits.getD k 0
  | 0, _ => by
    have h1 := h.usedI (c := 0) (by omega)
    have h2 : usedV l 0 ≤ l.limits.getD 0 0 := h.used 0 (by omega)
    have h3 := h.lim0
    have h4 := h.cap
    simp only [Go.Proofs.Ytcmpcpigchlhpaa.roomW, Int.cast_ofNat_Int]
    rw [wrap_id (by omega) (by omega)]
    omega
  | k + 1, hk => by
    obtain ⟨i1, i2, i3⟩ := LegP.roomW (k := k) h (by omega)
    have h1 := h.usedI (c := (k + 1 : Nat)) (by omega)
    have h2 := h.used (k + 1) (by omega)
    have h3 := h.lim (k + 1) (by omega)
    have h4 := h.cap
    have e : ∀ s, Go.Proofs.Ytcmpcpigchlhpaa.roomW l s (k + 1 + 1) = min (Go.Proofs.Ytcmpcpigchlhpaa.roomW l s (k + 1)) (IntKind.i64.wrap (l.limits.getD (k + 1) 0 - usedV l (k + 1 : Nat))) := fun _ => rfl
    rw [e, e, i1, wrap_id (by omega) (by omega)]
    rw [i1] at i2
    omega

/-- what the next seat is worth -/
def bidV (l : Leg) : Int := l.bids.getD (min (roomW l 9 1) (l.bids.length - 1)).toNat 0
end Go.Proofs.Ytcmpcpigchlhpaa

namespace Go.Proofs.Ytcmpcpigchlhpaa
set_option linter.unusedSectionVars false
open Go.Av
variable [Av.Start]
set_option maxRecDepth 10000
set_option linter.unusedSimpArgs false
set_option linter.unusedVariables false

def legRoomV (l : Leg) (c : Int) : Int := if legB l && inB c 0 2 then roomW l 9 (c.toNat + 1) else 0
def legBidV (l : Leg) : Int := if legB l then bidV l else 0
end Go.Proofs.Ytcmpcpigchlhpaa

namespace Go.Proofs.Ytcmpcpigchlhpaa
set_option linter.unusedSectionVars false
open Go.Av
variable [Av.Start]
set_option maxRecDepth 10000
set_option linter.unusedSimpArgs false
set_option linter.unusedVariables false

omit [Av.Start] in
theorem solid_int (k : IntKind) (n : Int) : solid (.int k n) ↔ True := Iff.rfl
omit [Av.Start] in
theorem solid_str (s : List UInt8) : solid (.str s) ↔ True := Iff.rfl
omit [Av.Start] in
theorem solid_bool (b : Bool) : solid (.bool b) ↔ True := Iff.rfl
omit [Av.Start] in
theorem solid_slice (es : List D) (t : Tok) : solid (.slice es t) ↔ True := Iff.rfl
omit [Av.Start] in
theorem solid_agg (cs : List D) : solid (.agg cs) ↔ True := Iff.rfl
omit [Av.Start] in
theorem solid_vec (r : Nat) (ag : Bool) (sz off len cp : Nat) : solid (.vec r ag sz off len cp) ↔ True := Iff.rfl
attribute [push_cast] solid_int solid_str solid_bool solid_slice solid_agg solid_vec
section
variable {P : Program} {mu : List Nat} {ops rest : List Oper} {dst : Option Tmp} {fr : Fr} {h : Hp} {K : St → Prop}
theorem callGF {f : FuncId} {ys : List D} (k : evOps P mu ops rest ⟨putO fr dst (.when false .junk), h⟩ K) : CallG P mu ops rest dst fr h K false f ys := ⟨.junk, [], (fun e => nomatch e), k⟩
theorem callQGF {f : FuncId} {ys : List D} (k : evQs P ops rest ⟨putO fr dst (.when false .junk), h⟩ K) : CallQG P ops rest dst fr h K false f ys := ⟨.junk, [], (fun e => nomatch e), k⟩
end
/-- the first place of which p tells, or -1 -/
def idxV {α : Type} (p : α → Bool) (xs : List α) : Int := if xs.any p then (xs.findIdx p : Nat) else -1
omit [Av.Start] in
theorem any_getD {α : Type} {d : α} {p : α → Bool} {xs : List α} : xs.any p = true ↔ ∃ i, i < xs.length ∧ p (xs.getD i d) = true := by
  rw [List.any_eq_true]
  constructor
  · rintro ⟨x, hx, hp⟩
    obtain ⟨i, hi, rfl⟩ := List.mem_iff_getElem.1 hx
    exact ⟨i, hi, by rw [List.getD_eq_getElem?_getD, List.getElem?_eq_getElem hi]; exact hp⟩
  · rintro ⟨i, hi, hp⟩
    rw [List.getD_eq_getElem?_getD, List.getElem?_eq_getElem hi] at hp
    exact ⟨_, List.getElem_mem hi, hp⟩
omit [Av.Start] in
theorem findIdx_get {α : Type} {d : α} {p : α → Bool} : ∀ (xs : List α) (k : Nat), k < xs.length → (∀ i, i < k → p (xs.getD i d) = false) → p (xs.getD k d) = true → xs.findIdx p = k
  | [], k, h, _, _ => absurd h (Nat.not_lt_zero k)
  | x :: xs, 0, _, _, h => by
    have : p x = true := h
    simp [List.findIdx_cons, this]
  | x :: xs, k + 1, h, ha, hb => by
    have h0 : p x = false := ha 0 (by omega)
    have := findIdx_get xs k (by simpa using h) (fun i hi => ha (i + 1) (by omega)) hb
    simp [List.findIdx_cons, h0, this]
omit [Av.Start] in
theorem idxV_at {α : Type} (d : α) {p : α → Bool} {xs : List α} {k : Nat} (hk : k < xs.length) (ha : ∀ i, i < k → p (xs.getD i d) = false) (hb : p (xs.getD k d) = true) : idxV p xs = k := by
  rw [idxV, if_pos ((any_getD (d := d)).2 ⟨k, hk, hb⟩), findIdx_get xs k hk ha hb]
omit [Av.Start] in
theorem idxV_none {α : Type} (d : α) {p : α → Bool} {xs : List α} (ha : ∀ i, i < xs.length → p (xs.getD i d) = false) : idxV p xs = -1 := by
  rw [idxV, if_neg]
  intro h
  obtain ⟨i, hi, hp⟩ := (any_getD (d := d)).1 h
  rw [ha i hi] at hp
  cases hp
omit [Av.Start] in
theorem idxV_lo {α : Type} {p : α → Bool} {xs : List α} : -1 ≤ idxV p xs := by
  rw [idxV]
  split <;> omega
omit [Av.Start] in
/-- what the place is, if there is one -/
theorem idxV_spec {α : Type} (d : α) {p : α → Bool} {xs : List α} (h : 0 ≤ idxV p xs) : ∃ k : Nat, idxV p xs = k ∧ k < xs.length ∧ p (xs.getD k d) = true ∧ ∀ i, i < k → p (xs.getD i d) = false := by
  rw [idxV] at h ⊢
  split at h
  · rename_i ha
    rw [if_pos ha]
    have hlt : xs.findIdx p < xs.length := List.findIdx_lt_length.2 (by simpa using ha)
    refine ⟨_, rfl, hlt, ?_, fun i hi => ?_⟩
    · rw [List.getD_eq_getElem?_getD, List.getElem?_eq_getElem hlt]
      exact List.findIdx_getElem
    · rw [List.getD_eq_getElem?_getD, List.getElem?_eq_getElem (by omega)]
      have := List.not_of_lt_findIdx hi
      simpa using this
  · omega
omit [Av.Start] in
theorem idxV_neg {α : Type} (d : α) {p : α → Bool} {xs : List α} (h : idxV p xs < 0) : ∀ i, i < xs.length → p (xs.getD i d) = false := by
  intro i hi
  cases e : p (xs.getD i d) with
  | false => rfl
  | true =>
    rw [idxV, if_pos ((any_getD (d := d)).2 ⟨i, hi, e⟩)] at h
    omega
omit [Av.Start] in
theorem getD_take {α : Type} (d : α) (xs : List α) {i k : Nat} (h : i < k) : (xs.take k).getD i d = xs.getD i d := by
  simp [List.getD_eq_getElem?_getD, List.getElem?_take, h]
omit [Av.Start] in
theorem getD_at {α : Type} {f : α → D} {z : D} (d : α) {xs : List α} {k : Nat} (h : k < xs.length) : (xs.map f).getD k z = f (xs.getD k d) := by
  simp [List.getD_eq_getElem?_getD, List.getElem?_map, List.getElem?_eq_getElem h]
omit [Av.Start] in
theorem slice_fit {es : List D} {t : Tok} (h : fitsD (.slice es t)) : es.length ≤ 1073741824 := by simpa [fitsD, flen, lenMax] using h

omit [Av.Start] in
theorem allSz_legs (xs : List Leg) : AllSz 10 (xs.map Leg.d) ↔ True := allSz_map 10 _ xs (fun _ => rfl)
attribute [push_cast] allSz_legs
def zLeg : D := .agg [.str [], .str [], .str [], .int .i64 0, .int .i64 0, .int .i64 0, .slice [] .full, .slice [] .full, .slice [] .full, .slice [] .full]
omit [Av.Start] in
theorem leg_at {xs : List Leg} {k : Nat} (h : k < xs.length) : (xs.map Leg.d).getD k (.agg [.str [], .str [], .str [], .int .i64 0, .int .i64 0, .int .i64 0, .slice [] .full, .slice [] .full, .slice [] .full, .slice [] .full]) = .agg (xs.getD k default).cs := getD_at default h
def dL (xs : List Leg) : D := .slice (xs.map Leg.d) .no

theorem indexLeg_gives (xs : List Leg) (f : FuncId) (caps : List D) (h : Hp) (p : Leg → Bool) (hp : ∀ x : Leg, Gives Try.prog f (x.d :: caps) h (.bool (p x))) (hc : ∀ c, c ∈ caps → Cl h.length c) :
    Gives Try.prog 60 [.slice (xs.map Leg.d) .no, .fn f caps] h (.int .i64 (idxV p xs)) := by
  refine meets_of [] mixed Try.func60 rfl (by kernel_rfl) (by kernel_rfl) (by rw [Try.ntmps60]; simp only [List.length_cons, List.length_nil]; omega) (fun hf => ?_)
  rw [Try.results60]
  have hl : xs.length ≤ 1073741824 := by simpa using slice_fit (hf (.slice (xs.map Leg.d) .no) (by simp))
  clear hf
  simp -implicitDefEqProofs only [push_cast, Nat.reduceEqDiff, Nat.reduceBEq, Nat.reduceBNe, Nat.reduceAdd, Nat.reduceMul, Nat.reduceLT, Nat.reduceLeDiff, Nat.reduceSub, reduceCtorEq, Int.reduceToNat, ↓reduceIte]
  refine ev_loop0 [] (fun k : Nat => [(0, .slice (xs.map Leg.d) .no), (1, .fn f caps), (7, .int .i64 xs.length), (8, .int .i64 k)]) (fun k => k ≤ xs.length ∧ ∀ i, i < k → p (xs.getD i default) = false) (fun k => xs.length - k) 0 trivial ⟨Nat.zero_le _, fun i hi => absurd hi (Nat.not_lt_zero i)⟩ ?_ ?_
  · refine ⟨rfl, [], ?_⟩
    simp -implicitDefEqProofs only [Int.natCast_add, Int.cast_ofNat_Int, List.length_nil, Nat.le_refl, WeakTo, tokSts, tokOks, List.append_cancel_left_eq, exists_eq_left', exists_eq_left, List.append_cancel_left_eq, List.take_length, ObCl, and_true, true_and, push_cast, Nat.reduceEqDiff, Nat.reduceBEq, Nat.reduceBNe, Nat.reduceAdd, Nat.reduceMul, Nat.reduceLT, Nat.reduceLeDiff, Nat.reduceSub, reduceCtorEq, Int.reduceToNat, ↓reduceIte]
    exact hc
  · intro k hk
    have hw : IntKind.i64.wrap ((k : Int) + 1) = k + 1 := wrap_id (by omega) (by omega)
    rcases Nat.lt_or_ge k xs.length with hlt | hge
    · have hL := leg_at hlt
      try simp -implicitDefEqProofs only [hw, hL, push_cast, Nat.reduceEqDiff, Nat.reduceBEq, Nat.reduceBNe, Nat.reduceAdd, Nat.reduceMul, Nat.reduceLT, Nat.reduceLeDiff, Nat.reduceSub, reduceCtorEq, Int.reduceToNat, ↓reduceIte]
      repeat'
        (first
         | (refine uYes ?_; first | exact List.mem_cons_self | (simp only [List.mem_cons, List.not_mem_nil, or_false, true_or, or_true]; done))
         | (refine uNo (by kernel_rfl))
         | (refine flatMk ?_; kernel_rfl)
         | (refine And.intro ?_ ?_)
         | (intro hx)
         | ((first
             | (refine callGF ?_)
             | (refine callQGF ?_)
             | (refine skipG ?_)
             | (refine callS (hp (xs.getD k default)) ?_)
             | (refine callQ (hp (xs.getD k default)) ?_)
             | (refine callG (fun hc => (hp (xs.getD k default))) ?_)
             | (refine callQG (fun hc => (hp (xs.getD k default))) ?_)); simp -implicitDefEqProofs only [hw, hL, push_cast, Nat.reduceEqDiff, Nat.reduceBEq, Nat.reduceBNe, Nat.reduceAdd, Nat.reduceMul, Nat.reduceLT, Nat.reduceLeDiff, Nat.reduceSub, reduceCtorEq, Int.reduceToNat, ↓reduceIte]))
      all_goals first
        | omega
        | (rename_i hx
           refine round_mk0 (k + 1) ⟨by omega, fun i hi => ?_⟩ (by omega) ⟨[], ?_⟩
           · by_cases e : i = k
             · exact e ▸ hx
             · exact hk.2 i (by omega)
           · simp -implicitDefEqProofs only [hw, Int.natCast_add, Int.cast_ofNat_Int, List.length_nil, Nat.le_refl, WeakTo, tokSts, tokOks, List.append_cancel_left_eq, exists_eq_left', exists_eq_left, List.append_cancel_left_eq, List.take_length, ObCl, and_true, true_and, push_cast, Nat.reduceEqDiff, Nat.reduceBEq, Nat.reduceBNe, Nat.reduceAdd, Nat.reduceMul, Nat.reduceLT, Nat.reduceLeDiff, Nat.reduceSub, reduceCtorEq, Int.reduceToNat, ↓reduceIte]
             exact hc)
        | (rename_i hx
           rw [idxV_at default hlt hk.2 hx])
    · try simp -implicitDefEqProofs only [hw, push_cast, Nat.reduceEqDiff, Nat.reduceBEq, Nat.reduceBNe, Nat.reduceAdd, Nat.reduceMul, Nat.reduceLT, Nat.reduceLeDiff, Nat.reduceSub, reduceCtorEq, Int.reduceToNat, ↓reduceIte]
      repeat'
        (first
         | (refine uYes ?_; first | exact List.mem_cons_self | (simp only [List.mem_cons, List.not_mem_nil, or_false, true_or, or_true]; done))
         | (refine uNo (by kernel_rfl))
         | (refine flatMk ?_; kernel_rfl)
         | (refine And.intro ?_ ?_)
         | (intro hx)
         | ((first
             | (refine callGF ?_)
             | (refine callQGF ?_)
             | (refine skipG ?_)
             | (refine callS (hp default) ?_)
             | (refine callQ (hp default) ?_)
             | (refine callG (fun hc => (hp default)) ?_)
             | (refine callQG (fun hc => (hp default)) ?_)); simp -implicitDefEqProofs only [hw, push_cast, Nat.reduceEqDiff, Nat.reduceBEq, Nat.reduceBNe, Nat.reduceAdd, Nat.reduceMul, Nat.reduceLT, Nat.reduceLeDiff, Nat.reduceSub, reduceCtorEq, Int.reduceToNat, ↓reduceIte]))
      all_goals first
        | omega
        | (rw [idxV_none (default : Leg) (fun i hi => hk.2 i (by omega))])
omit [Av.Start] in
theorem ob_old {h ls : Hp} {r : Nat} {cs : List D} (hr : ob h r = .row cs) : ob (h ++ ls) r = .row cs := by
  simp only [ob, List.getD_eq_getElem?_getD] at hr ⊢
  have : r < h.length := by
    rcases Nat.lt_or_ge r h.length with h1 | h1
    · exact h1
    · rw [List.getElem?_eq_none h1] at hr
      cases hr
  rw [List.getElem?_append_left this]
  exact hr
theorem legAt1_gives (l : Leg) (s : List UInt8) (r : Nat) (h : Hp) (hr : ob h r = .row [.str s]) : Gives Try.prog 61 [l.d, .ptr r 0] h (.bool (decide (l.name = s))) := by
  refine meets_of [] mixed Try.func61 rfl (by kernel_rfl) (by kernel_rfl) (by rw [Try.ntmps61]; simp only [List.length_cons, List.length_nil]; omega) (fun hf => ?_)
  rw [Try.results61]
  have hr' := fun ls => ob_old (ls := ls) hr
  try simp -implicitDefEqProofs only [hr', push_cast, Nat.reduceEqDiff, Nat.reduceBEq, Nat.reduceBNe, Nat.reduceAdd, Nat.reduceMul, Nat.reduceLT, Nat.reduceLeDiff, Nat.reduceSub, reduceCtorEq, Int.reduceToNat, ↓reduceIte]
  repeat'
    (first
     | (refine uYes ?_; first | exact List.mem_cons_self | (simp only [List.mem_cons, List.not_mem_nil, or_false, true_or, or_true]; done))
     | (refine uNo (by kernel_rfl))
     | (refine flatMk ?_; kernel_rfl)
     | (refine And.intro ?_ ?_)
     | (intro hx)
     | ((first
         | (refine callGF ?_)
         | (refine callQGF ?_)
         | (refine skipG ?_)
         | (refine callS (in_gives ..) ?_)
         | (refine callQ (in_gives ..) ?_)
         | (refine callG (fun hc => (in_gives ..)) ?_)
         | (refine callQG (fun hc => (in_gives ..)) ?_)); simp -implicitDefEqProofs only [hr', push_cast, Nat.reduceEqDiff, Nat.reduceBEq, Nat.reduceBNe, Nat.reduceAdd, Nat.reduceMul, Nat.reduceLT, Nat.reduceLeDiff, Nat.reduceSub, reduceCtorEq, Int.reduceToNat, ↓reduceIte]))
def legIdx (net : List Leg) (s : List UInt8) : Int := idxV (fun l => decide (l.name = s)) net
theorem legAt_gives (net : List Leg) (s : List UInt8) (h : Hp) : Gives Try.prog 26 [.slice (net.map Leg.d) .no, .str s] h (.int .i64 (legIdx net s)) := by
  refine meets_of [] mixed Try.func26 rfl (by kernel_rfl) (by kernel_rfl) (by rw [Try.ntmps26]; simp only [List.length_cons, List.length_nil]; omega) (fun hf => ?_)
  rw [Try.results26]
  clear hf
  try simp -implicitDefEqProofs only [push_cast, Nat.reduceEqDiff, Nat.reduceBEq, Nat.reduceBNe, Nat.reduceAdd, Nat.reduceMul, Nat.reduceLT, Nat.reduceLeDiff, Nat.reduceSub, reduceCtorEq, Int.reduceToNat, ↓reduceIte]
  repeat'
    (first
     | (refine uYes ?_; first | exact List.mem_cons_self | (simp only [List.mem_cons, List.not_mem_nil, or_false, true_or, or_true]; done))
     | (refine uNo (by kernel_rfl))
     | (refine flatMk ?_; kernel_rfl)
     | (refine And.intro ?_ ?_)
     | (intro hx)
     | ((first
         | (refine callGF ?_)
         | (refine callQGF ?_)
         | (refine skipG ?_)
         | (refine callS (indexLeg_gives net _ _ _ (fun l => decide (l.name = s)) (fun l => legAt1_gives l s _ _ (by simp only [ob_app0, ob_zero])) (by simp -implicitDefEqProofs only [push_cast, Nat.reduceEqDiff, Nat.reduceBEq, Nat.reduceBNe, Nat.reduceAdd, Nat.reduceMul, Nat.reduceLT, Nat.reduceLeDiff, Nat.reduceSub, reduceCtorEq, Int.reduceToNat, ↓reduceIte])) ?_)
         | (refine callQ (indexLeg_gives net _ _ _ (fun l => decide (l.name = s)) (fun l => legAt1_gives l s _ _ (by simp only [ob_app0, ob_zero])) (by simp -implicitDefEqProofs only [push_cast, Nat.reduceEqDiff, Nat.reduceBEq, Nat.reduceBNe, Nat.reduceAdd, Nat.reduceMul, Nat.reduceLT, Nat.reduceLeDiff, Nat.reduceSub, reduceCtorEq, Int.reduceToNat, ↓reduceIte])) ?_)
         | (refine callG (fun hc => (indexLeg_gives net _ _ _ (fun l => decide (l.name = s)) (fun l => legAt1_gives l s _ _ (by simp only [ob_app0, ob_zero])) (by simp -implicitDefEqProofs only [push_cast, Nat.reduceEqDiff, Nat.reduceBEq, Nat.reduceBNe, Nat.reduceAdd, Nat.reduceMul, Nat.reduceLT, Nat.reduceLeDiff, Nat.reduceSub, reduceCtorEq, Int.reduceToNat, ↓reduceIte]))) ?_)
         | (refine callQG (fun hc => (indexLeg_gives net _ _ _ (fun l => decide (l.name = s)) (fun l => legAt1_gives l s _ _ (by simp only [ob_app0, ob_zero])) (by simp -implicitDefEqProofs only [push_cast, Nat.reduceEqDiff, Nat.reduceBEq, Nat.reduceBNe, Nat.reduceAdd, Nat.reduceMul, Nat.reduceLT, Nat.reduceLeDiff, Nat.reduceSub, reduceCtorEq, Int.reduceToNat, ↓reduceIte]))) ?_)); simp -implicitDefEqProofs only [push_cast, Nat.reduceEqDiff, Nat.reduceBEq, Nat.reduceBNe, Nat.reduceAdd, Nat.reduceMul, Nat.reduceLT, Nat.reduceLeDiff, Nat.reduceSub, reduceCtorEq, Int.reduceToNat, ↓reduceIte]))
  all_goals rfl
theorem specLegAt_gives (net : List Leg) (s : List UInt8) (h : Hp) : Gives Try.prog 28 [.slice (net.map Leg.d) .no, .str s] h (.int .i64 (legIdx net s)) := by
  refine meets_of [] mixed Try.func28 rfl (by kernel_rfl) (by kernel_rfl) (by rw [Try.ntmps28]; simp only [List.length_cons, List.length_nil]; omega) (fun hf => ?_)
  rw [Try.results28]
  have hl : net.length ≤ 1073741824 := by simpa using slice_fit (hf (.slice (net.map Leg.d) .no) (by simp))
  clear hf
  simp -implicitDefEqProofs only [push_cast, Nat.reduceEqDiff, Nat.reduceBEq, Nat.reduceBNe, Nat.reduceAdd, Nat.reduceMul, Nat.reduceLT, Nat.reduceLeDiff, Nat.reduceSub, reduceCtorEq, Int.reduceToNat, ↓reduceIte]
  refine ev_loop0 [] (fun k : Nat => [(0, .slice (net.map Leg.d) .no), (1, .str s), (5, .int .i64 k)]) (fun k => k ≤ net.length ∧ ∀ i, i < k → ¬(net.getD i default).name = s) (fun k => net.length - k) 0 trivial ⟨Nat.zero_le _, fun i hi => absurd hi (Nat.not_lt_zero i)⟩ ?_ ?_
  · refine ⟨rfl, [], ?_⟩
    simp -implicitDefEqProofs only [Int.natCast_add, Int.cast_ofNat_Int, List.length_nil, Nat.le_refl, WeakTo, tokSts, tokOks, List.append_cancel_left_eq, exists_eq_left', exists_eq_left, List.append_cancel_left_eq, List.take_length, ObCl, and_true, true_and, push_cast, Nat.reduceEqDiff, Nat.reduceBEq, Nat.reduceBNe, Nat.reduceAdd, Nat.reduceMul, Nat.reduceLT, Nat.reduceLeDiff, Nat.reduceSub, reduceCtorEq, Int.reduceToNat, ↓reduceIte]
  · intro k hk
    have hw : IntKind.i64.wrap ((k : Int) + 1) = k + 1 := wrap_id (by omega) (by omega)
    rcases Nat.lt_or_ge k net.length with hlt | hge
    · have hL := leg_at hlt
      try simp -implicitDefEqProofs only [hw, hL, push_cast, Nat.reduceEqDiff, Nat.reduceBEq, Nat.reduceBNe, Nat.reduceAdd, Nat.reduceMul, Nat.reduceLT, Nat.reduceLeDiff, Nat.reduceSub, reduceCtorEq, Int.reduceToNat, ↓reduceIte]
      repeat'
        (first
         | (refine uYes ?_; first | exact List.mem_cons_self | (simp only [List.mem_cons, List.not_mem_nil, or_false, true_or, or_true]; done))
         | (refine uNo (by kernel_rfl))
         | (refine flatMk ?_; kernel_rfl)
         | (refine And.intro ?_ ?_)
         | (intro hx)
         | ((first
             | (refine callGF ?_)
             | (refine callQGF ?_)
             | (refine skipG ?_)
             | (refine callS (in_gives ..) ?_)
             | (refine callQ (in_gives ..) ?_)
             | (refine callG (fun hc => (in_gives ..)) ?_)
             | (refine callQG (fun hc => (in_gives ..)) ?_)); simp -implicitDefEqProofs only [hw, hL, push_cast, Nat.reduceEqDiff, Nat.reduceBEq, Nat.reduceBNe, Nat.reduceAdd, Nat.reduceMul, Nat.reduceLT, Nat.reduceLeDiff, Nat.reduceSub, reduceCtorEq, Int.reduceToNat, ↓reduceIte]))
      all_goals first
        | omega
        | (rename_i hx
           refine round_mk0 (k + 1) ⟨by omega, fun i hi => ?_⟩ (by omega) ⟨[], ?_⟩
           · by_cases e : i = k
             · rw [e]; exact hx
             · exact hk.2 i (by omega)
           · simp -implicitDefEqProofs only [hw, Int.natCast_add, Int.cast_ofNat_Int, List.length_nil, Nat.le_refl, WeakTo, tokSts, tokOks, List.append_cancel_left_eq, exists_eq_left', exists_eq_left, List.append_cancel_left_eq, List.take_length, ObCl, and_true, true_and, push_cast, Nat.reduceEqDiff, Nat.reduceBEq, Nat.reduceBNe, Nat.reduceAdd, Nat.reduceMul, Nat.reduceLT, Nat.reduceLeDiff, Nat.reduceSub, reduceCtorEq, Int.reduceToNat, ↓reduceIte])
        | (rename_i hx
           rw [legIdx, idxV_at default hlt (fun i hi => decide_eq_false (hk.2 i hi)) (decide_eq_true hx)])
    · try simp -implicitDefEqProofs only [hw, push_cast, Nat.reduceEqDiff, Nat.reduceBEq, Nat.reduceBNe, Nat.reduceAdd, Nat.reduceMul, Nat.reduceLT, Nat.reduceLeDiff, Nat.reduceSub, reduceCtorEq, Int.reduceToNat, ↓reduceIte]
      repeat'
        (first
         | (refine uYes ?_; first | exact List.mem_cons_self | (simp only [List.mem_cons, List.not_mem_nil, or_false, true_or, or_true]; done))
         | (refine uNo (by kernel_rfl))
         | (refine flatMk ?_; kernel_rfl)
         | (refine And.intro ?_ ?_)
         | (intro hx)
         | ((first
             | (refine callGF ?_)
             | (refine callQGF ?_)
             | (refine skipG ?_)
             | (refine callS (in_gives ..) ?_)
             | (refine callQ (in_gives ..) ?_)
             | (refine callG (fun hc => (in_gives ..)) ?_)
             | (refine callQG (fun hc => (in_gives ..)) ?_)); simp -implicitDefEqProofs only [hw, push_cast, Nat.reduceEqDiff, Nat.reduceBEq, Nat.reduceBNe, Nat.reduceAdd, Nat.reduceMul, Nat.reduceLT, Nat.reduceLeDiff, Nat.reduceSub, reduceCtorEq, Int.reduceToNat, ↓reduceIte]))
      all_goals first
        | omega
        | (rw [legIdx, idxV_none (default : Leg) (fun i hi => decide_eq_false (hk.2 i (by omega)))])

def netAt (net : List Leg) (i : Nat) : Bool := legB (net.getD i default) && decide (legIdx net (net.getD i default).name = i)
def netB (net : List Leg) : Bool := allB net.length (netAt net) && decide ((net.length : Int) ≤ 6)
omit [Av.Start] in
theorem netAt_take (net : List Leg) {i : Nat} (hi : i < net.length) : netAt net i = (legB (net.getD i default) && !decide (0 ≤ legIdx (net.take i) (net.getD i default).name)) := by
  rw [netAt]
  congr 1
  rw [Bool.eq_iff_iff]
  simp only [decide_eq_true_eq, Bool.not_eq_true', decide_eq_false_iff_not]
  have hp : decide ((net.getD i default).name = (net.getD i default).name) = true := by simp
  constructor
  · intro h hn
    obtain ⟨k, k1, k2, k3, _⟩ := idxV_spec (default : Leg) hn
    rw [List.length_take] at k2
    rw [getD_take default net (by omega)] at k3
    obtain ⟨j, j1, j2, j3, j4⟩ := idxV_spec (default : Leg) (xs := net) (p := fun l => decide (l.name = (net.getD i default).name)) (by rw [legIdx] at h; omega)
    rw [legIdx] at h
    have : j = i := by omega
    subst this
    have := j4 k (by omega)
    rw [k3] at this
    cases this
  · intro h
    have h' := idxV_neg (default : Leg) (xs := net.take i) (p := fun l => decide (l.name = (net.getD i default).name)) (by rw [legIdx] at h; omega)
    rw [legIdx, idxV_at default hi (fun j hj => ?_) hp]
    have := h' j (by rw [List.length_take]; omega)
    rw [getD_take default net hj] at this
    exact this

theorem implNetOk_gives (net : List Leg) (h : Hp) : Gives Try.prog 8 [.slice (net.map Leg.d) .no] h (.bool (netB net)) := by
  refine meets_of [] mixed Try.func8 rfl (by kernel_rfl) (by kernel_rfl) (by rw [Try.ntmps8]; simp only [List.length_cons, List.length_nil]; omega) (fun hf => ?_)
  rw [Try.results8]
  have hl : net.length ≤ 1073741824 := by simpa using slice_fit (hf (.slice (net.map Leg.d) .no) (by simp))
  clear hf
  simp -implicitDefEqProofs only [push_cast, Nat.reduceEqDiff, Nat.reduceBEq, Nat.reduceBNe, Nat.reduceAdd, Nat.reduceMul, Nat.reduceLT, Nat.reduceLeDiff, Nat.reduceSub, reduceCtorEq, Int.reduceToNat, ↓reduceIte]
  refine ev_loop0 [] (fun k : Nat => [(0, .slice (net.map Leg.d) .no), (5, .slice (net.map Leg.d) .no), (6, .int .i64 net.length), (7, .int .i64 k)]) (fun k => k ≤ net.length ∧ ∀ i, i < k → netAt net i = true) (fun k => net.length - k) 0 trivial ⟨Nat.zero_le _, fun i hi => absurd hi (Nat.not_lt_zero i)⟩ ?_ ?_
  · refine ⟨rfl, [], ?_⟩
    simp -implicitDefEqProofs only [Int.natCast_add, Int.cast_ofNat_Int, List.length_nil, Nat.le_refl, WeakTo, tokSts, tokOks, List.append_cancel_left_eq, exists_eq_left', exists_eq_left, List.append_cancel_left_eq, List.take_length, ObCl, and_true, true_and, push_cast, Nat.reduceEqDiff, Nat.reduceBEq, Nat.reduceBNe, Nat.reduceAdd, Nat.reduceMul, Nat.reduceLT, Nat.reduceLeDiff, Nat.reduceSub, reduceCtorEq, Int.reduceToNat, ↓reduceIte]
  · intro k hk
    have hw : IntKind.i64.wrap ((k : Int) + 1) = k + 1 := wrap_id (by omega) (by omega)
    rcases Nat.lt_or_ge k net.length with hlt | hge
    · have hL := leg_at hlt
      have hA := netAt_take net hlt
      try simp -implicitDefEqProofs only [hw, hL, push_cast, Nat.reduceEqDiff, Nat.reduceBEq, Nat.reduceBNe, Nat.reduceAdd, Nat.reduceMul, Nat.reduceLT, Nat.reduceLeDiff, Nat.reduceSub, reduceCtorEq, Int.reduceToNat, ↓reduceIte]
      repeat'
        (first
         | (refine uYes ?_; first | exact List.mem_cons_self | (simp only [List.mem_cons, List.not_mem_nil, or_false, true_or, or_true]; done))
         | (refine uNo (by kernel_rfl))
         | (refine flatMk ?_; kernel_rfl)
         | (refine And.intro ?_ ?_)
         | (intro hx)
         | ((first
             | (refine callGF ?_)
             | (refine callQGF ?_)
             | (refine skipG ?_)
             | (refine callS (implLegOk_gives (net.getD k default) _) ?_)
             | (refine callQ (implLegOk_gives (net.getD k default) _) ?_)
             | (refine callG (fun hc => (implLegOk_gives (net.getD k default) _)) ?_)
             | (refine callQG (fun hc => (implLegOk_gives (net.getD k default) _)) ?_)
             | (refine callS (legAt_gives (net.take k) _ _) ?_)
             | (refine callQ (legAt_gives (net.take k) _ _) ?_)
             | (refine callG (fun hc => (legAt_gives (net.take k) _ _)) ?_)
             | (refine callQG (fun hc => (legAt_gives (net.take k) _ _)) ?_)); simp -implicitDefEqProofs only [hw, hL, push_cast, Nat.reduceEqDiff, Nat.reduceBEq, Nat.reduceBNe, Nat.reduceAdd, Nat.reduceMul, Nat.reduceLT, Nat.reduceLeDiff, Nat.reduceSub, reduceCtorEq, Int.reduceToNat, ↓reduceIte]))
      all_goals first
        | omega
        | (rename_i hx
           refine round_mk0 (k + 1) ⟨by omega, allB_step hk.2 ?_⟩ (by omega) ?_
           · rw [hA]; grind
           · simp -implicitDefEqProofs only [hw, Int.natCast_add, Int.cast_ofNat_Int, List.length_nil, Nat.le_refl, WeakTo, tokSts, tokOks, List.append_cancel_left_eq, exists_eq_left', exists_eq_left, List.append_cancel_left_eq, List.take_length, ObCl, and_true, true_and, push_cast, Nat.reduceEqDiff, Nat.reduceBEq, Nat.reduceBNe, Nat.reduceAdd, Nat.reduceMul, Nat.reduceLT, Nat.reduceLeDiff, Nat.reduceSub, reduceCtorEq, Int.reduceToNat, ↓reduceIte])
        | (rename_i hx
           rw [netB, allB_f k (by omega) (by rw [hA]; grind)]
           rfl)
        | skip
    · try simp -implicitDefEqProofs only [hw, push_cast, Nat.reduceEqDiff, Nat.reduceBEq, Nat.reduceBNe, Nat.reduceAdd, Nat.reduceMul, Nat.reduceLT, Nat.reduceLeDiff, Nat.reduceSub, reduceCtorEq, Int.reduceToNat, ↓reduceIte]
      repeat'
        (first
         | (refine uYes ?_; first | exact List.mem_cons_self | (simp only [List.mem_cons, List.not_mem_nil, or_false, true_or, or_true]; done))
         | (refine uNo (by kernel_rfl))
         | (refine flatMk ?_; kernel_rfl)
         | (refine And.intro ?_ ?_)
         | (intro hx)
         | ((first
             | (refine callGF ?_)
             | (refine callQGF ?_)
             | (refine skipG ?_)
             | (refine callS (in_gives ..) ?_)
             | (refine callQ (in_gives ..) ?_)
             | (refine callG (fun hc => (in_gives ..)) ?_)
             | (refine callQG (fun hc => (in_gives ..)) ?_)); simp -implicitDefEqProofs only [hw, push_cast, Nat.reduceEqDiff, Nat.reduceBEq, Nat.reduceBNe, Nat.reduceAdd, Nat.reduceMul, Nat.reduceLT, Nat.reduceLeDiff, Nat.reduceSub, reduceCtorEq, Int.reduceToNat, ↓reduceIte]))
      all_goals first
        | omega
        | (obtain rfl : k = net.length := by omega
           rw [netB, allB_t hk.2]
           rfl)
theorem specNetOk_gives (net : List Leg) (h : Hp) : Gives Try.prog 9 [.slice (net.map Leg.d) .no] h (.bool (netB net)) := by
  refine meets_of [] mixed Try.func9 rfl (by kernel_rfl) (by kernel_rfl) (by rw [Try.ntmps9]; simp only [List.length_cons, List.length_nil]; omega) (fun hf => ?_)
  rw [Try.results9]
  have hl : net.length ≤ 1073741824 := by simpa using slice_fit (hf (.slice (net.map Leg.d) .no) (by simp))
  clear hf
  simp -implicitDefEqProofs only [push_cast, Nat.reduceEqDiff, Nat.reduceBEq, Nat.reduceBNe, Nat.reduceAdd, Nat.reduceMul, Nat.reduceLT, Nat.reduceLeDiff, Nat.reduceSub, reduceCtorEq, Int.reduceToNat, ↓reduceIte]
  refine ev_loop0 [] (fun k : Nat => [(0, .slice (net.map Leg.d) .no), (3, .int .i64 k)]) (fun k => k ≤ net.length ∧ ∀ i, i < k → netAt net i = true) (fun k => net.length - k) 0 trivial ⟨Nat.zero_le _, fun i hi => absurd hi (Nat.not_lt_zero i)⟩ ?_ ?_
  · refine ⟨rfl, [], ?_⟩
    simp -implicitDefEqProofs only [Int.natCast_add, Int.cast_ofNat_Int, List.length_nil, Nat.le_refl, WeakTo, tokSts, tokOks, List.append_cancel_left_eq, exists_eq_left', exists_eq_left, List.append_cancel_left_eq, List.take_length, ObCl, and_true, true_and, push_cast, Nat.reduceEqDiff, Nat.reduceBEq, Nat.reduceBNe, Nat.reduceAdd, Nat.reduceMul, Nat.reduceLT, Nat.reduceLeDiff, Nat.reduceSub, reduceCtorEq, Int.reduceToNat, ↓reduceIte]
  · intro k hk
    have hw : IntKind.i64.wrap ((k : Int) + 1) = k + 1 := wrap_id (by omega) (by omega)
    rcases Nat.lt_or_ge k net.length with hlt | hge
    · have hL := leg_at hlt
      try simp -implicitDefEqProofs only [← legB_spec, hw, hL, push_cast, Nat.reduceEqDiff, Nat.reduceBEq, Nat.reduceBNe, Nat.reduceAdd, Nat.reduceMul, Nat.reduceLT, Nat.reduceLeDiff, Nat.reduceSub, reduceCtorEq, Int.reduceToNat, ↓reduceIte]
      repeat'
        (first
         | (refine uYes ?_; first | exact List.mem_cons_self | (simp only [List.mem_cons, List.not_mem_nil, or_false, true_or, or_true]; done))
         | (refine uNo (by kernel_rfl))
         | (refine flatMk ?_; kernel_rfl)
         | (refine And.intro ?_ ?_)
         | (intro hx)
         | ((first
             | (refine callGF ?_)
             | (refine callQGF ?_)
             | (refine skipG ?_)
             | (refine callS (specLegOk_gives (net.getD k default) _) ?_)
             | (refine callQ (specLegOk_gives (net.getD k default) _) ?_)
             | (refine callG (fun hc => (specLegOk_gives (net.getD k default) _)) ?_)
             | (refine callQG (fun hc => (specLegOk_gives (net.getD k default) _)) ?_)
             | (refine callS (specLegAt_gives net _ _) ?_)
             | (refine callQ (specLegAt_gives net _ _) ?_)
             | (refine callG (fun hc => (specLegAt_gives net _ _)) ?_)
             | (refine callQG (fun hc => (specLegAt_gives net _ _)) ?_)); simp -implicitDefEqProofs only [← legB_spec, hw, hL, push_cast, Nat.reduceEqDiff, Nat.reduceBEq, Nat.reduceBNe, Nat.reduceAdd, Nat.reduceMul, Nat.reduceLT, Nat.reduceLeDiff, Nat.reduceSub, reduceCtorEq, Int.reduceToNat, ↓reduceIte]))
      all_goals first
        | omega
        | (rename_i hx
           refine round_mk0 (k + 1) ⟨by omega, allB_step hk.2 ?_⟩ (by omega) ⟨[], ?_⟩
           · rw [netAt]; grind
           · simp -implicitDefEqProofs only [hw, Int.natCast_add, Int.cast_ofNat_Int, List.length_nil, Nat.le_refl, WeakTo, tokSts, tokOks, List.append_cancel_left_eq, exists_eq_left', exists_eq_left, List.append_cancel_left_eq, List.take_length, ObCl, and_true, true_and, push_cast, Nat.reduceEqDiff, Nat.reduceBEq, Nat.reduceBNe, Nat.reduceAdd, Nat.reduceMul, Nat.reduceLT, Nat.reduceLeDiff, Nat.reduceSub, reduceCtorEq, Int.reduceToNat, ↓reduceIte])
        | (rename_i hx
           rw [netB, allB_f k (by omega) (by rw [netAt]; grind)]
           rfl)
        | skip
    · try simp -implicitDefEqProofs only [hw, push_cast, Nat.reduceEqDiff, Nat.reduceBEq, Nat.reduceBNe, Nat.reduceAdd, Nat.reduceMul, Nat.reduceLT, Nat.reduceLeDiff, Nat.reduceSub, reduceCtorEq, Int.reduceToNat, ↓reduceIte]
      repeat'
        (first
         | (refine uYes ?_; first | exact List.mem_cons_self | (simp only [List.mem_cons, List.not_mem_nil, or_false, true_or, or_true]; done))
         | (refine uNo (by kernel_rfl))
         | (refine flatMk ?_; kernel_rfl)
         | (refine And.intro ?_ ?_)
         | (intro hx)
         | ((first
             | (refine callGF ?_)
             | (refine callQGF ?_)
             | (refine skipG ?_)
             | (refine callS (in_gives ..) ?_)
             | (refine callQ (in_gives ..) ?_)
             | (refine callG (fun hc => (in_gives ..)) ?_)
             | (refine callQG (fun hc => (in_gives ..)) ?_)); simp -implicitDefEqProofs only [hw, push_cast, Nat.reduceEqDiff, Nat.reduceBEq, Nat.reduceBNe, Nat.reduceAdd, Nat.reduceMul, Nat.reduceLT, Nat.reduceLeDiff, Nat.reduceSub, reduceCtorEq, Int.reduceToNat, ↓reduceIte]))
      all_goals first
        | omega
        | (obtain rfl : k = net.length := by omega
           rw [netB, allB_t hk.2]
           rfl)
end Go.Proofs.Ytcmpcpigchlhpaa

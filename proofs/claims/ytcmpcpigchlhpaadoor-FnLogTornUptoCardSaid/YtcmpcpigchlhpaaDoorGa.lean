/- Contracts of functions of the program (Ga). -/
import Derived.Test.YtcmpcpigchlhpaaDoorTis

namespace Go.Proofs.YtcmpcpigchlhpaaDoor
set_option linter.unusedSectionVars false
open Go.Av
variable [Av.Start]
set_option maxRecDepth 10000
set_option linter.unusedSimpArgs false
set_option linter.unusedVariables false

structure Hold where
  txn : Int
  cls : Int
  seats : Int
structure Leg where
  name : List UInt8
  src : List UInt8
  dst : List UInt8
  dep : Int
  arr : Int
  cap : Int
  limits : List Int
  sold : List Int
  bids : List Int
  holds : List Hold
instance : DecidableEq Hold := fun a b => decidable_of_iff (a.txn = b.txn ∧ a.cls = b.cls ∧ a.seats = b.seats) ⟨fun h => by cases a; cases b; simp only at h; obtain ⟨rfl, rfl, rfl⟩ := h; rfl, fun h => by subst h; exact ⟨rfl, rfl, rfl⟩⟩
instance : Inhabited Hold := ⟨⟨0, 0, 0⟩⟩
instance : Inhabited Leg := ⟨⟨[], [], [], 0, 0, 0, [], [], [], []⟩⟩
def Hold.cs (h : Hold) : List D := [.int .i64 h.txn, .int .i64 h.cls, .int .i64 h.seats]
def Hold.d (h : Hold) : D := .agg h.cs
def Leg.cs (l : Leg) : List D := [.str l.name, .str l.src, .str l.dst, .int .i64 l.dep, .int .i64 l.arr, .int .i64 l.cap, .slice (l.limits.map (.int .i64)) .no, .slice (l.sold.map (.int .i64)) .no, .slice (l.bids.map (.int .i64)) .no, .slice (l.holds.map Hold.d) .no]
def Leg.d (l : Leg) : D := .agg l.cs
omit [Av.Start] in
theorem getD_holds (xs : List Hold) (i : Nat) : (xs.map Hold.d).getD i (.agg [.int .i64 0, .int .i64 0, .int .i64 0]) = .agg (xs.getD i default).cs := getD_map Hold.d default xs i
omit [Av.Start] in
theorem allSz_holds (xs : List Hold) : AllSz 3 (xs.map Hold.d) ↔ True := allSz_map 3 _ xs (fun _ => rfl)
attribute [push_cast] Hold.cs Hold.d Leg.cs Leg.d getD_holds allSz_holds
omit [Av.Start] in
theorem Leg.fit {l : Leg} (h : fitsD l.d) : l.name.length ≤ 1073741824 ∧ l.src.length ≤ 1073741824 ∧ l.dst.length ≤ 1073741824 ∧ l.limits.length ≤ 1073741824 ∧ l.sold.length ≤ 1073741824 ∧ l.bids.length ≤ 1073741824 ∧ l.holds.length ≤ 1073741824 := by
  simpa [fitsD, Leg.d, Leg.cs, flen, lenMax] using h

omit [Av.Start] in
theorem wrap_id {n : Int} (h1 : -9223372036854775808 ≤ n) (h2 : n ≤ 9223372036854775807) : IntKind.i64.wrap n = n := by
  rw [IntKind.wrap_i64]
  omega

omit [Av.Start] in
theorem take_succ_getD {α : Type} (xs : List α) (d : α) {k : Nat} (h : k < xs.length) : xs.take (k + 1) = xs.take k ++ [xs.getD k d] := by
  rw [List.take_succ_eq_append_getElem h, List.getD_eq_getElem?_getD, List.getElem?_eq_getElem h]; rfl
/-- all of the first n numbers -/
def allB (n : Nat) (f : Nat → Bool) : Bool := (List.range n).all f
omit [Av.Start] in
theorem allB_iff {n : Nat} {f : Nat → Bool} : allB n f = true ↔ ∀ i, i < n → f i = true := by
  simp [allB]
omit [Av.Start] in
theorem allB_t {n : Nat} {f : Nat → Bool} (h : ∀ i, i < n → f i = true) : allB n f = true := allB_iff.2 h
omit [Av.Start] in
theorem allB_f {n : Nat} {f : Nat → Bool} (k : Nat) (hk : k < n) (h : f k = false) : allB n f = false := by
  cases e : allB n f with
  | false => rfl
  | true => rw [allB_iff.1 e k hk] at h; cases h
omit [Av.Start] in
theorem allB_step {k : Nat} {f : Nat → Bool} (h : ∀ i, i < k → f i = true) (hk : f k = true) : ∀ i, i < k + 1 → f i = true := by
  intro i hi
  by_cases e : i = k
  · exact e ▸ hk
  · exact h i (by omega)
section
variable {P : Program} {mu : List Nat} {ops rest : List Oper} {dst : Option Tmp} {fr : Fr} {h : Hp} {K : St → Prop}
omit [Av.Start] in
theorem wkL_refl : ∀ ys, WkL ys ys
  | [] => trivial
  | a :: ys => ⟨.refl a, wkL_refl ys⟩
theorem callS {f : FuncId} {ys : List D} {d : D} (c : Gives P f ys h d) (k : evOps P mu ops rest ⟨putO fr dst d, h⟩ K) : CallSt P mu ops rest dst fr h K f ys := call_gives c (wkL_refl ys) k
theorem callG {f : FuncId} {ys : List D} {d : D} {c : Bool} (hc : c = true → Gives P f ys h d) (k : evOps P mu ops rest ⟨putO fr dst (.when c d), h⟩ K) : CallG P mu ops rest dst fr h K c f ys := callG_gives hc (fun _ => wkL_refl ys) k
theorem callQ {f : FuncId} {ys : List D} {d : D} (c : Gives P f ys h d) (k : evQs P ops rest ⟨putO fr dst d, h⟩ K) : CallQ P ops rest dst fr h K f ys := callQ_gives c (wkL_refl ys) k
theorem callQG {f : FuncId} {ys : List D} {d : D} {c : Bool} (hc : c = true → Gives P f ys h d) (k : evQs P ops rest ⟨putO fr dst (.when c d), h⟩ K) : CallQG P ops rest dst fr h K c f ys := callQG_gives hc (fun _ => wkL_refl ys) k
theorem ev_loop0 {c : Code} {Q : Exit → St → Prop} {α : Type} (toks : List (Nat × Nat)) (L : α → List (Nat × D)) (I : α → Prop) (μ : α → Nat) (x0 : α)
    (ht : tokOks ⟨fr, h⟩ toks) (hI : I x0) (hW : (tokSts ⟨fr, h⟩ toks).h.length = h.length ∧ WeakTo h 0 (tokSts ⟨fr, h⟩ toks) (L x0) [])
    (hround : ∀ x, I x → ev P mu c (thenE (RoundOk h.length (LoopInv h L (fun _ => []) I μ) (μ x) ⟨frL (L x), h⟩) Q) ⟨frL (L x), h⟩) : ev P mu (.loop c) Q ⟨fr, h⟩ := by
  have e := ev_loop (h := h) (ls := []) (P := P) (mu := mu) (fr := fr) (c := c) (Q := Q) toks L (fun _ => []) I μ x0
  simp only [List.append_nil] at e
  exact e ht hI ⟨0, Nat.le_refl _, hW.1, hW.2⟩ hround
omit [Av.Start] in
theorem round_mk0 {n0 : Nat} {α : Type} {L : α → List (Nat × D)} {I : α → Prop} {μ : α → Nat} {m : Nat} {st'' : St} (y : α) (h1 : I y) (h2 : μ y < m) (h3 : WeakTo h 0 st'' (L y) []) :
    RoundOk n0 (LoopInv h L (fun _ => []) I μ) m ⟨fr, h⟩ st'' := by
  have e := round_mk (n0 := n0) (h := h) (L := L) (ls0 := fun _ => []) (I := I) (μ := μ) (m := m) (fr := fr) (ls := []) (st'' := st'') y h1 h2 h3
  simpa only [List.append_nil] using e
end
def inB (n lo hi : Int) : Bool := decide (lo ≤ n) && decide (n ≤ hi)
end Go.Proofs.YtcmpcpigchlhpaaDoor

namespace Go.Proofs.YtcmpcpigchlhpaaDoor
set_option linter.unusedSectionVars false
open Go.Av
variable [Av.Start]
set_option maxRecDepth 10000
set_option linter.unusedSimpArgs false
set_option linter.unusedVariables false

theorem l1In_gives (n lo hi : Int) (h : Hp) : Gives Tryd.prog 70 [.int .i64 n, .int .i64 lo, .int .i64 hi] h (.bool (inB n lo hi)) := by
  refine meets_of [] mixed Tryd.func70 rfl (by kernel_rfl) (by kernel_rfl) (by rw [Tryd.ntmps70]; simp only [List.length_cons, List.length_nil]; omega) (fun hf => ?_)
  rw [Tryd.results70]
  simp -implicitDefEqProofs only [inB, push_cast, Nat.reduceEqDiff, Nat.reduceBEq, Nat.reduceBNe, Nat.reduceAdd, Nat.reduceMul, Nat.reduceLT, Nat.reduceLeDiff, Nat.reduceSub, reduceCtorEq, Int.reduceToNat, ↓reduceIte]
theorem in_gives (n lo hi : Int) (h : Hp) : Gives Tryd.prog 23 [.int .i64 n, .int .i64 lo, .int .i64 hi] h (.bool (inB n lo hi)) := by
  refine meets_of [] mixed Tryd.func23 rfl (by kernel_rfl) (by kernel_rfl) (by rw [Tryd.ntmps23]; simp only [List.length_cons, List.length_nil]; omega) (fun hf => ?_)
  rw [Tryd.results23]
  simp -implicitDefEqProofs only [inB, push_cast, Nat.reduceEqDiff, Nat.reduceBEq, Nat.reduceBNe, Nat.reduceAdd, Nat.reduceMul, Nat.reduceLT, Nat.reduceLeDiff, Nat.reduceSub, reduceCtorEq, Int.reduceToNat, ↓reduceIte]
def mayB (l : Leg) (o : Hold) : Bool := inB o.txn 1 99 && inB o.cls 0 2 && inB o.seats (IntKind.i64.wrap (0 - l.cap)) l.cap && !decide (o.seats = 0)
def nameB (s : List UInt8) : Bool := allB s.length (fun i => inB (s.getD i 0).toNat 97 122) && inB s.length 1 8
end Go.Proofs.YtcmpcpigchlhpaaDoor

namespace Go.Proofs.YtcmpcpigchlhpaaDoor
set_option linter.unusedSectionVars false
open Go.Av
variable [Av.Start]
set_option maxRecDepth 10000
set_option linter.unusedSimpArgs false
set_option linter.unusedVariables false

def sumW (n : Int) (xs : List Int) : Int := xs.foldl (fun n s => IntKind.i64.wrap (n + s)) n
def usedW (c n : Int) (hs : List Hold) : Int := hs.foldl (fun n h => if c ≤ h.cls ∧ 0 < h.seats then IntKind.i64.wrap (n + h.seats) else n) n
def backW (c n : Int) (hs : List Hold) : Int := hs.foldl (fun n h => if h.cls = c ∧ h.seats < 0 then IntKind.i64.wrap (n - h.seats) else n) n
omit [Av.Start] in
theorem sumW_succ (n : Int) (xs : List Int) {k : Nat} (h : k < xs.length) : sumW n (xs.take (k + 1)) = IntKind.i64.wrap (sumW n (xs.take k) + xs.getD k 0) := by
  rw [take_succ_getD xs 0 h, sumW, List.foldl_append]; rfl
omit [Av.Start] in
theorem usedW_succ (c n : Int) (xs : List Hold) {k : Nat} (h : k < xs.length) : usedW c n (xs.take (k + 1)) = if c ≤ (xs.getD k default).cls ∧ 0 < (xs.getD k default).seats then IntKind.i64.wrap (usedW c n (xs.take k) + (xs.getD k default).seats) else usedW c n (xs.take k) := by
  rw [take_succ_getD xs default h, usedW, List.foldl_append]; rfl
omit [Av.Start] in
theorem backW_succ (c n : Int) (xs : List Hold) {k : Nat} (h : k < xs.length) : backW c n (xs.take (k + 1)) = if (xs.getD k default).cls = c ∧ (xs.getD k default).seats < 0 then IntKind.i64.wrap (backW c n (xs.take k) - (xs.getD k default).seats) else backW c n (xs.take k) := by
  rw [take_succ_getD xs default h, backW, List.foldl_append]; rfl
omit [Av.Start] in
theorem getD_drop0 (xs : List Int) (a k : Nat) : (xs.drop a).getD k 0 = xs.getD (a + k) 0 := by
  simp [List.getD_eq_getElem?_getD]

/-- what a class and all lower ones use -/
def usedV (l : Leg) (c : Int) : Int := usedW c (sumW 0 (l.sold.drop c.toNat)) l.holds
def backV (l : Leg) (c : Int) : Int := backW c 0 l.holds

end Go.Proofs.YtcmpcpigchlhpaaDoor

namespace Go.Proofs.YtcmpcpigchlhpaaDoor
set_option linter.unusedSectionVars false
open Go.Av
variable [Av.Start]
set_option maxRecDepth 10000
set_option linter.unusedSimpArgs false
set_option linter.unusedVariables false

def fallAt (xs : List Int) (hi : Int) (i : Nat) : Bool := inB (xs.getD i 0) 0 hi && (decide (i = 0) || decide (xs.getD i 0 ≤ xs.getD (i - 1) 0))
def fallB (xs : List Int) (hi : Int) : Bool := allB xs.length (fallAt xs hi)

omit [Av.Start] in
theorem findIdx_at {p : Int → Bool} : ∀ (xs : List Int) (k : Nat), k < xs.length → (∀ i, i < k → p (xs.getD i 0) = false) → p (xs.getD k 0) = true → xs.findIdx p = k
  | [], k, h, _, _ => absurd h (Nat.not_lt_zero k)
  | x :: xs, 0, _, _, h => by
    have : p x = true := h
    simp [List.findIdx_cons, this]
  | x :: xs, k + 1, h, ha, hb => by
    have h0 : p x = false := ha 0 (by omega)
    have := findIdx_at xs k (by simpa using h) (fun i hi => ha (i + 1) (by omega)) hb
    simp [List.findIdx_cons, h0, this]
def anyB (xs : List Int) (p : Int → Bool) : Bool := !allB xs.length (fun i => !p (xs.getD i 0))
def holdAt (l : Leg) (i : Nat) : Bool := mayB l (l.holds.getD i default) && (decide (i = 0) || decide ((l.holds.getD (i - 1) default).txn < (l.holds.getD i default).txn))
def clsAt (l : Leg) (i : Nat) : Bool := decide (usedV l i ≤ l.limits.getD i 0) && decide (backV l i ≤ l.sold.getD i 0)
def holdsB (l : Leg) : Bool := allB l.holds.length (holdAt l) && allB 3 (clsAt l) && decide (l.holds.length ≤ 6)
end Go.Proofs.YtcmpcpigchlhpaaDoor

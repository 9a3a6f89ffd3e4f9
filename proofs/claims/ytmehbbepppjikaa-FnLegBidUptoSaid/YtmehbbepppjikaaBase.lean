/- Contracts of functions of the program (Base). -/
import Derived.Test.YtmehbbepppjikaaTis

namespace Go.Proofs.Ytmehbbepppjikaa
open Go.Av
set_option maxRecDepth 10000
set_option linter.unusedSimpArgs false
set_option linter.unusedVariables false

structure Hold where
  txn : Int
  cls : Int
  seats : Int
structure Leg where
  name : List UInt8
  src : List UInt8
  dst : List UInt8
  dep : Int
  arr : Int
  cap : Int
  limits : List Int
  sold : List Int
  bids : List Int
  holds : List Hold
instance : DecidableEq Hold := fun a b => decidable_of_iff (a.txn = b.txn ∧ a.cls = b.cls ∧ a.seats = b.seats) ⟨fun h => by cases a; cases b; simp only at h; obtain ⟨rfl, rfl, rfl⟩ := h; rfl, fun h => by subst h; exact ⟨rfl, rfl, rfl⟩⟩
instance : Inhabited Hold := ⟨⟨0, 0, 0⟩⟩
instance : Inhabited Leg := ⟨⟨[], [], [], 0, 0, 0, [], [], [], []⟩⟩
def Hold.cs (h : Hold) : List D := [.int .i64 h.txn, .int .i64 h.cls, .int .i64 h.seats]
def Hold.d (h : Hold) : D := .agg h.cs
def Leg.cs (l : Leg) : List D := [.str l.name, .str l.src, .str l.dst, .int .i64 l.dep, .int .i64 l.arr, .int .i64 l.cap, .slice (l.limits.map (.int .i64)) .no, .slice (l.sold.map (.int .i64)) .no, .slice (l.bids.map (.int .i64)) .no, .slice (l.holds.map Hold.d) .no]
def Leg.d (l : Leg) : D := .agg l.cs
theorem getD_holds (xs : List Hold) (i : Nat) : (xs.map Hold.d).getD i (.agg [.int .i64 0, .int .i64 0, .int .i64 0]) = .agg (xs.getD i default).cs := getD_map Hold.d default xs i
theorem allSz_holds (xs : List Hold) : AllSz 3 (xs.map Hold.d) ↔ True := allSz_map 3 _ xs (fun _ => rfl)
attribute [push_cast] Hold.cs Hold.d Leg.cs Leg.d getD_holds allSz_holds
theorem Leg.fit {l : Leg} (h : fitsD l.d) : l.name.length ≤ 1073741824 ∧ l.src.length ≤ 1073741824 ∧ l.dst.length ≤ 1073741824 ∧ l.limits.length ≤ 1073741824 ∧ l.sold.length ≤ 1073741824 ∧ l.bids.length ≤ 1073741824 ∧ l.holds.length ≤ 1073741824 := by
  simpa [fitsD, Leg.d, Leg.cs, flen, lenMax] using h

theorem wrap_id {n : Int} (h1 : -9223372036854775808 ≤ n) (h2 : n ≤ 9223372036854775807) : IntKind.i64.wrap n = n := by
  rw [IntKind.wrap_i64]
  omega

theorem take_succ_getD {α : Type} (xs : List α) (d : α) {k : Nat} (h : k < xs.length) : xs.take (k + 1) = xs.take k ++ [xs.getD k d] := by
  rw [List.take_succ_eq_append_getElem h, List.getD_eq_getElem?_getD, List.getElem?_eq_getElem h]; rfl
/-- all of the first n numbers -/
def allB (n : Nat) (f : Nat → Bool) : Bool := (List.range n).all f
theorem allB_iff {n : Nat} {f : Nat → Bool} : allB n f = true ↔ ∀ i, i < n → f i = true := by
  simp [allB]
theorem allB_t {n : Nat} {f : Nat → Bool} (h : ∀ i, i < n → f i = true) : allB n f = true := allB_iff.2 h
theorem allB_f {n : Nat} {f : Nat → Bool} (k : Nat) (hk : k < n) (h : f k = false) : allB n f = false := by
  cases e : allB n f with
  | false => rfl
  | true => rw [allB_iff.1 e k hk] at h; cases h
theorem allB_step {k : Nat} {f : Nat → Bool} (h : ∀ i, i < k → f i = true) (hk : f k = true) : ∀ i, i < k + 1 → f i = true := by
  intro i hi
  by_cases e : i = k
  · exact e ▸ hk
  · exact h i (by omega)
section
variable {P : Program} {mu : List Nat} {ops rest : List Oper} {dst : Option Tmp} {fr : Fr} {h : Hp} {K : St → Prop}
theorem wkL_refl : ∀ ys, WkL ys ys
  | [] => trivial
  | a :: ys => ⟨.refl a, wkL_refl ys⟩
theorem callS {f : FuncId} {ys : List D} {d : D} (c : Gives P f ys h d) (k : evOps P mu ops rest ⟨putO fr dst d, h⟩ K) : CallSt P mu ops rest dst fr h K f ys := call_gives c (wkL_refl ys) k
theorem callG {f : FuncId} {ys : List D} {d : D} {c : Bool} (hc : c = true → Gives P f ys h d) (k : evOps P mu ops rest ⟨putO fr dst (.when c d), h⟩ K) : CallG P mu ops rest dst fr h K c f ys := callG_gives hc (fun _ => wkL_refl ys) k
theorem callQ {f : FuncId} {ys : List D} {d : D} (c : Gives P f ys h d) (k : evQs P ops rest ⟨putO fr dst d, h⟩ K) : CallQ P ops rest dst fr h K f ys := callQ_gives c (wkL_refl ys) k
theorem callQG {f : FuncId} {ys : List D} {d : D} {c : Bool} (hc : c = true → Gives P f ys h d) (k : evQs P ops rest ⟨putO fr dst (.when c d), h⟩ K) : CallQG P ops rest dst fr h K c f ys := callQG_gives hc (fun _ => wkL_refl ys) k
theorem ev_loop0 {c : Code} {Q : Exit → St → Prop} {α : Type} (toks : List (Nat × Nat)) (L : α → List (Nat × D)) (I : α → Prop) (μ : α → Nat) (x0 : α)
    (ht : tokOks ⟨fr, h⟩ toks) (hI : I x0) (hW : (tokSts ⟨fr, h⟩ toks).h.length = h.length ∧ WeakTo h 0 (tokSts ⟨fr, h⟩ toks) (L x0) [])
    (hround : ∀ x, I x → ev P mu c (thenE (RoundOk (LoopInv h L (fun _ => []) I μ) (μ x) ⟨frL (L x), h⟩) Q) ⟨frL (L x), h⟩) : ev P mu (.loop c) Q ⟨fr, h⟩ := by
  have e := ev_loop (h := h) (ls := []) (P := P) (mu := mu) (fr := fr) (c := c) (Q := Q) toks L (fun _ => []) I μ x0
  simp only [List.append_nil] at e
  exact e ht hI ⟨0, Nat.le_refl _, hW.1, hW.2⟩ hround
theorem round_mk0 {α : Type} {L : α → List (Nat × D)} {I : α → Prop} {μ : α → Nat} {m : Nat} {st'' : St} (y : α) (h1 : I y) (h2 : μ y < m) (h3 : WeakTo h 0 st'' (L y) []) :
    RoundOk (LoopInv h L (fun _ => []) I μ) m ⟨fr, h⟩ st'' := by
  have e := round_mk (h := h) (L := L) (ls0 := fun _ => []) (I := I) (μ := μ) (m := m) (fr := fr) (ls := []) (st'' := st'') y h1 h2 h3
  simpa only [List.append_nil] using e
end
def inB (n lo hi : Int) : Bool := decide (lo ≤ n) && decide (n ≤ hi)
end Go.Proofs.Ytmehbbepppjikaa

/- Laws for evaluating: what a goal of 'ev' is simplified by; loops. -/
import Derived.Test.YtcomlmdpkafijaaEc
import Derived.ChangeArms
import Derived.Carry
import Derived.WideShapes
import Derived.OpenVars
import Derived.ChangeShapes
import Derived.RowKit

namespace Go.Av

section
variable (a b : Bool) (k k' : IntKind) (x y : Int) (s t : List UInt8) (es es' : List D) (t1 t2 : Tok)
theorem wk_refl (d : D) : Wk d d ↔ True := ⟨fun _ => trivial, fun _ => .refl d⟩
theorem wk_junk (d : D) : Wk d .junk ↔ True := ⟨fun _ => trivial, fun _ => .junk d⟩
theorem wk_bool : Wk (.bool a) (.bool b) ↔ a = b := ⟨fun h => by cases h; rfl, fun h => h ▸ .refl _⟩
theorem wk_int : Wk (.int k x) (.int k' y) ↔ k = k' ∧ x = y := ⟨fun h => by cases h; exact ⟨rfl, rfl⟩, fun ⟨h1, h2⟩ => by subst h1 h2; exact .refl _⟩
theorem wk_str : Wk (.str s) (.str t) ↔ s = t := ⟨fun h => by cases h; rfl, fun h => h ▸ .refl _⟩
theorem wk_slice_no : Wk (.slice es t1) (.slice es' .no) ↔ es = es' := ⟨fun h => by cases h <;> rfl, fun h => h ▸ .tok _ _⟩
theorem wk_slice : Wk (.slice es t1) (.slice es' t1) ↔ es = es' := ⟨fun h => by cases h <;> rfl, fun h => h ▸ .refl _⟩
theorem wk_agg (cs cs' : List D) : Wk (.agg cs) (.agg cs') ↔ WkL cs cs' := by
  constructor
  · intro h
    cases h with
    | refl d =>
      induction cs with
      | nil => trivial
      | cons c cs ih => exact ⟨.refl c, ih⟩
    | agg _ _ hl hh =>
      induction cs generalizing cs' with
      | nil => cases cs' with | nil => trivial | cons c cs' => simp at hl
      | cons c cs ih =>
        cases cs' with
        | nil => simp at hl
        | cons c' cs' => exact ⟨hh 0 (by simp) (by simp), ih cs' (by simpa using hl) (fun k h1 h2 => hh (k + 1) (by simpa using h1) (by simpa using h2))⟩
  · intro h
    have key : ∀ cs cs', WkL cs cs' → cs'.length = cs.length ∧ ∀ k (h1 : k < cs.length) (h2 : k < cs'.length), Wk (cs[k]) (cs'[k]) := by
      intro cs
      induction cs with
      | nil => intro cs' h; cases cs' with | nil => exact ⟨rfl, fun k h1 => absurd h1 (by simp)⟩ | cons c cs' => exact absurd h id
      | cons c cs ih =>
        intro cs' h
        cases cs' with
        | nil => exact absurd h id
        | cons c' cs' =>
          obtain ⟨h1, h2⟩ := ih cs' h.2
          refine ⟨by simp [h1], fun k k1 k2 => ?_⟩
          cases k with
          | zero => exact h.1
          | succ k => exact h2 k (by simpa using k1) (by simpa using k2)
    obtain ⟨h1, h2⟩ := key cs cs' h
    exact .agg cs cs' h1 h2
theorem wk_tup (cs cs' : List D) : Wk (.tup cs) (.tup cs') ↔ WkL cs cs' := by
  constructor
  · intro h
    cases h with
    | refl d =>
      induction cs with
      | nil => trivial
      | cons c cs ih => exact ⟨.refl c, ih⟩
    | tup _ _ hl hh =>
      induction cs generalizing cs' with
      | nil => cases cs' with | nil => trivial | cons c cs' => simp at hl
      | cons c cs ih =>
        cases cs' with
        | nil => simp at hl
        | cons c' cs' => exact ⟨hh 0 (by simp) (by simp), ih cs' (by simpa using hl) (fun k h1 h2 => hh (k + 1) (by simpa using h1) (by simpa using h2))⟩
  · intro h
    have h' := (wk_agg cs cs').2 h
    cases h' with
    | refl d => exact .refl _
    | agg _ _ hl hh => exact .tup cs cs' hl hh
end

/-- d, behind the call, may be seen as d' -/
def FW (n : Nat) (h : Hp) (d d' : D) : Prop := ∃ d0, Frz n h d d0 ∧ Wk d0 d'
def FWL (n : Nat) (h : Hp) : List D → List D → Prop
  | [], [] => True
  | a :: as, b :: bs => FW n h a b ∧ FWL n h as bs
  | _, _ => False

theorem fw_wk {n : Nat} {h : Hp} {d d' : D} (hd : match d with | .vec _ _ _ _ _ | .agg _ | .tup _ => False | _ => True) : FW n h d d' ↔ Wk d d' := by
  constructor
  · rintro ⟨d0, h1, h2⟩
    cases h1 with
    | refl d => exact h2
    | vec => exact absurd hd (by simp)
    | agg => exact absurd hd (by simp)
    | tup => exact absurd hd (by simp)
  · exact fun hw => ⟨d, .refl d, hw⟩
theorem fw_int (n : Nat) (h : Hp) (k : IntKind) (x : Int) (d' : D) : FW n h (.int k x) d' ↔ Wk (.int k x) d' := fw_wk trivial
theorem fw_bool (n : Nat) (h : Hp) (b : Bool) (d' : D) : FW n h (.bool b) d' ↔ Wk (.bool b) d' := fw_wk trivial
theorem fw_str (n : Nat) (h : Hp) (s : List UInt8) (d' : D) : FW n h (.str s) d' ↔ Wk (.str s) d' := fw_wk trivial
theorem fw_slice (n : Nat) (h : Hp) (es : List D) (t : Tok) (d' : D) : FW n h (.slice es t) d' ↔ Wk (.slice es t) d' := fw_wk trivial
theorem fw_ptr (n : Nat) (h : Hp) (r o : Nat) (d' : D) : FW n h (.ptr r o) d' ↔ Wk (.ptr r o) d' := fw_wk trivial
theorem fw_nilptr (n : Nat) (h : Hp) (d' : D) : FW n h .nilptr d' ↔ Wk .nilptr d' := fw_wk trivial
theorem fw_nilif (n : Nat) (h : Hp) (d' : D) : FW n h .nilif d' ↔ Wk .nilif d' := fw_wk trivial

theorem fwl_split {n : Nat} {h : Hp} : ∀ {cs cs' : List D}, FWL n h cs cs' ↔ ∃ ds : List D, (ds.length = cs.length ∧ ∀ k (h1 : k < cs.length) (h2 : k < ds.length), Frz n h (cs[k]) (ds[k])) ∧ WkL ds cs'
  | [], [] => ⟨fun _ => ⟨[], ⟨rfl, fun k h1 => absurd h1 (by simp)⟩, trivial⟩, fun _ => trivial⟩
  | [], b :: bs => ⟨fun h => absurd h id, fun ⟨ds, ⟨h1, _⟩, h2⟩ => by
      cases ds with
      | nil => exact h2
      | cons d ds => simp at h1⟩
  | a :: as, [] => ⟨fun h => absurd h id, fun ⟨ds, ⟨h1, _⟩, h2⟩ => by
      cases ds with
      | nil => simp at h1
      | cons d ds => exact h2⟩
  | a :: as, b :: bs => by
    constructor
    · rintro ⟨⟨d0, f1, f2⟩, h2⟩
      obtain ⟨ds, ⟨g1, g2⟩, g3⟩ := fwl_split.1 h2
      exact ⟨d0 :: ds, ⟨by simp [g1], fun k k1 k2 => by
        cases k with
        | zero => exact f1
        | succ k => exact g2 k (by simpa using k1) (by simpa using k2)⟩, f2, g3⟩
    · rintro ⟨ds, ⟨g1, g2⟩, g3⟩
      cases ds with
      | nil => simp at g1
      | cons d ds =>
        exact ⟨⟨d, g2 0 (by simp) (by simp), g3.1⟩, fwl_split.2 ⟨ds, ⟨by simpa using g1, fun k k1 k2 => g2 (k + 1) (by simpa using k1) (by simpa using k2)⟩, g3.2⟩⟩

theorem fw_agg (n : Nat) (h : Hp) (cs cs' : List D) : FW n h (.agg cs) (.agg cs') ↔ FWL n h cs cs' := by
  rw [fwl_split]
  constructor
  · rintro ⟨d0, h1, h2⟩
    cases h1 with
    | refl d => exact ⟨cs, ⟨rfl, fun k h1 h2 => .refl _⟩, (wk_agg _ _).1 h2⟩
    | agg _ ds hl hh => exact ⟨ds, ⟨hl, hh⟩, (wk_agg _ _).1 h2⟩
  · rintro ⟨ds, ⟨h1, h2⟩, h3⟩
    exact ⟨.agg ds, .agg cs ds h1 h2, (wk_agg _ _).2 h3⟩
theorem fw_tup (n : Nat) (h : Hp) (cs cs' : List D) : FW n h (.tup cs) (.tup cs') ↔ FWL n h cs cs' := by
  rw [fwl_split]
  constructor
  · rintro ⟨d0, h1, h2⟩
    cases h1 with
    | refl d => exact ⟨cs, ⟨rfl, fun k h1 h2 => .refl _⟩, (wk_tup _ _).1 h2⟩
    | tup _ ds hl hh => exact ⟨ds, ⟨hl, hh⟩, (wk_tup _ _).1 h2⟩
  · rintro ⟨ds, ⟨h1, h2⟩, h3⟩
    exact ⟨.tup ds, .tup cs ds h1 h2, (wk_tup _ _).2 h3⟩
theorem fw_vec (n : Nat) (h : Hp) (r : Nat) (ag : Bool) (sz off len : Nat) (es : List D) : FW n h (.vec r ag sz off len) (.slice es .no) ↔
    (n ≤ r ∧ isRow (ob h r) ∧ (off + len) * sz ≤ (rowOf (ob h r)).length ∧ (∀ d, d ∈ rowPart h r sz off len → Cl 0 d) ∧ 0 < sz ∧ (ag = false → sz = 1 ∧ ∀ d, d ∈ rowPart h r sz off len → d.cells = [d])) ∧ chunk ag sz len (rowPart h r sz off len) = es := by
  constructor
  · rintro ⟨d0, h1, h2⟩
    cases h1 with
    | refl d => cases h2
    | vec _ _ _ _ _ k1 k2 k3 k4 k5 k6 => exact ⟨⟨k1, k2, k3, k4, k5, k6⟩, (wk_slice_no _ _ _).1 h2⟩
  · rintro ⟨⟨k1, k2, k3, k4, k5, k6⟩, rfl⟩
    exact ⟨_, .vec r ag sz off len k1 k2 k3 k4 k5 k6, .refl _⟩

theorem finS_gives {P : Program} {rs : List ResultVar} {h : Hp} {d : D} {st : St} : finS P rs h (fun d' h' => d' = d ∧ h' = h) st ↔ (∀ r, r ∈ rs → resOk P st r) ∧ FW h.length st.h (resD P rs st) d ∧ Cl h.length d ∧ Back h st.h h := by
  constructor
  · rintro ⟨h1, d0, d', h', h0, h2, h3, h4, rfl, rfl⟩; exact ⟨h1, ⟨d0, h0, h2⟩, h3, h4⟩
  · rintro ⟨h1, ⟨d0, h0, h2⟩, h3, h4⟩; exact ⟨h1, d0, d, h, h0, h2, h3, h4, rfl, rfl⟩

theorem back_app (h ls : Hp) : Back h (h ++ ls) h ↔ True := by
  simp [Back]
  exact fun r x hx => .inl hx
theorem back_refl (h : Hp) : Back h h h ↔ True := by
  simp [Back]
  exact fun r x hx => .inl hx

theorem ob_app0 (h ls : Hp) : ob (h ++ ls) h.length = ob ls 0 := by simp [ob, List.getD_eq_getElem?_getD, List.getElem?_append_right]
theorem ob_app (h ls : Hp) (k : Nat) : ob (h ++ ls) (h.length + k) = ob ls k := by simp [ob, List.getD_eq_getElem?_getD, List.getElem?_append_right]
theorem ob_zero (x : Ob) (ls : Hp) : ob (x :: ls) 0 = x := rfl
theorem ob_succ (x : Ob) (ls : Hp) (k : Nat) : ob (x :: ls) (k + 1) = ob ls k := rfl
theorem set_app0 (h ls : Hp) (x : Ob) : (h ++ ls).set h.length x = h ++ ls.set 0 x := by simp
theorem set_app (h ls : Hp) (k : Nat) (x : Ob) : (h ++ ls).set (h.length + k) x = h ++ ls.set k x := by simp

theorem allSz_map {α : Type} (n : Nat) (f : α → D) (xs : List α) (hf : ∀ x, (f x).cells.length = n) : AllSz n (xs.map f) ↔ True := ⟨fun _ => trivial, fun _ e he => by
  obtain ⟨x, _, rfl⟩ := List.mem_map.1 he
  exact hf x⟩
theorem allSz_int (k : IntKind) (xs : List Int) : AllSz 1 (xs.map (D.int k)) ↔ True := allSz_map 1 _ xs (fun _ => rfl)
theorem allSz_str (xs : List (List UInt8)) : AllSz 1 (xs.map D.str) ↔ True := allSz_map 1 _ xs (fun _ => rfl)
theorem allSz_nil (n : Nat) : AllSz n [] ↔ True := by simp [AllSz]
theorem allSz_cons (n : Nat) (e : D) (es : List D) : AllSz n (e :: es) ↔ e.cells.length = n ∧ AllSz n es := by simp [AllSz]
theorem allSz_append (n : Nat) (es fs : List D) : AllSz n (es ++ fs) ↔ AllSz n es ∧ AllSz n fs := by
  simp only [AllSz, List.mem_append]
  exact ⟨fun h => ⟨fun e he => h e (.inl he), fun e he => h e (.inr he)⟩, fun h e he => he.elim (h.1 e) (h.2 e)⟩
theorem allSz_take_iff (n k : Nat) (es : List D) (h : AllSz n es) : AllSz n (es.take k) ↔ True := ⟨fun _ => trivial, fun _ => allSz_take h k⟩

theorem getD_ints (k : IntKind) (xs : List Int) (i : Nat) : (xs.map (D.int k)).getD i (.int k 0) = .int k (xs.getD i 0) := by
  simp only [List.getD_eq_getElem?_getD, List.getElem?_map]
  cases xs[i]? <;> rfl
theorem getD_strs (xs : List (List UInt8)) (i : Nat) : (xs.map D.str).getD i (.str []) = .str (xs.getD i []) := by
  simp only [List.getD_eq_getElem?_getD, List.getElem?_map]
  cases xs[i]? <;> rfl
theorem getD_map {α : Type} (f : α → D) (a : α) (xs : List α) (i : Nat) : (xs.map f).getD i (f a) = f (xs.getD i a) := by
  simp only [List.getD_eq_getElem?_getD, List.getElem?_map]
  cases xs[i]? <;> rfl

theorem natCast0 : ((0 : Nat) : Int) = 0 := rfl

theorem drop_map {α : Type} (f : α → D) (n : Nat) (xs : List α) : (xs.map f).drop n = (xs.drop n).map f := by rw [List.map_drop]
theorem take_map {α : Type} (f : α → D) (n : Nat) (xs : List α) : (xs.map f).take n = (xs.take n).map f := by rw [List.map_take]

/-! ### Loops -/

/-- A frame of which only these slots are known. -/
def frL (l : List (Nat × D)) : Fr := fun t => (l.lookup t).getD .junk

/-- The state behind a round (or ahead of the loop) may be seen as the head's state with these slots and these objects behind h. -/
def WeakTo (h : Hp) (n : Nat) (st : St) (l : List (Nat × D)) (ls0 : Hp) : Prop :=
  ∃ ls, st.h = h ++ ls ∧ n ≤ ls0.length ∧ ls0.length ≤ ls.length ∧ ls.take ls0.length = ls0 ∧ (∀ x, x ∈ ls0 → ObCl (h.length + ls0.length) x) ∧ ∀ p, p ∈ l → Wk (st.fr p.1) p.2 ∧ Cl (h.length + ls0.length) p.2

theorem lookup_mem {t : Nat} {d : D} : ∀ {l : List (Nat × D)}, l.lookup t = some d → (t, d) ∈ l
  | [], h => by simp at h
  | (u, e) :: l, h => by
    simp only [List.lookup] at h
    split at h
    · rename_i hu
      cases h
      have : t = u := by simpa using hu
      subst this
      exact List.mem_cons_self
    · exact List.mem_cons_of_mem _ (lookup_mem h)

theorem WeakTo.weak {h : Hp} {n : Nat} {st0 st : St} {l : List (Nat × D)} {ls0 lsh : Hp} (H : WeakTo h n st l ls0) (h0 : st0.h = h ++ lsh) (hn : lsh.length = n) : Weak st0 st ⟨frL l, h ++ ls0⟩ := by
  obtain ⟨ls, e1, e2, e3, e4, e5, e6⟩ := H
  refine ⟨by rw [h0]; simp; omega, by rw [e1]; simp; omega, ?_, fun r x hr => ?_, fun t => ?_⟩
  · rw [e1]
    simp only [List.length_append, List.take_append]
    rw [List.take_of_length_le (by omega), show h.length + ls0.length - h.length = ls0.length by omega, e4]
  · simp only at hr
    by_cases hk : r < h.length
    · rw [List.getElem?_append_left hk] at hr
      exact .inl (by rw [h0, List.getElem?_append_left hk]; exact hr)
    · rw [List.getElem?_append_right (by omega)] at hr
      refine .inr ?_
      have := e5 x (List.mem_of_getElem? hr)
      simpa using this
  · refine .inr ?_
    simp only [frL]
    cases hl : l.lookup t with
    | none => exact ⟨.junk _, .junk⟩
    | some d =>
      obtain ⟨k1, k2⟩ := e6 (t, d) (lookup_mem hl)
      exact ⟨k1, by simpa using k2⟩

theorem tokSt_h (st : St) (p : Nat × Nat) : ∃ e, (tokSt st p).h = st.h ++ e := by
  unfold tokSt
  split
  · exact ⟨_, rfl⟩
  · exact ⟨[], by simp⟩
theorem tokSts_h : ∀ (ps : List (Nat × Nat)) (st : St), ∃ e, (tokSts st ps).h = st.h ++ e
  | [], st => ⟨[], by simp [tokSts]⟩
  | p :: ps, st => by
    obtain ⟨e1, h1⟩ := tokSt_h st p
    obtain ⟨e2, h2⟩ := tokSts_h ps (tokSt st p)
    exact ⟨e1 ++ e2, by rw [tokSts, h2, h1, List.append_assoc]⟩

/-- The states that a loop's head is met in. -/
def LoopInv {α : Type} (h : Hp) (L : α → List (Nat × D)) (ls0 : α → Hp) (I : α → Prop) (μ : α → Nat) (m : Nat) (st' : St) : Prop := ∃ x, I x ∧ μ x = m ∧ st' = ⟨frL (L x), h ++ ls0 x⟩

theorem round_mk {α : Type} {h : Hp} {L : α → List (Nat × D)} {ls0 : α → Hp} {I : α → Prop} {μ : α → Nat} {m : Nat} {fr : Fr} {ls : Hp} {st'' : St} (y : α) (h1 : I y) (h2 : μ y < m) (h3 : WeakTo h ls.length st'' (L y) (ls0 y)) :
    RoundOk (LoopInv h L ls0 I μ) m ⟨fr, h ++ ls⟩ st'' :=
  ⟨μ y, ⟨frL (L y), h ++ ls0 y⟩, h2, ⟨y, h1, rfl, rfl⟩, h3.weak rfl rfl⟩

theorem loop_mk {body : St → (Exit → St → Prop) → Prop} {Q : Exit → St → Prop} {fr : Fr} {h ls : Hp} {α : Type} (toks : List (Nat × Nat)) (L : α → List (Nat × D)) (ls0 : α → Hp) (I : α → Prop) (μ : α → Nat) (x0 : α)
    (ht : tokOks ⟨fr, h ++ ls⟩ toks) (hI : I x0) (hW : ∃ k, k ≤ (ls0 x0).length ∧ (tokSts ⟨fr, h ++ ls⟩ toks).h.length = h.length + k ∧ WeakTo h k (tokSts ⟨fr, h ++ ls⟩ toks) (L x0) (ls0 x0))
    (hround : ∀ x, I x → body ⟨frL (L x), h ++ ls0 x⟩ (thenE (RoundOk (LoopInv h L ls0 I μ) (μ x) ⟨frL (L x), h ++ ls0 x⟩) Q)) : loopGo body Q ⟨fr, h ++ ls⟩ := by
  obtain ⟨k, _, hl, hW⟩ := hW
  refine ⟨toks, LoopInv h L ls0 I μ, ht, ⟨μ x0, _, ⟨x0, hI, rfl, rfl⟩, ?_⟩, ?_⟩
  · obtain ⟨e, he⟩ := tokSts_h toks ⟨fr, h ++ ls⟩
    refine hW.weak (lsh := ls ++ e) (by rw [he, List.append_assoc]) ?_
    rw [he] at hl
    simp only [List.length_append] at hl ⊢
    omega
  · rintro m st' ⟨x, hx, rfl, rfl⟩
    exact hround x hx
end Go.Av

/- Laws for evaluating: each form of code and each operation at a state that is written out. -/
namespace Go.Av

/-- A call is next. -/
def CallSt (P : Program) (mu : List Nat) (ops rest : List Oper) (dst : Option Tmp) (fr : Fr) (h : Hp) (K : St → Prop) (f : FuncId) (args : List D) : Prop :=
  ∃ Q as, Meets P f as h Q ∧ WkL args as ∧ ∀ d h', Q d h' → evOps P mu ops rest ⟨putO fr dst d, h'⟩ K
/-- A guarded call is next. -/
def CallG (P : Program) (mu : List Nat) (ops rest : List Oper) (dst : Option Tmp) (fr : Fr) (h : Hp) (K : St → Prop) (c : Bool) (f : FuncId) (args : List D) : Prop :=
  ∃ d as, (c = true → Gives P f as h d ∧ WkL args as) ∧ evOps P mu ops rest ⟨putO fr dst (.when c d), h⟩ K
/-- A call in a region that draws its order. -/
def CallQ (P : Program) (ops rest : List Oper) (dst : Option Tmp) (fr : Fr) (h : Hp) (K : St → Prop) (f : FuncId) (args : List D) : Prop :=
  ∃ d as, (Gives P f as h d ∧ WkL args as) ∧ evQs P ops rest ⟨putO fr dst d, h⟩ K
/-- A guarded one. -/
def CallQG (P : Program) (ops rest : List Oper) (dst : Option Tmp) (fr : Fr) (h : Hp) (K : St → Prop) (c : Bool) (f : FuncId) (args : List D) : Prop :=
  ∃ d as, (c = true → Gives P f as h d ∧ WkL args as) ∧ evQs P ops rest ⟨putO fr dst (.when c d), h⟩ K

section
variable {P : Program} {mu : List Nat} {ops rest : List Oper} {dst : Option Tmp} {fr : Fr} {h : Hp} {K : St → Prop} {ty : TypeId} {pos : String} {af : Array Edge} {g : Nat × Bool} {Q : Exit → St → Prop}

theorem call_gives {f : FuncId} {args as : List D} {d : D} (c : Gives P f as h d) (hw : WkL args as) (k : evOps P mu ops rest ⟨putO fr dst d, h⟩ K) : CallSt P mu ops rest dst fr h K f args :=
  ⟨_, as, c, hw, fun _ _ ⟨e1, e2⟩ => by subst e1 e2; exact k⟩
theorem call_meets {f : FuncId} {args as : List D} {R : D → Hp → Prop} (c : Meets P f as h R) (hw : WkL args as) (k : ∀ d h', R d h' → evOps P mu ops rest ⟨putO fr dst d, h'⟩ K) : CallSt P mu ops rest dst fr h K f args :=
  ⟨R, as, c, hw, k⟩
theorem callG_gives {f : FuncId} {args as : List D} {d : D} {c : Bool} (hc : c = true → Gives P f as h d) (hw : c = true → WkL args as) (k : evOps P mu ops rest ⟨putO fr dst (.when c d), h⟩ K) : CallG P mu ops rest dst fr h K c f args :=
  ⟨d, as, fun e => ⟨hc e, hw e⟩, k⟩
theorem callQ_gives {f : FuncId} {args as : List D} {d : D} (c : Gives P f as h d) (hw : WkL args as) (k : evQs P ops rest ⟨putO fr dst d, h⟩ K) : CallQ P ops rest dst fr h K f args := ⟨d, as, ⟨c, hw⟩, k⟩
theorem callQG_gives {f : FuncId} {args as : List D} {d : D} {c : Bool} (hc : c = true → Gives P f as h d) (hw : c = true → WkL args as) (k : evQs P ops rest ⟨putO fr dst (.when c d), h⟩ K) : CallQG P ops rest dst fr h K c f args :=
  ⟨d, as, fun e => ⟨hc e, hw e⟩, k⟩

theorem evo_nil : evOps P mu ops [] ⟨fr, h⟩ K = K ⟨fr, h⟩ := rfl
theorem evq_nil : evQs P ops [] ⟨fr, h⟩ K = K ⟨fr, h⟩ := rfl

theorem quiet_pure {o : Oper} {st : St} {K : D → Prop} (hc : ∀ f args ts, o.op ≠ .call ⟨.value f, args, ts⟩) : quietOp P ops o st K = (gok st.fr ops o.guard ∧ quietPure P ops o st K) := by
  unfold quietOp
  split
  · rename_i f args ts e; exact absurd e (hc f args ts)
  · rfl

theorem evo_pure {op : Op} (hl : isLoud op = false) (hc : ∀ f args ts, op ≠ .call ⟨.value f, args, ts⟩) : evOps P mu ops (⟨dst, op, ty, pos, af, none⟩ :: rest) ⟨fr, h⟩ K = (pureOk P ⟨fr, h⟩ op ∧ evOps P mu ops rest ⟨putO fr dst (pureD P ⟨fr, h⟩ op), h⟩ K) := by
  apply propext
  simp only [evOps, evOp, hl, quiet_pure (o := ⟨dst, op, ty, pos, af, none⟩) hc, quietPure, gok, gcond, wrapG, true_and, true_implies]
theorem evg_pure {op : Op} (hc : ∀ f args ts, op ≠ .call ⟨.value f, args, ts⟩) : evOps P mu ops (⟨dst, op, ty, pos, af, some g⟩ :: rest) ⟨fr, h⟩ K = (gok fr ops (some g) ∧ (gcond fr ops (some g) = true → pureOk P ⟨fr, h⟩ op) ∧ evOps P mu ops rest ⟨putO fr dst (.when (gcond fr ops (some g)) (pureD P ⟨fr, h⟩ op)), h⟩ K) := by
  apply propext
  simp only [evOps, evOp, quiet_pure (o := ⟨dst, op, ty, pos, af, some g⟩) hc, quietPure, wrapG]
theorem evq_pure {op : Op} (hc : ∀ f args ts, op ≠ .call ⟨.value f, args, ts⟩) : evQs P ops (⟨dst, op, ty, pos, af, none⟩ :: rest) ⟨fr, h⟩ K = (pureOk P ⟨fr, h⟩ op ∧ evQs P ops rest ⟨putO fr dst (pureD P ⟨fr, h⟩ op), h⟩ K) := by
  apply propext
  simp only [evQs, quiet_pure (o := ⟨dst, op, ty, pos, af, none⟩) hc, quietPure, gok, gcond, wrapG, true_and, true_implies]
theorem evqg_pure {op : Op} (hc : ∀ f args ts, op ≠ .call ⟨.value f, args, ts⟩) : evQs P ops (⟨dst, op, ty, pos, af, some g⟩ :: rest) ⟨fr, h⟩ K = (gok fr ops (some g) ∧ (gcond fr ops (some g) = true → pureOk P ⟨fr, h⟩ op) ∧ evQs P ops rest ⟨putO fr dst (.when (gcond fr ops (some g)) (pureD P ⟨fr, h⟩ op)), h⟩ K) := by
  apply propext
  simp only [evQs, quiet_pure (o := ⟨dst, op, ty, pos, af, some g⟩) hc, quietPure, wrapG]

theorem evo_call (f : Operand) (args : Array Operand) (ts : Array TypeId) : evOps P mu ops (⟨dst, .call ⟨.value f, args, ts⟩, ty, pos, af, none⟩ :: rest) ⟨fr, h⟩ K =
    (ok1 fr f ∧ isFn (vl fr f) ∧ allOk1 fr args.toList ∧ CallSt P mu ops rest dst fr h K (fnId (vl fr f)) (args.toList.map (vl fr) ++ fnCaps (vl fr f))) := rfl
theorem evg_call (f : Operand) (args : Array Operand) (ts : Array TypeId) : evOps P mu ops (⟨dst, .call ⟨.value f, args, ts⟩, ty, pos, af, some g⟩ :: rest) ⟨fr, h⟩ K =
    (gok fr ops (some g) ∧ (gcond fr ops (some g) = true → ok1 fr f ∧ isFn (vl fr f) ∧ allOk1 fr args.toList) ∧ CallG P mu ops rest dst fr h K (gcond fr ops (some g)) (fnId (vl fr f)) (args.toList.map (vl fr) ++ fnCaps (vl fr f))) := by
  apply propext
  constructor
  · rintro ⟨h1, d, as, h2, h3⟩
    exact ⟨h1, fun e => ⟨(h2 e).1, (h2 e).2.1, (h2 e).2.2.1⟩, d, as, fun e => (h2 e).2.2.2, h3⟩
  · rintro ⟨h1, h2, d, as, h3, h4⟩
    exact ⟨h1, d, as, fun e => ⟨(h2 e).1, (h2 e).2.1, (h2 e).2.2, h3 e⟩, h4⟩
theorem evq_call (f : Operand) (args : Array Operand) (ts : Array TypeId) : evQs P ops (⟨dst, .call ⟨.value f, args, ts⟩, ty, pos, af, none⟩ :: rest) ⟨fr, h⟩ K =
    (ok1 fr f ∧ isFn (vl fr f) ∧ allOk1 fr args.toList ∧ CallQ P ops rest dst fr h K (fnId (vl fr f)) (args.toList.map (vl fr) ++ fnCaps (vl fr f))) := by
  apply propext
  constructor
  · rintro ⟨_, d, as, h2, h3⟩
    exact ⟨(h2 rfl).1, (h2 rfl).2.1, (h2 rfl).2.2.1, d, as, (h2 rfl).2.2.2, h3⟩
  · rintro ⟨h1, h2, h3, d, as, h4, h5⟩
    exact ⟨trivial, d, as, fun _ => ⟨h1, h2, h3, h4⟩, h5⟩
theorem evqg_call (f : Operand) (args : Array Operand) (ts : Array TypeId) : evQs P ops (⟨dst, .call ⟨.value f, args, ts⟩, ty, pos, af, some g⟩ :: rest) ⟨fr, h⟩ K =
    (gok fr ops (some g) ∧ (gcond fr ops (some g) = true → ok1 fr f ∧ isFn (vl fr f) ∧ allOk1 fr args.toList) ∧ CallQG P ops rest dst fr h K (gcond fr ops (some g)) (fnId (vl fr f)) (args.toList.map (vl fr) ++ fnCaps (vl fr f))) := by
  apply propext
  constructor
  · rintro ⟨h1, d, as, h2, h3⟩
    exact ⟨h1, fun e => ⟨(h2 e).1, (h2 e).2.1, (h2 e).2.2.1⟩, d, as, fun e => (h2 e).2.2.2, h3⟩
  · rintro ⟨h1, h2, d, as, h3, h4⟩
    exact ⟨h1, d, as, fun e => ⟨(h2 e).1, (h2 e).2.1, (h2 e).2.2, h3 e⟩, h4⟩

theorem evo_alloc (t : TypeId) : evOps P mu ops (⟨dst, .alloc t, ty, pos, af, none⟩ :: rest) ⟨fr, h⟩ K = ((ti P t).zero.isEmpty = false ∧ evOps P mu ops rest ⟨putO fr dst (.ptr h.length 0), h ++ [.row (ti P t).zero]⟩ K) := rfl
theorem evo_box (t : TypeId) (x : Operand) : evOps P mu ops (⟨dst, .box t x, ty, pos, af, none⟩ :: rest) ⟨fr, h⟩ K = (ok1 fr x ∧ solid (vl fr x) ∧ evOps P mu ops rest ⟨putO fr dst (.ptr h.length 0), h ++ [.row (vl fr x).cells]⟩ K) := rfl
theorem evo_store (t : TypeId) (x y : Operand) : evOps P mu ops (⟨dst, .store t x y, ty, pos, af, none⟩ :: rest) ⟨fr, h⟩ K =
    (ok1 fr x ∧ ok1 fr y ∧ storeOk P t h (vl fr x) (vl fr y) ∧ evOps P mu ops rest ⟨putO fr dst .junk, storeH h (vl fr x) (vl fr y)⟩ K) := rfl
theorem evo_bs (t : TypeId) (n : Nat) (parts : Array (Nat × Operand)) : evOps P mu ops (⟨dst, .buildSlice t n parts, ty, pos, af, none⟩ :: rest) ⟨fr, h⟩ K =
    (allOk1 fr (parts.toList.map (·.2)) ∧ bsOk P t n (parts.toList.map (·.1)) (parts.toList.map fun p => vl fr p.2) ∧
      if muHas mu dst then evOps P mu ops rest ⟨putO fr dst (.vec h.length (isAg (ti P (ti P t).elem).kind) (ti P (ti P t).elem).sz 0 n), h ++ [.row (flat (parts.toList.map fun p => vl fr p.2))]⟩ K
      else (∀ e, e ∈ parts.toList.map (fun p => vl fr p.2) → Cl 0 e) ∧ evOps P mu ops rest ⟨putO fr dst (.slice (parts.toList.map fun p => vl fr p.2) .full), h⟩ K) := rfl

theorem evo_make (t : TypeId) (x y : Operand) : evOps P mu ops (⟨dst, .makeSlice t x y, ty, pos, af, none⟩ :: rest) ⟨fr, h⟩ K =
    (ok1 fr x ∧ ok1 fr y ∧ mkOk P t (vl fr x) (vl fr y) ∧ evOps P mu ops rest ⟨putO fr dst (.vec h.length (isAg (ti P (ti P t).elem).kind) (ti P (ti P t).elem).sz 0 (iof (vl fr x)).toNat), h ++ [.row (zeros (ti P (ti P t).elem).zero (iof (vl fr x)).toNat)]⟩ K) := rfl

/-- append -/
def AppSt (P : Program) (mu : List Nat) (ops rest : List Oper) (dst : Option Tmp) (fr : Fr) (h : Hp) (K : St → Prop) (t : TypeId) (s x : D) : Prop := appGo P t h s x fun d h' => evOps P mu ops rest ⟨putO fr dst d, h'⟩ K
theorem evo_append (s x : Operand) (t t' : TypeId) : evOps P mu ops (⟨dst, .call ⟨.builtin .append, #[s, x], #[t, t']⟩, ty, pos, af, none⟩ :: rest) ⟨fr, h⟩ K =
    (t' = t ∧ ok1 fr s ∧ ok1 fr x ∧ AppSt P mu ops rest dst fr h K t (vl fr s) (vl fr x)) := rfl
theorem app_full_st (t : TypeId) (es news : List D) (t2 : Tok) : AppSt P mu ops rest dst fr h K t (.slice es .full) (.slice news t2) =
    (appOk P t es news ∧ evOps P mu ops rest ⟨putO fr dst (.slice (es ++ news) (.buf h.length (ti P (ti P t).elem).sz)), h ++ [.buf ((es.length + news.length) * (ti P (ti P t).elem).sz)]⟩ K) := rfl
theorem app_buf_st (t : TypeId) (es news : List D) (r sz : Nat) (t2 : Tok) : AppSt P mu ops rest dst fr h K t (.slice es (.buf r sz)) (.slice news t2) =
    (appOk P t es news ∧ sz = (ti P (ti P t).elem).sz ∧ isBuf (ob h r) (es.length * (ti P (ti P t).elem).sz) ∧ evOps P mu ops rest ⟨putO fr dst (.slice (es ++ news) (.buf r sz)), h.set r (.buf ((es.length + news.length) * (ti P (ti P t).elem).sz))⟩ K) := rfl

theorem ev_skip : ev P mu .skip Q ⟨fr, h⟩ = Q .normal ⟨fr, h⟩ := rfl
theorem ev_label (l : Nat) : ev P mu (.label l) Q ⟨fr, h⟩ = Q .normal ⟨fr, h⟩ := rfl
theorem ev_region (id : Nat) (l : Array Oper) : ev P mu (.region id l false) Q ⟨fr, h⟩ = evOps P mu l.toList l.toList ⟨fr, h⟩ (Q .normal) := rfl
theorem ev_draw (id : Nat) (l : Array Oper) : ev P mu (.region id l true) Q ⟨fr, h⟩ = evQs P l.toList l.toList ⟨fr, h⟩ (Q .normal) := rfl
theorem ev_seq (a b : Code) : ev P mu (.seq a b) Q ⟨fr, h⟩ = ev P mu a (thenE (ev P mu b Q) Q) ⟨fr, h⟩ := rfl
theorem ev_cond (c : Operand) (a b : Code) : ev P mu (.cond c a b) Q ⟨fr, h⟩ = (ok1 fr c ∧ isBool (vl fr c) ∧ (bof (vl fr c) = true → ev P mu a Q ⟨fr, h⟩) ∧ (bof (vl fr c) = false → ev P mu b Q ⟨fr, h⟩)) := rfl
theorem ev_block (id : Nat) (c : Code) : ev P mu (.block id c) Q ⟨fr, h⟩ = ev P mu c (blockE id Q) ⟨fr, h⟩ := rfl
theorem ev_exit (id : Nat) : ev P mu (.exit id) Q ⟨fr, h⟩ = Q (.exit id) ⟨fr, h⟩ := rfl
theorem ev_ret : ev P mu .ret Q ⟨fr, h⟩ = Q .ret ⟨fr, h⟩ := rfl
theorem then_normal (next : St → Prop) : thenE next Q .normal ⟨fr, h⟩ = next ⟨fr, h⟩ := rfl
theorem then_exit (next : St → Prop) (id : Nat) : thenE next Q (.exit id) ⟨fr, h⟩ = Q (.exit id) ⟨fr, h⟩ := rfl
theorem then_ret (next : St → Prop) : thenE next Q .ret ⟨fr, h⟩ = Q .ret ⟨fr, h⟩ := rfl
theorem block_normal (id : Nat) : blockE id Q .normal ⟨fr, h⟩ = Q .normal ⟨fr, h⟩ := rfl
theorem block_exit (id id' : Nat) : blockE id Q (.exit id') ⟨fr, h⟩ = if id' = id then Q .normal ⟨fr, h⟩ else Q (.exit id') ⟨fr, h⟩ := rfl
theorem block_ret (id : Nat) : blockE id Q .ret ⟨fr, h⟩ = Q .ret ⟨fr, h⟩ := rfl
theorem fin_normal (rs : List ResultVar) (h0 : Hp) (R : D → Hp → Prop) : fin P rs h0 R .normal ⟨fr, h⟩ = finS P rs h0 R ⟨fr, h⟩ := rfl
theorem fin_ret (rs : List ResultVar) (h0 : Hp) (R : D → Hp → Prop) : fin P rs h0 R .ret ⟨fr, h⟩ = finS P rs h0 R ⟨fr, h⟩ := rfl

theorem ev_loop {c : Code} {ls : Hp} {α : Type} (toks : List (Nat × Nat)) (L : α → List (Nat × D)) (ls0 : α → Hp) (I : α → Prop) (μ : α → Nat) (x0 : α)
    (ht : tokOks ⟨fr, h ++ ls⟩ toks) (hI : I x0) (hW : ∃ k, k ≤ (ls0 x0).length ∧ (tokSts ⟨fr, h ++ ls⟩ toks).h.length = h.length + k ∧ WeakTo h k (tokSts ⟨fr, h ++ ls⟩ toks) (L x0) (ls0 x0))
    (hround : ∀ x, I x → ev P mu c (thenE (RoundOk (LoopInv h L ls0 I μ) (μ x) ⟨frL (L x), h ++ ls0 x⟩) Q) ⟨frL (L x), h ++ ls0 x⟩) : ev P mu (.loop c) Q ⟨fr, h ++ ls⟩ :=
  loop_mk toks L ls0 I μ x0 ht hI hW hround
theorem evo_move (x : Operand) : evOps P mu ops (⟨dst, .move x, ty, pos, af, none⟩ :: rest) ⟨fr, h⟩ K = (pureOk P ⟨fr, h⟩ (.move x) ∧ evOps P mu ops rest ⟨putO fr dst (pureD P ⟨fr, h⟩ (.move x)), h⟩ K) := evo_pure rfl (by intro f args ts e; cases e)
theorem evg_move (x : Operand) : evOps P mu ops (⟨dst, .move x, ty, pos, af, some g⟩ :: rest) ⟨fr, h⟩ K = (gok fr ops (some g) ∧ (gcond fr ops (some g) = true → pureOk P ⟨fr, h⟩ (.move x)) ∧ evOps P mu ops rest ⟨putO fr dst (.when (gcond fr ops (some g)) (pureD P ⟨fr, h⟩ (.move x))), h⟩ K) := evg_pure (by intro f args ts e; cases e)
theorem evq_move (x : Operand) : evQs P ops (⟨dst, .move x, ty, pos, af, none⟩ :: rest) ⟨fr, h⟩ K = (pureOk P ⟨fr, h⟩ (.move x) ∧ evQs P ops rest ⟨putO fr dst (pureD P ⟨fr, h⟩ (.move x)), h⟩ K) := evq_pure (by intro f args ts e; cases e)
theorem evqg_move (x : Operand) : evQs P ops (⟨dst, .move x, ty, pos, af, some g⟩ :: rest) ⟨fr, h⟩ K = (gok fr ops (some g) ∧ (gcond fr ops (some g) = true → pureOk P ⟨fr, h⟩ (.move x)) ∧ evQs P ops rest ⟨putO fr dst (.when (gcond fr ops (some g)) (pureD P ⟨fr, h⟩ (.move x))), h⟩ K) := evqg_pure (by intro f args ts e; cases e)
theorem evo_assign (x : Operand) : evOps P mu ops (⟨dst, .assign x, ty, pos, af, none⟩ :: rest) ⟨fr, h⟩ K = (pureOk P ⟨fr, h⟩ (.assign x) ∧ evOps P mu ops rest ⟨putO fr dst (pureD P ⟨fr, h⟩ (.assign x)), h⟩ K) := evo_pure rfl (by intro f args ts e; cases e)
theorem evg_assign (x : Operand) : evOps P mu ops (⟨dst, .assign x, ty, pos, af, some g⟩ :: rest) ⟨fr, h⟩ K = (gok fr ops (some g) ∧ (gcond fr ops (some g) = true → pureOk P ⟨fr, h⟩ (.assign x)) ∧ evOps P mu ops rest ⟨putO fr dst (.when (gcond fr ops (some g)) (pureD P ⟨fr, h⟩ (.assign x))), h⟩ K) := evg_pure (by intro f args ts e; cases e)
theorem evq_assign (x : Operand) : evQs P ops (⟨dst, .assign x, ty, pos, af, none⟩ :: rest) ⟨fr, h⟩ K = (pureOk P ⟨fr, h⟩ (.assign x) ∧ evQs P ops rest ⟨putO fr dst (pureD P ⟨fr, h⟩ (.assign x)), h⟩ K) := evq_pure (by intro f args ts e; cases e)
theorem evqg_assign (x : Operand) : evQs P ops (⟨dst, .assign x, ty, pos, af, some g⟩ :: rest) ⟨fr, h⟩ K = (gok fr ops (some g) ∧ (gcond fr ops (some g) = true → pureOk P ⟨fr, h⟩ (.assign x)) ∧ evQs P ops rest ⟨putO fr dst (.when (gcond fr ops (some g)) (pureD P ⟨fr, h⟩ (.assign x))), h⟩ K) := evqg_pure (by intro f args ts e; cases e)
theorem evo_pick (c x y : Operand) : evOps P mu ops (⟨dst, .pick c x y, ty, pos, af, none⟩ :: rest) ⟨fr, h⟩ K = (pureOk P ⟨fr, h⟩ (.pick c x y) ∧ evOps P mu ops rest ⟨putO fr dst (pureD P ⟨fr, h⟩ (.pick c x y)), h⟩ K) := evo_pure rfl (by intro f args ts e; cases e)
theorem evg_pick (c x y : Operand) : evOps P mu ops (⟨dst, .pick c x y, ty, pos, af, some g⟩ :: rest) ⟨fr, h⟩ K = (gok fr ops (some g) ∧ (gcond fr ops (some g) = true → pureOk P ⟨fr, h⟩ (.pick c x y)) ∧ evOps P mu ops rest ⟨putO fr dst (.when (gcond fr ops (some g)) (pureD P ⟨fr, h⟩ (.pick c x y))), h⟩ K) := evg_pure (by intro f args ts e; cases e)
theorem evq_pick (c x y : Operand) : evQs P ops (⟨dst, .pick c x y, ty, pos, af, none⟩ :: rest) ⟨fr, h⟩ K = (pureOk P ⟨fr, h⟩ (.pick c x y) ∧ evQs P ops rest ⟨putO fr dst (pureD P ⟨fr, h⟩ (.pick c x y)), h⟩ K) := evq_pure (by intro f args ts e; cases e)
theorem evqg_pick (c x y : Operand) : evQs P ops (⟨dst, .pick c x y, ty, pos, af, some g⟩ :: rest) ⟨fr, h⟩ K = (gok fr ops (some g) ∧ (gcond fr ops (some g) = true → pureOk P ⟨fr, h⟩ (.pick c x y)) ∧ evQs P ops rest ⟨putO fr dst (.when (gcond fr ops (some g)) (pureD P ⟨fr, h⟩ (.pick c x y))), h⟩ K) := evqg_pure (by intro f args ts e; cases e)
theorem evo_load (t : TypeId) (x : Operand) : evOps P mu ops (⟨dst, .load t x, ty, pos, af, none⟩ :: rest) ⟨fr, h⟩ K = (pureOk P ⟨fr, h⟩ (.load t x) ∧ evOps P mu ops rest ⟨putO fr dst (pureD P ⟨fr, h⟩ (.load t x)), h⟩ K) := evo_pure rfl (by intro f args ts e; cases e)
theorem evg_load (t : TypeId) (x : Operand) : evOps P mu ops (⟨dst, .load t x, ty, pos, af, some g⟩ :: rest) ⟨fr, h⟩ K = (gok fr ops (some g) ∧ (gcond fr ops (some g) = true → pureOk P ⟨fr, h⟩ (.load t x)) ∧ evOps P mu ops rest ⟨putO fr dst (.when (gcond fr ops (some g)) (pureD P ⟨fr, h⟩ (.load t x))), h⟩ K) := evg_pure (by intro f args ts e; cases e)
theorem evq_load (t : TypeId) (x : Operand) : evQs P ops (⟨dst, .load t x, ty, pos, af, none⟩ :: rest) ⟨fr, h⟩ K = (pureOk P ⟨fr, h⟩ (.load t x) ∧ evQs P ops rest ⟨putO fr dst (pureD P ⟨fr, h⟩ (.load t x)), h⟩ K) := evq_pure (by intro f args ts e; cases e)
theorem evqg_load (t : TypeId) (x : Operand) : evQs P ops (⟨dst, .load t x, ty, pos, af, some g⟩ :: rest) ⟨fr, h⟩ K = (gok fr ops (some g) ∧ (gcond fr ops (some g) = true → pureOk P ⟨fr, h⟩ (.load t x)) ∧ evQs P ops rest ⟨putO fr dst (.when (gcond fr ops (some g)) (pureD P ⟨fr, h⟩ (.load t x))), h⟩ K) := evqg_pure (by intro f args ts e; cases e)
theorem evo_fieldAddr (s : TypeId) (x : Operand) (f : Nat) : evOps P mu ops (⟨dst, .fieldAddr s x f, ty, pos, af, none⟩ :: rest) ⟨fr, h⟩ K = (pureOk P ⟨fr, h⟩ (.fieldAddr s x f) ∧ evOps P mu ops rest ⟨putO fr dst (pureD P ⟨fr, h⟩ (.fieldAddr s x f)), h⟩ K) := evo_pure rfl (by intro f args ts e; cases e)
theorem evg_fieldAddr (s : TypeId) (x : Operand) (f : Nat) : evOps P mu ops (⟨dst, .fieldAddr s x f, ty, pos, af, some g⟩ :: rest) ⟨fr, h⟩ K = (gok fr ops (some g) ∧ (gcond fr ops (some g) = true → pureOk P ⟨fr, h⟩ (.fieldAddr s x f)) ∧ evOps P mu ops rest ⟨putO fr dst (.when (gcond fr ops (some g)) (pureD P ⟨fr, h⟩ (.fieldAddr s x f))), h⟩ K) := evg_pure (by intro f args ts e; cases e)
theorem evq_fieldAddr (s : TypeId) (x : Operand) (f : Nat) : evQs P ops (⟨dst, .fieldAddr s x f, ty, pos, af, none⟩ :: rest) ⟨fr, h⟩ K = (pureOk P ⟨fr, h⟩ (.fieldAddr s x f) ∧ evQs P ops rest ⟨putO fr dst (pureD P ⟨fr, h⟩ (.fieldAddr s x f)), h⟩ K) := evq_pure (by intro f args ts e; cases e)
theorem evqg_fieldAddr (s : TypeId) (x : Operand) (f : Nat) : evQs P ops (⟨dst, .fieldAddr s x f, ty, pos, af, some g⟩ :: rest) ⟨fr, h⟩ K = (gok fr ops (some g) ∧ (gcond fr ops (some g) = true → pureOk P ⟨fr, h⟩ (.fieldAddr s x f)) ∧ evQs P ops rest ⟨putO fr dst (.when (gcond fr ops (some g)) (pureD P ⟨fr, h⟩ (.fieldAddr s x f))), h⟩ K) := evqg_pure (by intro f args ts e; cases e)
theorem evo_indexAddr (t : TypeId) (x i : Operand) : evOps P mu ops (⟨dst, .indexAddr t x i, ty, pos, af, none⟩ :: rest) ⟨fr, h⟩ K = (pureOk P ⟨fr, h⟩ (.indexAddr t x i) ∧ evOps P mu ops rest ⟨putO fr dst (pureD P ⟨fr, h⟩ (.indexAddr t x i)), h⟩ K) := evo_pure rfl (by intro f args ts e; cases e)
theorem evg_indexAddr (t : TypeId) (x i : Operand) : evOps P mu ops (⟨dst, .indexAddr t x i, ty, pos, af, some g⟩ :: rest) ⟨fr, h⟩ K = (gok fr ops (some g) ∧ (gcond fr ops (some g) = true → pureOk P ⟨fr, h⟩ (.indexAddr t x i)) ∧ evOps P mu ops rest ⟨putO fr dst (.when (gcond fr ops (some g)) (pureD P ⟨fr, h⟩ (.indexAddr t x i))), h⟩ K) := evg_pure (by intro f args ts e; cases e)
theorem evq_indexAddr (t : TypeId) (x i : Operand) : evQs P ops (⟨dst, .indexAddr t x i, ty, pos, af, none⟩ :: rest) ⟨fr, h⟩ K = (pureOk P ⟨fr, h⟩ (.indexAddr t x i) ∧ evQs P ops rest ⟨putO fr dst (pureD P ⟨fr, h⟩ (.indexAddr t x i)), h⟩ K) := evq_pure (by intro f args ts e; cases e)
theorem evqg_indexAddr (t : TypeId) (x i : Operand) : evQs P ops (⟨dst, .indexAddr t x i, ty, pos, af, some g⟩ :: rest) ⟨fr, h⟩ K = (gok fr ops (some g) ∧ (gcond fr ops (some g) = true → pureOk P ⟨fr, h⟩ (.indexAddr t x i)) ∧ evQs P ops rest ⟨putO fr dst (.when (gcond fr ops (some g)) (pureD P ⟨fr, h⟩ (.indexAddr t x i))), h⟩ K) := evqg_pure (by intro f args ts e; cases e)
theorem evo_index (t : TypeId) (x i : Operand) : evOps P mu ops (⟨dst, .index t x i, ty, pos, af, none⟩ :: rest) ⟨fr, h⟩ K = (pureOk P ⟨fr, h⟩ (.index t x i) ∧ evOps P mu ops rest ⟨putO fr dst (pureD P ⟨fr, h⟩ (.index t x i)), h⟩ K) := evo_pure rfl (by intro f args ts e; cases e)
theorem evg_index (t : TypeId) (x i : Operand) : evOps P mu ops (⟨dst, .index t x i, ty, pos, af, some g⟩ :: rest) ⟨fr, h⟩ K = (gok fr ops (some g) ∧ (gcond fr ops (some g) = true → pureOk P ⟨fr, h⟩ (.index t x i)) ∧ evOps P mu ops rest ⟨putO fr dst (.when (gcond fr ops (some g)) (pureD P ⟨fr, h⟩ (.index t x i))), h⟩ K) := evg_pure (by intro f args ts e; cases e)
theorem evq_index (t : TypeId) (x i : Operand) : evQs P ops (⟨dst, .index t x i, ty, pos, af, none⟩ :: rest) ⟨fr, h⟩ K = (pureOk P ⟨fr, h⟩ (.index t x i) ∧ evQs P ops rest ⟨putO fr dst (pureD P ⟨fr, h⟩ (.index t x i)), h⟩ K) := evq_pure (by intro f args ts e; cases e)
theorem evqg_index (t : TypeId) (x i : Operand) : evQs P ops (⟨dst, .index t x i, ty, pos, af, some g⟩ :: rest) ⟨fr, h⟩ K = (gok fr ops (some g) ∧ (gcond fr ops (some g) = true → pureOk P ⟨fr, h⟩ (.index t x i)) ∧ evQs P ops rest ⟨putO fr dst (.when (gcond fr ops (some g)) (pureD P ⟨fr, h⟩ (.index t x i))), h⟩ K) := evqg_pure (by intro f args ts e; cases e)
theorem evo_binOp (b : BinOp) (t : TypeId) (x y : Operand) (u : TypeId) : evOps P mu ops (⟨dst, .binOp b t x y u, ty, pos, af, none⟩ :: rest) ⟨fr, h⟩ K = (pureOk P ⟨fr, h⟩ (.binOp b t x y u) ∧ evOps P mu ops rest ⟨putO fr dst (pureD P ⟨fr, h⟩ (.binOp b t x y u)), h⟩ K) := evo_pure rfl (by intro f args ts e; cases e)
theorem evg_binOp (b : BinOp) (t : TypeId) (x y : Operand) (u : TypeId) : evOps P mu ops (⟨dst, .binOp b t x y u, ty, pos, af, some g⟩ :: rest) ⟨fr, h⟩ K = (gok fr ops (some g) ∧ (gcond fr ops (some g) = true → pureOk P ⟨fr, h⟩ (.binOp b t x y u)) ∧ evOps P mu ops rest ⟨putO fr dst (.when (gcond fr ops (some g)) (pureD P ⟨fr, h⟩ (.binOp b t x y u))), h⟩ K) := evg_pure (by intro f args ts e; cases e)
theorem evq_binOp (b : BinOp) (t : TypeId) (x y : Operand) (u : TypeId) : evQs P ops (⟨dst, .binOp b t x y u, ty, pos, af, none⟩ :: rest) ⟨fr, h⟩ K = (pureOk P ⟨fr, h⟩ (.binOp b t x y u) ∧ evQs P ops rest ⟨putO fr dst (pureD P ⟨fr, h⟩ (.binOp b t x y u)), h⟩ K) := evq_pure (by intro f args ts e; cases e)
theorem evqg_binOp (b : BinOp) (t : TypeId) (x y : Operand) (u : TypeId) : evQs P ops (⟨dst, .binOp b t x y u, ty, pos, af, some g⟩ :: rest) ⟨fr, h⟩ K = (gok fr ops (some g) ∧ (gcond fr ops (some g) = true → pureOk P ⟨fr, h⟩ (.binOp b t x y u)) ∧ evQs P ops rest ⟨putO fr dst (.when (gcond fr ops (some g)) (pureD P ⟨fr, h⟩ (.binOp b t x y u))), h⟩ K) := evqg_pure (by intro f args ts e; cases e)
theorem evo_unOp (b : UnOp) (t : TypeId) (x : Operand) : evOps P mu ops (⟨dst, .unOp b t x, ty, pos, af, none⟩ :: rest) ⟨fr, h⟩ K = (pureOk P ⟨fr, h⟩ (.unOp b t x) ∧ evOps P mu ops rest ⟨putO fr dst (pureD P ⟨fr, h⟩ (.unOp b t x)), h⟩ K) := evo_pure rfl (by intro f args ts e; cases e)
theorem evg_unOp (b : UnOp) (t : TypeId) (x : Operand) : evOps P mu ops (⟨dst, .unOp b t x, ty, pos, af, some g⟩ :: rest) ⟨fr, h⟩ K = (gok fr ops (some g) ∧ (gcond fr ops (some g) = true → pureOk P ⟨fr, h⟩ (.unOp b t x)) ∧ evOps P mu ops rest ⟨putO fr dst (.when (gcond fr ops (some g)) (pureD P ⟨fr, h⟩ (.unOp b t x))), h⟩ K) := evg_pure (by intro f args ts e; cases e)
theorem evq_unOp (b : UnOp) (t : TypeId) (x : Operand) : evQs P ops (⟨dst, .unOp b t x, ty, pos, af, none⟩ :: rest) ⟨fr, h⟩ K = (pureOk P ⟨fr, h⟩ (.unOp b t x) ∧ evQs P ops rest ⟨putO fr dst (pureD P ⟨fr, h⟩ (.unOp b t x)), h⟩ K) := evq_pure (by intro f args ts e; cases e)
theorem evqg_unOp (b : UnOp) (t : TypeId) (x : Operand) : evQs P ops (⟨dst, .unOp b t x, ty, pos, af, some g⟩ :: rest) ⟨fr, h⟩ K = (gok fr ops (some g) ∧ (gcond fr ops (some g) = true → pureOk P ⟨fr, h⟩ (.unOp b t x)) ∧ evQs P ops rest ⟨putO fr dst (.when (gcond fr ops (some g)) (pureD P ⟨fr, h⟩ (.unOp b t x))), h⟩ K) := evqg_pure (by intro f args ts e; cases e)
theorem evo_extract (x : Operand) (i : Nat) : evOps P mu ops (⟨dst, .extract x i, ty, pos, af, none⟩ :: rest) ⟨fr, h⟩ K = (pureOk P ⟨fr, h⟩ (.extract x i) ∧ evOps P mu ops rest ⟨putO fr dst (pureD P ⟨fr, h⟩ (.extract x i)), h⟩ K) := evo_pure rfl (by intro f args ts e; cases e)
theorem evg_extract (x : Operand) (i : Nat) : evOps P mu ops (⟨dst, .extract x i, ty, pos, af, some g⟩ :: rest) ⟨fr, h⟩ K = (gok fr ops (some g) ∧ (gcond fr ops (some g) = true → pureOk P ⟨fr, h⟩ (.extract x i)) ∧ evOps P mu ops rest ⟨putO fr dst (.when (gcond fr ops (some g)) (pureD P ⟨fr, h⟩ (.extract x i))), h⟩ K) := evg_pure (by intro f args ts e; cases e)
theorem evq_extract (x : Operand) (i : Nat) : evQs P ops (⟨dst, .extract x i, ty, pos, af, none⟩ :: rest) ⟨fr, h⟩ K = (pureOk P ⟨fr, h⟩ (.extract x i) ∧ evQs P ops rest ⟨putO fr dst (pureD P ⟨fr, h⟩ (.extract x i)), h⟩ K) := evq_pure (by intro f args ts e; cases e)
theorem evqg_extract (x : Operand) (i : Nat) : evQs P ops (⟨dst, .extract x i, ty, pos, af, some g⟩ :: rest) ⟨fr, h⟩ K = (gok fr ops (some g) ∧ (gcond fr ops (some g) = true → pureOk P ⟨fr, h⟩ (.extract x i)) ∧ evQs P ops rest ⟨putO fr dst (.when (gcond fr ops (some g)) (pureD P ⟨fr, h⟩ (.extract x i))), h⟩ K) := evqg_pure (by intro f args ts e; cases e)
theorem evo_slice (t : TypeId) (x : Operand) (l h' m : Option Operand) : evOps P mu ops (⟨dst, .slice t x l h' m, ty, pos, af, none⟩ :: rest) ⟨fr, h⟩ K = (pureOk P ⟨fr, h⟩ (.slice t x l h' m) ∧ evOps P mu ops rest ⟨putO fr dst (pureD P ⟨fr, h⟩ (.slice t x l h' m)), h⟩ K) := evo_pure rfl (by intro f args ts e; cases e)
theorem evg_slice (t : TypeId) (x : Operand) (l h' m : Option Operand) : evOps P mu ops (⟨dst, .slice t x l h' m, ty, pos, af, some g⟩ :: rest) ⟨fr, h⟩ K = (gok fr ops (some g) ∧ (gcond fr ops (some g) = true → pureOk P ⟨fr, h⟩ (.slice t x l h' m)) ∧ evOps P mu ops rest ⟨putO fr dst (.when (gcond fr ops (some g)) (pureD P ⟨fr, h⟩ (.slice t x l h' m))), h⟩ K) := evg_pure (by intro f args ts e; cases e)
theorem evq_slice (t : TypeId) (x : Operand) (l h' m : Option Operand) : evQs P ops (⟨dst, .slice t x l h' m, ty, pos, af, none⟩ :: rest) ⟨fr, h⟩ K = (pureOk P ⟨fr, h⟩ (.slice t x l h' m) ∧ evQs P ops rest ⟨putO fr dst (pureD P ⟨fr, h⟩ (.slice t x l h' m)), h⟩ K) := evq_pure (by intro f args ts e; cases e)
theorem evqg_slice (t : TypeId) (x : Operand) (l h' m : Option Operand) : evQs P ops (⟨dst, .slice t x l h' m, ty, pos, af, some g⟩ :: rest) ⟨fr, h⟩ K = (gok fr ops (some g) ∧ (gcond fr ops (some g) = true → pureOk P ⟨fr, h⟩ (.slice t x l h' m)) ∧ evQs P ops rest ⟨putO fr dst (.when (gcond fr ops (some g)) (pureD P ⟨fr, h⟩ (.slice t x l h' m))), h⟩ K) := evqg_pure (by intro f args ts e; cases e)
theorem evo_nilCheck (x : Operand) : evOps P mu ops (⟨dst, .nilCheck x, ty, pos, af, none⟩ :: rest) ⟨fr, h⟩ K = (pureOk P ⟨fr, h⟩ (.nilCheck x) ∧ evOps P mu ops rest ⟨putO fr dst (pureD P ⟨fr, h⟩ (.nilCheck x)), h⟩ K) := evo_pure rfl (by intro f args ts e; cases e)
theorem evg_nilCheck (x : Operand) : evOps P mu ops (⟨dst, .nilCheck x, ty, pos, af, some g⟩ :: rest) ⟨fr, h⟩ K = (gok fr ops (some g) ∧ (gcond fr ops (some g) = true → pureOk P ⟨fr, h⟩ (.nilCheck x)) ∧ evOps P mu ops rest ⟨putO fr dst (.when (gcond fr ops (some g)) (pureD P ⟨fr, h⟩ (.nilCheck x))), h⟩ K) := evg_pure (by intro f args ts e; cases e)
theorem evq_nilCheck (x : Operand) : evQs P ops (⟨dst, .nilCheck x, ty, pos, af, none⟩ :: rest) ⟨fr, h⟩ K = (pureOk P ⟨fr, h⟩ (.nilCheck x) ∧ evQs P ops rest ⟨putO fr dst (pureD P ⟨fr, h⟩ (.nilCheck x)), h⟩ K) := evq_pure (by intro f args ts e; cases e)
theorem evqg_nilCheck (x : Operand) : evQs P ops (⟨dst, .nilCheck x, ty, pos, af, some g⟩ :: rest) ⟨fr, h⟩ K = (gok fr ops (some g) ∧ (gcond fr ops (some g) = true → pureOk P ⟨fr, h⟩ (.nilCheck x)) ∧ evQs P ops rest ⟨putO fr dst (.when (gcond fr ops (some g)) (pureD P ⟨fr, h⟩ (.nilCheck x))), h⟩ K) := evqg_pure (by intro f args ts e; cases e)
theorem evo_makeFunc (f : Fn) (a c : Array Operand) : evOps P mu ops (⟨dst, .makeFunc f a c, ty, pos, af, none⟩ :: rest) ⟨fr, h⟩ K = (pureOk P ⟨fr, h⟩ (.makeFunc f a c) ∧ evOps P mu ops rest ⟨putO fr dst (pureD P ⟨fr, h⟩ (.makeFunc f a c)), h⟩ K) := evo_pure rfl (by intro f args ts e; cases e)
theorem evg_makeFunc (f : Fn) (a c : Array Operand) : evOps P mu ops (⟨dst, .makeFunc f a c, ty, pos, af, some g⟩ :: rest) ⟨fr, h⟩ K = (gok fr ops (some g) ∧ (gcond fr ops (some g) = true → pureOk P ⟨fr, h⟩ (.makeFunc f a c)) ∧ evOps P mu ops rest ⟨putO fr dst (.when (gcond fr ops (some g)) (pureD P ⟨fr, h⟩ (.makeFunc f a c))), h⟩ K) := evg_pure (by intro f args ts e; cases e)
theorem evq_makeFunc (f : Fn) (a c : Array Operand) : evQs P ops (⟨dst, .makeFunc f a c, ty, pos, af, none⟩ :: rest) ⟨fr, h⟩ K = (pureOk P ⟨fr, h⟩ (.makeFunc f a c) ∧ evQs P ops rest ⟨putO fr dst (pureD P ⟨fr, h⟩ (.makeFunc f a c)), h⟩ K) := evq_pure (by intro f args ts e; cases e)
theorem evqg_makeFunc (f : Fn) (a c : Array Operand) : evQs P ops (⟨dst, .makeFunc f a c, ty, pos, af, some g⟩ :: rest) ⟨fr, h⟩ K = (gok fr ops (some g) ∧ (gcond fr ops (some g) = true → pureOk P ⟨fr, h⟩ (.makeFunc f a c)) ∧ evQs P ops rest ⟨putO fr dst (.when (gcond fr ops (some g)) (pureD P ⟨fr, h⟩ (.makeFunc f a c))), h⟩ K) := evqg_pure (by intro f args ts e; cases e)
theorem evo_build (t : TypeId) (p : Array (Nat × Operand)) : evOps P mu ops (⟨dst, .build t p, ty, pos, af, none⟩ :: rest) ⟨fr, h⟩ K = (pureOk P ⟨fr, h⟩ (.build t p) ∧ evOps P mu ops rest ⟨putO fr dst (pureD P ⟨fr, h⟩ (.build t p)), h⟩ K) := evo_pure rfl (by intro f args ts e; cases e)
theorem evg_build (t : TypeId) (p : Array (Nat × Operand)) : evOps P mu ops (⟨dst, .build t p, ty, pos, af, some g⟩ :: rest) ⟨fr, h⟩ K = (gok fr ops (some g) ∧ (gcond fr ops (some g) = true → pureOk P ⟨fr, h⟩ (.build t p)) ∧ evOps P mu ops rest ⟨putO fr dst (.when (gcond fr ops (some g)) (pureD P ⟨fr, h⟩ (.build t p))), h⟩ K) := evg_pure (by intro f args ts e; cases e)
theorem evq_build (t : TypeId) (p : Array (Nat × Operand)) : evQs P ops (⟨dst, .build t p, ty, pos, af, none⟩ :: rest) ⟨fr, h⟩ K = (pureOk P ⟨fr, h⟩ (.build t p) ∧ evQs P ops rest ⟨putO fr dst (pureD P ⟨fr, h⟩ (.build t p)), h⟩ K) := evq_pure (by intro f args ts e; cases e)
theorem evqg_build (t : TypeId) (p : Array (Nat × Operand)) : evQs P ops (⟨dst, .build t p, ty, pos, af, some g⟩ :: rest) ⟨fr, h⟩ K = (gok fr ops (some g) ∧ (gcond fr ops (some g) = true → pureOk P ⟨fr, h⟩ (.build t p)) ∧ evQs P ops rest ⟨putO fr dst (.when (gcond fr ops (some g)) (pureD P ⟨fr, h⟩ (.build t p))), h⟩ K) := evqg_pure (by intro f args ts e; cases e)
theorem evo_convert (s t : TypeId) (x : Operand) : evOps P mu ops (⟨dst, .convert s t x, ty, pos, af, none⟩ :: rest) ⟨fr, h⟩ K = (pureOk P ⟨fr, h⟩ (.convert s t x) ∧ evOps P mu ops rest ⟨putO fr dst (pureD P ⟨fr, h⟩ (.convert s t x)), h⟩ K) := evo_pure rfl (by intro f args ts e; cases e)
theorem evg_convert (s t : TypeId) (x : Operand) : evOps P mu ops (⟨dst, .convert s t x, ty, pos, af, some g⟩ :: rest) ⟨fr, h⟩ K = (gok fr ops (some g) ∧ (gcond fr ops (some g) = true → pureOk P ⟨fr, h⟩ (.convert s t x)) ∧ evOps P mu ops rest ⟨putO fr dst (.when (gcond fr ops (some g)) (pureD P ⟨fr, h⟩ (.convert s t x))), h⟩ K) := evg_pure (by intro f args ts e; cases e)
theorem evq_convert (s t : TypeId) (x : Operand) : evQs P ops (⟨dst, .convert s t x, ty, pos, af, none⟩ :: rest) ⟨fr, h⟩ K = (pureOk P ⟨fr, h⟩ (.convert s t x) ∧ evQs P ops rest ⟨putO fr dst (pureD P ⟨fr, h⟩ (.convert s t x)), h⟩ K) := evq_pure (by intro f args ts e; cases e)
theorem evqg_convert (s t : TypeId) (x : Operand) : evQs P ops (⟨dst, .convert s t x, ty, pos, af, some g⟩ :: rest) ⟨fr, h⟩ K = (gok fr ops (some g) ∧ (gcond fr ops (some g) = true → pureOk P ⟨fr, h⟩ (.convert s t x)) ∧ evQs P ops rest ⟨putO fr dst (.when (gcond fr ops (some g)) (pureD P ⟨fr, h⟩ (.convert s t x))), h⟩ K) := evqg_pure (by intro f args ts e; cases e)
theorem evo_len (a : Array Operand) (ts : Array TypeId) : evOps P mu ops (⟨dst, .call ⟨.builtin .len, a, ts⟩, ty, pos, af, none⟩ :: rest) ⟨fr, h⟩ K = (pureOk P ⟨fr, h⟩ (.call ⟨.builtin .len, a, ts⟩) ∧ evOps P mu ops rest ⟨putO fr dst (pureD P ⟨fr, h⟩ (.call ⟨.builtin .len, a, ts⟩)), h⟩ K) := evo_pure rfl (by intro f args ts e; cases e)
theorem evg_len (a : Array Operand) (ts : Array TypeId) : evOps P mu ops (⟨dst, .call ⟨.builtin .len, a, ts⟩, ty, pos, af, some g⟩ :: rest) ⟨fr, h⟩ K = (gok fr ops (some g) ∧ (gcond fr ops (some g) = true → pureOk P ⟨fr, h⟩ (.call ⟨.builtin .len, a, ts⟩)) ∧ evOps P mu ops rest ⟨putO fr dst (.when (gcond fr ops (some g)) (pureD P ⟨fr, h⟩ (.call ⟨.builtin .len, a, ts⟩))), h⟩ K) := evg_pure (by intro f args ts e; cases e)
theorem evq_len (a : Array Operand) (ts : Array TypeId) : evQs P ops (⟨dst, .call ⟨.builtin .len, a, ts⟩, ty, pos, af, none⟩ :: rest) ⟨fr, h⟩ K = (pureOk P ⟨fr, h⟩ (.call ⟨.builtin .len, a, ts⟩) ∧ evQs P ops rest ⟨putO fr dst (pureD P ⟨fr, h⟩ (.call ⟨.builtin .len, a, ts⟩)), h⟩ K) := evq_pure (by intro f args ts e; cases e)
theorem evqg_len (a : Array Operand) (ts : Array TypeId) : evQs P ops (⟨dst, .call ⟨.builtin .len, a, ts⟩, ty, pos, af, some g⟩ :: rest) ⟨fr, h⟩ K = (gok fr ops (some g) ∧ (gcond fr ops (some g) = true → pureOk P ⟨fr, h⟩ (.call ⟨.builtin .len, a, ts⟩)) ∧ evQs P ops rest ⟨putO fr dst (.when (gcond fr ops (some g)) (pureD P ⟨fr, h⟩ (.call ⟨.builtin .len, a, ts⟩))), h⟩ K) := evqg_pure (by intro f args ts e; cases e)
theorem evo_min (a : Array Operand) (ts : Array TypeId) : evOps P mu ops (⟨dst, .call ⟨.builtin .min, a, ts⟩, ty, pos, af, none⟩ :: rest) ⟨fr, h⟩ K = (pureOk P ⟨fr, h⟩ (.call ⟨.builtin .min, a, ts⟩) ∧ evOps P mu ops rest ⟨putO fr dst (pureD P ⟨fr, h⟩ (.call ⟨.builtin .min, a, ts⟩)), h⟩ K) := evo_pure rfl (by intro f args ts e; cases e)
theorem evg_min (a : Array Operand) (ts : Array TypeId) : evOps P mu ops (⟨dst, .call ⟨.builtin .min, a, ts⟩, ty, pos, af, some g⟩ :: rest) ⟨fr, h⟩ K = (gok fr ops (some g) ∧ (gcond fr ops (some g) = true → pureOk P ⟨fr, h⟩ (.call ⟨.builtin .min, a, ts⟩)) ∧ evOps P mu ops rest ⟨putO fr dst (.when (gcond fr ops (some g)) (pureD P ⟨fr, h⟩ (.call ⟨.builtin .min, a, ts⟩))), h⟩ K) := evg_pure (by intro f args ts e; cases e)
theorem evq_min (a : Array Operand) (ts : Array TypeId) : evQs P ops (⟨dst, .call ⟨.builtin .min, a, ts⟩, ty, pos, af, none⟩ :: rest) ⟨fr, h⟩ K = (pureOk P ⟨fr, h⟩ (.call ⟨.builtin .min, a, ts⟩) ∧ evQs P ops rest ⟨putO fr dst (pureD P ⟨fr, h⟩ (.call ⟨.builtin .min, a, ts⟩)), h⟩ K) := evq_pure (by intro f args ts e; cases e)
theorem evqg_min (a : Array Operand) (ts : Array TypeId) : evQs P ops (⟨dst, .call ⟨.builtin .min, a, ts⟩, ty, pos, af, some g⟩ :: rest) ⟨fr, h⟩ K = (gok fr ops (some g) ∧ (gcond fr ops (some g) = true → pureOk P ⟨fr, h⟩ (.call ⟨.builtin .min, a, ts⟩)) ∧ evQs P ops rest ⟨putO fr dst (.when (gcond fr ops (some g)) (pureD P ⟨fr, h⟩ (.call ⟨.builtin .min, a, ts⟩))), h⟩ K) := evqg_pure (by intro f args ts e; cases e)
theorem evo_max (a : Array Operand) (ts : Array TypeId) : evOps P mu ops (⟨dst, .call ⟨.builtin .max, a, ts⟩, ty, pos, af, none⟩ :: rest) ⟨fr, h⟩ K = (pureOk P ⟨fr, h⟩ (.call ⟨.builtin .max, a, ts⟩) ∧ evOps P mu ops rest ⟨putO fr dst (pureD P ⟨fr, h⟩ (.call ⟨.builtin .max, a, ts⟩)), h⟩ K) := evo_pure rfl (by intro f args ts e; cases e)
theorem evg_max (a : Array Operand) (ts : Array TypeId) : evOps P mu ops (⟨dst, .call ⟨.builtin .max, a, ts⟩, ty, pos, af, some g⟩ :: rest) ⟨fr, h⟩ K = (gok fr ops (some g) ∧ (gcond fr ops (some g) = true → pureOk P ⟨fr, h⟩ (.call ⟨.builtin .max, a, ts⟩)) ∧ evOps P mu ops rest ⟨putO fr dst (.when (gcond fr ops (some g)) (pureD P ⟨fr, h⟩ (.call ⟨.builtin .max, a, ts⟩))), h⟩ K) := evg_pure (by intro f args ts e; cases e)
theorem evq_max (a : Array Operand) (ts : Array TypeId) : evQs P ops (⟨dst, .call ⟨.builtin .max, a, ts⟩, ty, pos, af, none⟩ :: rest) ⟨fr, h⟩ K = (pureOk P ⟨fr, h⟩ (.call ⟨.builtin .max, a, ts⟩) ∧ evQs P ops rest ⟨putO fr dst (pureD P ⟨fr, h⟩ (.call ⟨.builtin .max, a, ts⟩)), h⟩ K) := evq_pure (by intro f args ts e; cases e)
theorem evqg_max (a : Array Operand) (ts : Array TypeId) : evQs P ops (⟨dst, .call ⟨.builtin .max, a, ts⟩, ty, pos, af, some g⟩ :: rest) ⟨fr, h⟩ K = (gok fr ops (some g) ∧ (gcond fr ops (some g) = true → pureOk P ⟨fr, h⟩ (.call ⟨.builtin .max, a, ts⟩)) ∧ evQs P ops rest ⟨putO fr dst (.when (gcond fr ops (some g)) (pureD P ⟨fr, h⟩ (.call ⟨.builtin .max, a, ts⟩))), h⟩ K) := evqg_pure (by intro f args ts e; cases e)
end
end Go.Av

/- The laws for evaluating, marked as one simp set. -/
namespace Go.Av

attribute [push_cast] ev_skip ev_label ev_region ev_draw ev_seq ev_cond ev_block ev_exit ev_ret then_normal then_exit then_ret block_normal block_exit block_ret fin_normal
  fin_ret evo_nil evq_nil evo_call evg_call evq_call evqg_call evo_alloc evo_box evo_store evo_bs evo_append app_full_st app_buf_st evo_move evg_move
  evq_move evqg_move evo_assign evg_assign evq_assign evqg_assign evo_pick evg_pick evq_pick evqg_pick evo_load evg_load evq_load evqg_load
  evo_fieldAddr evg_fieldAddr evq_fieldAddr evqg_fieldAddr evo_indexAddr evg_indexAddr evq_indexAddr evqg_indexAddr evo_index evg_index evq_index
  evqg_index evo_binOp evg_binOp evq_binOp evqg_binOp evo_unOp evg_unOp evq_unOp evqg_unOp evo_extract evg_extract evq_extract evqg_extract evo_slice
  evg_slice evq_slice evqg_slice evo_nilCheck evg_nilCheck evq_nilCheck evqg_nilCheck evo_makeFunc evg_makeFunc evq_makeFunc evqg_makeFunc evo_build
  evg_build evq_build evqg_build evo_convert evg_convert evq_convert evqg_convert evo_len evg_len evq_len evqg_len evo_min evg_min evq_min evqg_min
  evo_max evg_max evq_max evqg_max muHas gok gcond gval gslot wrapG pureOk pureD builtinD builtinOk lenD lenOk minD maxD opd constD ofVal vl un vc ok1
  okO putO put binD binOk unD unOk extD extOk indexD indexOk loadD loadOk fieldD fieldOk offAt idxD idxOk sliceD sliceOk bndOk bOk loOf hiOf tokOf convD
  convOk kindInt isInt isBool isStr isPtr isPtr' isFn isRef isRow isBuf isAg isStruct isSliceK isArrK isStrK isIntK isBoolK solid cell1 iof kof bof sof
  rowOf ptrOf fnId fnCaps D.cells storeOk storeH splice zeroD bsOk allOk1 appOk flat_nil flat_cons frOf frL resD resV resOk List.lookup wk_refl wk_junk
  wk_bool wk_int wk_str wk_slice_no wk_slice wk_agg wk_tup WkL finS_gives fw_int fw_bool fw_str fw_slice fw_ptr fw_nilptr fw_nilif fw_agg fw_tup fw_vec
  FWL mkOk evo_make back_app back_refl ob_app0 ob_app ob_zero ob_succ set_app0 set_app allSz_int allSz_str allSz_nil allSz_cons allSz_append getD_ints
  getD_strs cl_int cl_bool cl_str cl_no cl_full cl_buf cl_vec cl_ptr cl_vptr cl_nilptr cl_nilfn cl_nilif cl_junk cl_agg cl_tup cl_fn cl_iface
  Nat.zero_add Nat.add_zero Nat.mul_one Nat.zero_mul Nat.one_mul Int.toNat_natCast Int.toNat_zero if_false if_true Bool.false_eq_true Bool.true_eq_false
  Bool.true_and Bool.and_true Bool.false_and Bool.and_false Bool.true_or Bool.or_true Bool.or_false Bool.false_or Bool.not_true Bool.not_false cond_true
  cond_false beq_self_eq_true beq_true beq_false Bool.cond_false_right Bool.cond_true_left Bool.not_not List.append_eq List.map_cons List.map_nil
  List.append_assoc List.cons_append List.nil_append List.append_nil List.length_cons List.length_nil List.length_append List.length_map
  List.length_take List.length_drop List.getElem?_cons_succ List.getElem?_cons_zero List.getElem?_toArray List.getD_cons_zero List.getD_cons_succ
  List.getD_nil List.take_succ_cons List.take_zero List.take_nil List.drop_succ_cons List.drop_zero List.drop_nil List.headD_cons List.headD_nil
  List.set_cons_zero List.set_cons_succ List.isEmpty_cons List.isEmpty_nil List.mem_cons List.not_mem_nil List.mem_singleton List.all_cons List.all_nil
  Option.bind_some Option.isSome_some Option.map_some Option.map_none Option.getD_some Option.getD_none true_and and_true false_and and_false
  true_implies false_implies implies_true imp_self forall_const or_false false_or forall_eq_or_imp forall_eq ne_eq not_false_eq_true not_true_eq_false
  exists_const and_self drop_map take_map List.take_length Nat.min_self Nat.sub_zero Nat.lt_add_one natCast0 decide_eq_true_eq decide_eq_false_iff_not
  Bool.not_eq_true Bool.and_eq_true Bool.or_eq_true Bool.or_eq_false_iff Bool.and_eq_false_imp Bool.not_eq_eq_eq_not Int.not_lt Int.not_le true_or
  or_true eq_self

end Go.Av

/- Arguments as a statement reads them, seen as data of the engine. -/
namespace Go.Av
open Go.WideShapes
set_option linter.unusedVariables false

theorem own_nil (b o : Nat) : ¬ own [] [] b o := by
  rintro ⟨r, h, _⟩
  simp at h

/-- What is asked of a measure of read data. -/
structure Bulk {H : Type} (B : DataW H → Nat) (BL : List (DataW H) → Nat) : Prop where
  str : ∀ s, s.length ≤ B (.lit (.string s))
  sl : ∀ e s, BL e + BL s + 1 ≤ B (.slice e s)
  ag : ∀ p, BL p + 1 ≤ B (.agg p)
  one : ∀ d, 1 ≤ B d
  cons : ∀ d l, BL (d :: l) = B d + BL l

theorem Bulk.mem {H : Type} {B : DataW H → Nat} {BL : List (DataW H) → Nat} (K : Bulk B BL) {d : DataW H} {l : List (DataW H)} (h : d ∈ l) : B d ≤ BL l := by
  induction l with
  | nil => cases h
  | cons x r ih =>
    rw [K.cons]
    rcases List.mem_cons.1 h with e | e
    · subst e; omega
    · have := ih e; omega

theorem Bulk.len {H : Type} {B : DataW H → Nat} {BL : List (DataW H) → Nat} (K : Bulk B BL) (l : List (DataW H)) : l.length ≤ BL l := by
  induction l with
  | nil => simp
  | cons x r ih =>
    have := K.one x
    rw [K.cons, List.length_cons]
    omega

/-- Every reading of a value of type t gives cells that R tells of. -/
def IsT (P : Program) (t : TypeId) (R : List D → Prop) : Prop :=
  ∀ (H : Type) (enc : TypeId × Value → H) (w : World) (base : Nat) (sp : Nat → Bool) (held : Bool) (fuel : Nat) (cs : List Value) (x : DataW H × List MemPlace) (B : DataW H → Nat) (BL : List (DataW H) → Nat),
    Bulk B BL → DataW.trod enc P w base sp held fuel t cs = some x → B x.1 ≤ lenMax → ∃ ds, R ds ∧ RepL w (own [] []) [] [] ds cs

def RInt (k : IntKind) (ds : List D) : Prop := ∃ n, (k.min ≤ n ∧ n ≤ k.max) ∧ ds = [.int k n]
def RBool (ds : List D) : Prop := ∃ b, ds = [.bool b]
def RStr (ds : List D) : Prop := ∃ s, ds = [.str s]
def mkE (ag : Bool) (cs : List D) : D := if ag then .agg cs else cs.headD .junk
def RSlice (ag : Bool) (R : List D → Prop) (ds : List D) : Prop := ∃ ess : List (List D), (∀ es, es ∈ ess → R es) ∧ ess.length ≤ lenMax ∧ ds = [.slice (ess.map (mkE ag)) .no]
def RCat : List (List D → Prop) → List D → Prop
  | [], ds => ds = []
  | R :: Rs, ds => ∃ a b, R a ∧ RCat Rs b ∧ ds = a ++ b

section
variable {P : Program} {t : TypeId}

theorem repL_one {w : World} {ow : Nat → Nat → Prop} {σ : Sg} {h : Hp} {d : D} {v : Value} (H : Rep w ow σ h d v) : RepL w ow σ h [d] [v] := .cons H .nil

theorem isT_int {k : IntKind} (ht : P.underlying t = some (.int k)) : IsT P t (RInt k) := by
  intro H enc w base sp held fuel cs x B BL K h hb
  obtain ⟨n, rfl, rfl, hw⟩ := DataW.trod_int ht h
  simp only [Lit.wf, Bool.and_eq_true, decide_eq_true_eq] at hw
  exact ⟨_, ⟨n, hw, rfl⟩, repL_one (.int k n)⟩
theorem isT_bool (ht : P.underlying t = some .bool) : IsT P t RBool := by
  intro H enc w base sp held fuel cs x B BL K h hb
  obtain ⟨b, rfl, rfl⟩ := DataW.trod_bool ht h
  exact ⟨_, ⟨b, rfl⟩, repL_one (.bool b)⟩
theorem isT_str (ht : P.underlying t = some .string) : IsT P t RStr := by
  intro H enc w base sp held fuel cs x B BL K h hb
  obtain ⟨s, rfl, rfl, hw⟩ := DataW.trod_string ht h
  refine ⟨_, ⟨s.data.toList, rfl⟩, repL_one ?_⟩
  have := Rep.str (w := w) (ow := own [] []) (σ := []) (h := []) s.data.toList (Nat.le_trans (K.str _) hb)
  simpa using this

theorem flat_ess {ag : Bool} {sz : Nat} : ∀ {ess : List (List D)}, (∀ es, es ∈ ess → es.length = sz ∧ (ag = false → ∃ d, es = [d] ∧ d.cells = [d])) → flat (ess.map (mkE ag)) = ess.flatten
  | [], _ => rfl
  | es :: ess, h => by
    rw [List.map_cons, flat_cons, flat_ess (fun e he => h e (List.mem_cons_of_mem _ he)), List.flatten_cons]
    congr 1
    cases ag with
    | true => rfl
    | false =>
      obtain ⟨d, rfl, hd⟩ := (h es List.mem_cons_self).2 rfl
      exact hd

theorem flatten_get {α : Type} {sz : Nat} (hs : 0 < sz) : ∀ {ess : List (List α)} (hl : ∀ es, es ∈ ess → es.length = sz) {k : Nat}, ess.flatten[k]? = (ess[k / sz]?).bind fun es => es[k % sz]?
  | [], _, k => by simp
  | es :: ess, hl, k => by
    have h0 := hl es List.mem_cons_self
    rw [List.flatten_cons]
    by_cases hk : k < sz
    · rw [List.getElem?_append_left (by omega), Nat.div_eq_of_lt hk, Nat.mod_eq_of_lt hk]
      rfl
    · rw [List.getElem?_append_right (by omega), h0, flatten_get hs (fun e he => hl e (List.mem_cons_of_mem _ he))]
      obtain ⟨j, rfl⟩ : ∃ j, k = j + sz := ⟨k - sz, by omega⟩
      rw [Nat.add_sub_cancel, Nat.add_div_right _ hs, Nat.add_mod_right]
      rfl

theorem isT_slice {e : TypeId} {sz : Nat} {ag : Bool} {R : List D → Prop} (ht : P.underlying t = some (.slice e)) (hc : P.cellsOf e = sz) (hs : 0 < sz) (hR : IsT P e R)
    (hag : ag = false → ∀ es, R es → ∃ d, es = [d] ∧ d.cells = [d]) : IsT P t (RSlice ag R) := by
  intro H enc w base sp held fuel cs x B BL K h hb
  rcases DataW.trod_slice ht h with ⟨rfl, rfl⟩ | ⟨a, len, cap, elems, rest, n, rfl, rfl, rfl, h1, h2, h3, h4, h5, _, _⟩
  · refine ⟨_, ⟨[], by simp, by simp, rfl⟩, repL_one ?_⟩
    exact .slice [] .no none 0 (fun _ => undef) (by simp) (by simp) (fun e => nomatch e) (fun _ _ e => nomatch e) (fun k hk => by simp [flat] at hk) (fun k hk => by simp [flat] at hk)
  · have hbe : BL (elems.map (·.1)) ≤ lenMax := by
      have := K.sl (elems.map (·.1)) (rest.map (·.1))
      simp only at hb
      omega
    have hlen : len ≤ lenMax := by
      have := K.len (elems.map (·.1))
      simp only [List.length_map] at this
      omega
    -- each element
    have key : ∀ i, ∃ es vs, i < len → R es ∧ RepL w (own [] []) [] [] es vs ∧ vs.length = sz ∧ ∀ j, j < sz → w.cell? ((a.add (i * sz)).add j) = vs[j]? := by
      intro i
      by_cases hi : i < len
      · have h6 := h5 i hi
        rw [List.getElem?_eq_getElem (by omega)] at h6
        rw [hc] at h6
        obtain ⟨vs, g1, g2⟩ := Option.bind_eq_some_iff.1 h6
        obtain ⟨_, g3, g4⟩ := World.cells?_some g1
        have hB : B (elems[i]'(by omega)).1 ≤ lenMax := Nat.le_trans (K.mem (List.mem_map.2 ⟨_, List.getElem_mem (by omega), rfl⟩)) hbe
        obtain ⟨es, r1, r2⟩ := hR H enc w base sp held n vs _ B BL K g2 hB
        exact ⟨es, vs, fun _ => ⟨r1, r2, g3, g4⟩⟩
      · exact ⟨[], [], fun h => absurd h hi⟩
    let es : Nat → List D := fun i => (key i).choose
    let vs : Nat → List Value := fun i => (key i).choose_spec.choose
    have hk : ∀ i, i < len → R (es i) ∧ RepL w (own [] []) [] [] (es i) (vs i) ∧ (vs i).length = sz ∧ ∀ j, j < sz → w.cell? ((a.add (i * sz)).add j) = (vs i)[j]? := fun i => (key i).choose_spec.choose_spec
    let ess := (List.range len).map es
    have hess : ∀ x, x ∈ ess → ∃ i, i < len ∧ x = es i := fun x hx => by
      obtain ⟨i, hi, rfl⟩ := List.mem_map.1 hx
      exact ⟨i, by simpa using hi, rfl⟩
    have hel : ∀ i, i < len → (es i).length = sz := fun i hi => by
      have := (hk i hi).2.1.1
      have := (hk i hi).2.2.1
      omega
    have hfl : flat (ess.map (mkE ag)) = ess.flatten := flat_ess (sz := sz) fun x hx => by
      obtain ⟨i, hi, rfl⟩ := hess x hx
      exact ⟨hel i hi, fun e => hag e _ (hk i hi).1⟩
    have hall : ∀ x, x ∈ ess → x.length = sz := fun x hx => by
      obtain ⟨i, hi, rfl⟩ := hess x hx
      exact hel i hi
    have hflen : ess.flatten.length = len * sz := by
      have : ∀ (l : List (List D)), (∀ x, x ∈ l → x.length = sz) → l.flatten.length = l.length * sz := by
        intro l
        induction l with
        | nil => simp
        | cons y l ih =>
          intro hy
          rw [List.flatten_cons, List.length_append, ih (fun x hx => hy x (List.mem_cons_of_mem _ hx)), hy y List.mem_cons_self, List.length_cons, Nat.succ_mul, Nat.add_comm]
      rw [this ess hall]
      simp [ess]
    refine ⟨_, ⟨ess, fun x hx => ?_, by simpa [ess] using hlen, rfl⟩, repL_one ?_⟩
    · obtain ⟨i, hi, rfl⟩ := hess x hx
      exact (hk i hi).1
    · have hlen' : (ess.map (mkE ag)).length = len := by simp [ess]
      have hres : Rep w (own [] []) [] [] (.slice (ess.map (mkE ag)) .no) (.slice (some a) (ess.map (mkE ag)).length cap) := by
        refine .slice _ .no (some a) cap (fun k => (vs (k / sz)).getD (k % sz) undef) (by rw [hlen']; exact hlen) (by rw [hlen']; exact h2) (fun e => nomatch e) (fun _ _ e => nomatch e) (fun k hk' => ?_) (fun k hk' => ?_)
        · rw [hfl, hflen] at hk'
          have hi : k / sz < len := Nat.div_lt_of_lt_mul (by rw [Nat.mul_comm]; exact hk')
          have hj : k % sz < sz := Nat.mod_lt _ hs
          obtain ⟨_, _, q3, q4⟩ := hk _ hi
          have q5 := q4 _ hj
          have hspot : a.spot = none := by
            have hp : 0 < len := Nat.lt_of_le_of_lt (Nat.zero_le _) hi
            have h0 := (hk 0 hp).2.2.2 0 hs
            rw [List.getElem?_eq_getElem (by rw [(hk 0 hp).2.2.1]; exact hs)] at h0
            have e0 : (a.add (0 * sz)).add 0 = a := by simp [Addr.add]
            rw [e0] at h0
            unfold World.cell? at h0
            split at h0
            · split at h0
              · cases h0
              · rename_i hsp
                cases hh : a.spot with
                | none => rfl
                | some y => rw [hh] at hsp; simp at hsp
            · cases h0
          obtain ⟨b, o, rfl⟩ : ∃ b o, a = ⟨b, o, none⟩ := ⟨a.block, a.off, by cases a; simp only at hspot; subst hspot; rfl⟩
          refine ⟨b, o, rfl, own_nil _ _, ?_⟩
          have hadd : ((⟨b, o, none⟩ : Addr).add (k / sz * sz)).add (k % sz) = ⟨b, o + k, none⟩ := by
            have hm : k / sz * sz + k % sz = k := Nat.div_add_mod' k sz
            unfold Addr.add
            by_cases c1 : k / sz * sz = 0 <;> by_cases c2 : k % sz = 0 <;> simp only [c1, c2, if_true, if_false, Addr.mk.injEq, and_true, true_and] <;> omega
          rw [hadd] at q5
          have hj' : k % sz < (vs (k / sz)).length := by rw [q3]; exact hj
          rw [q5, List.getElem?_eq_getElem hj', List.getD_eq_getElem?_getD, List.getElem?_eq_getElem hj']
          rfl
        · have hk2 := hk'
          rw [hfl, hflen] at hk2
          have hi : k / sz < len := Nat.div_lt_of_lt_mul (by rw [Nat.mul_comm]; exact hk2)
          have hj : k % sz < sz := Nat.mod_lt _ hs
          obtain ⟨_, q2, q3, q4⟩ := hk _ hi
          have he : ∀ (l : List D) (hl : k < l.length), l = ess.flatten → l[k] = (es (k / sz))[k % sz]'(by rw [hel _ hi]; exact hj) := by
            intro l hl e
            subst e
            have := flatten_get hs hall (k := k)
            rw [List.getElem?_eq_getElem hl] at this
            simp only [ess, List.getElem?_map, List.getElem?_range hi, Option.map_some, Option.bind_some] at this
            rw [List.getElem?_eq_getElem (by rw [hel _ hi]; exact hj)] at this
            exact Option.some.inj this
          have hj' : k % sz < (vs (k / sz)).length := by rw [q3]; exact hj
          rw [he _ hk' hfl]
          rw [List.getD_eq_getElem?_getD, List.getElem?_eq_getElem hj']
          exact q2.2 _ _ _
      rw [hlen'] at hres
      exact hres

/-- The fields stand one behind the other. -/
def laid (P : Program) : List Field → Nat → Bool
  | [], _ => true
  | f :: fs, o => f.offset == o && laid P fs (o + P.cellsOf f.type)
def total (P : Program) : List Field → Nat
  | [] => 0
  | f :: fs => P.cellsOf f.type + total P fs

def AllT (P : Program) : List Field → List (List D → Prop) → Prop
  | [], [] => True
  | f :: fs, R :: Rs => IsT P f.type R ∧ AllT P fs Rs
  | _, _ => False

theorem isT_struct {fs : Array Field} {Rs : List (List D → Prop)} (ht : P.underlying t = some (.struct fs)) (hl : laid P fs.toList 0 = true) (hn : total P fs.toList = P.cellsOf t) (hR : AllT P fs.toList Rs) : IsT P t (RCat Rs) := by
  intro H enc w base sp held fuel cs x B BL K h hb
  obtain ⟨xs, n, rfl, rfl, h1, h2, h3⟩ := DataW.trod_struct ht h
  have hbe : BL (xs.map (·.1)) ≤ lenMax := by
    have := K.ag (xs.map (·.1))
    simp only at hb
    omega
  have gen : ∀ (l : List Field) (Rs : List (List D → Prop)) (o : Nat), laid P l o = true → AllT P l Rs → (∀ f, f ∈ l → ∃ x, x ∈ xs ∧ DataW.trod enc P w base sp held n f.type ((cs.drop f.offset).take (P.cellsOf f.type)) = some x) →
      o + total P l = cs.length → ∃ ds, RCat Rs ds ∧ RepL w (own [] []) [] [] ds (cs.drop o) := by
    intro l
    induction l with
    | nil =>
      intro Rs o _ hA _ ho
      cases Rs with
      | cons => exact hA.elim
      | nil =>
        simp only [total] at ho
        refine ⟨[], rfl, ?_⟩
        rw [List.drop_eq_nil_of_le (by omega)]
        exact .nil
    | cons f l ih =>
      intro Rs o hlay hA hx ho
      cases Rs with
      | nil => exact hA.elim
      | cons R Rs =>
        simp only [laid, Bool.and_eq_true, beq_iff_eq] at hlay
        obtain ⟨e1, hlay⟩ := hlay
        simp only [total] at ho
        obtain ⟨x, hxm, hx0⟩ := hx f List.mem_cons_self
        have hB : B x.1 ≤ lenMax := Nat.le_trans (K.mem (List.mem_map.2 ⟨_, hxm, rfl⟩)) hbe
        obtain ⟨a, r1, r2⟩ := hA.1 H enc w base sp held n _ _ B BL K hx0 hB
        obtain ⟨b, r3, r4⟩ := ih Rs _ hlay hA.2 (fun g hg => hx g (List.mem_cons_of_mem _ hg)) (by omega)
        refine ⟨a ++ b, ⟨a, b, r1, r3, rfl⟩, ?_⟩
        have := RepL.append r2 r4
        rw [e1, ← List.drop_drop, List.take_append_drop] at this
        exact this
  have := gen fs.toList Rs 0 hl hR (fun f hf => by
    obtain ⟨i, hi, rfl⟩ := List.mem_iff_getElem.1 hf
    have hi' : i < fs.size := by simpa using hi
    have hx : i < xs.length := by omega
    have := h3 i _ (Array.getElem?_eq_getElem hi')
    rw [List.getElem?_eq_getElem hx] at this
    exact ⟨_, List.getElem_mem hx, by simpa using this⟩) (by rw [hn, h1]; omega)
  simpa using this

/-- An argument of a type with one cell. -/
theorem arg_one {H : Type} {enc : TypeId × Value → H} {w : World} {base b0 : Nat} {sp : Nat → Bool} {held : Bool} {r : Reach} {v : Value} {d : DataW H} {ps : List MemPlace} {R : List D → Prop} {B : DataW H → Nat} {BL : List (DataW H) → Nat} (K : Bulk B BL)
    (hR : IsT P t R) (h : DataW.Trod enc P w base sp held t v d ps) (hb : B d ≤ lenMax) (hv : v.cells = #[v]) : ∃ ds, R ds ∧ RepL w (own [] []) [] [] ds [v] := by
  obtain ⟨fuel, hf⟩ := h
  rw [hv] at hf
  exact hR H enc w base sp held fuel _ _ B BL K hf hb
/-- A struct. -/
theorem arg_struct {H : Type} {enc : TypeId × Value → H} {w : World} {base b0 : Nat} {sp : Nat → Bool} {held : Bool} {r : Reach} {v : Value} {d : DataW H} {ps : List MemPlace} {R : List D → Prop} {B : DataW H → Nat} {BL : List (DataW H) → Nat} (K : Bulk B BL)
    {fs : Array Field} (ht : P.underlying t = some (.struct fs)) (hR : IsT P t R) (hval : Value.okWide P w r b0 t v) (h : DataW.Trod enc P w base sp held t v d ps) (hb : B d ≤ lenMax) : ∃ ds, R ds ∧ Rep w (own [] []) [] [] (.agg ds) v := by
  obtain ⟨vs, rfl, _⟩ := okWide_struct ht hval
  obtain ⟨fuel, hf⟩ := h
  obtain ⟨ds, h1, h2⟩ := hR H enc w base sp held fuel _ _ B BL K hf hb
  refine ⟨ds, h1, ?_⟩
  have := Rep.agg ds vs.toList h2.1 h2.2
  simpa using this
theorem arg_slice {H : Type} {enc : TypeId × Value → H} {w : World} {base b0 : Nat} {sp : Nat → Bool} {held : Bool} {r : Reach} {v : Value} {d : DataW H} {ps : List MemPlace} {R : List D → Prop} {B : DataW H → Nat} {BL : List (DataW H) → Nat} (K : Bulk B BL)
    {e : TypeId} (ht : P.underlying t = some (.slice e)) (hR : IsT P t R) (hval : Value.okWide P w r b0 t v) (h : DataW.Trod enc P w base sp held t v d ps) (hb : B d ≤ lenMax) : ∃ ds, R ds ∧ RepL w (own [] []) [] [] ds [v] := by
  obtain ⟨a, len, cap, rfl⟩ := okWide_slice ht hval
  exact arg_one (b0 := b0) (r := r) K hR h hb rfl
theorem arg_str {H : Type} {enc : TypeId × Value → H} {w : World} {base b0 : Nat} {sp : Nat → Bool} {held : Bool} {r : Reach} {v : Value} {d : DataW H} {ps : List MemPlace} {R : List D → Prop} {B : DataW H → Nat} {BL : List (DataW H) → Nat} (K : Bulk B BL)
    (ht : P.underlying t = some .string) (hR : IsT P t R) (hval : Value.okWide P w r b0 t v) (h : DataW.Trod enc P w base sp held t v d ps) (hb : B d ≤ lenMax) : ∃ ds, R ds ∧ RepL w (own [] []) [] [] ds [v] := by
  obtain ⟨s, rfl⟩ := okWide_string ht hval
  exact arg_one (b0 := b0) (r := r) K hR h hb rfl
theorem arg_int {H : Type} {enc : TypeId × Value → H} {w : World} {base b0 : Nat} {sp : Nat → Bool} {held : Bool} {r : Reach} {v : Value} {d : DataW H} {ps : List MemPlace} {R : List D → Prop} {B : DataW H → Nat} {BL : List (DataW H) → Nat} (K : Bulk B BL)
    {k : IntKind} (ht : P.underlying t = some (.int k)) (hR : IsT P t R) (hval : Value.okWide P w r b0 t v) (h : DataW.Trod enc P w base sp held t v d ps) (hb : B d ≤ lenMax) : ∃ ds, R ds ∧ RepL w (own [] []) [] [] ds [v] := by
  obtain ⟨s, rfl⟩ := okWide_int ht hval
  exact arg_one (b0 := b0) (r := r) K hR h hb rfl

theorem inv_nil (w : World) : Inv w [] [] := ⟨rfl, fun r b h => by simp at h, fun r cs h => by simp at h, fun r r' b h => by simp at h⟩

/-- What a walk from an empty heap leaves of the memory. -/
theorem Step.below {w w' : World} {σ' : Sg} {h' : Hp} (H : Step w [] [] w' σ' h') : Go.RowKit.Below w.heap.size w w' :=
  ⟨H.os, H.tape, H.output, H.size, fun k hk => H.block k hk (own_nil k)⟩
end
end Go.Av

/- A law's statement out of its contract: arguments read, true handed back, nothing turned. -/
namespace Go.Av
open Go.WideShapes Go.RowKit Go.WideElems Go.ChangeShapes
set_option linter.unusedVariables false

/-- Every value of type t that a statement speaks of is one that R tells of. -/
def IsA (P : Program) (t : TypeId) (R : D → Prop) : Prop :=
  ∀ (H : Type) (enc : TypeId × Value → H) (w : World) (r : Reach) (b0 base : Nat) (sp : Nat → Bool) (held : Bool) (v : Value) (d : DataW H) (ps : List MemPlace) (B : DataW H → Nat) (BL : List (DataW H) → Nat),
    Bulk B BL → Value.okWide P w r b0 t v → DataW.Trod enc P w base sp held t v d ps → B d ≤ lenMax → ∃ a, R a ∧ Rep w (own [] []) [] [] a v

section
variable {P : Program} {t : TypeId}

theorem isA_struct {R : List D → Prop} {S : D → Prop} {fs : Array Field} (ht : P.underlying t = some (.struct fs)) (hR : IsT P t R) (hS : ∀ ds, R ds → S (.agg ds)) : IsA P t S := by
  intro H enc w r b0 base sp held v d ps B BL K hval h hb
  obtain ⟨ds, h1, h2⟩ := arg_struct K ht hR hval h hb
  exact ⟨_, hS ds h1, h2⟩
theorem isA_one {R : List D → Prop} {S : D → Prop} (hv : ∀ (w : World) (r : Reach) (b0 : Nat) (v : Value), Value.okWide P w r b0 t v → v.cells = #[v]) (hR : IsT P t R) (hS : ∀ ds, R ds → ∃ d, ds = [d] ∧ S d) : IsA P t S := by
  intro H enc w r b0 base sp held v d ps B BL K hval h hb
  obtain ⟨ds, h1, h2⟩ := arg_one (b0 := b0) (r := r) K hR h hb (hv w r b0 v hval)
  obtain ⟨a, rfl, hs⟩ := hS ds h1
  exact ⟨a, hs, by simpa using h2.2 0 (by simp) (by simp)⟩
theorem isA_slice {R : List D → Prop} {S : D → Prop} {e : TypeId} (ht : P.underlying t = some (.slice e)) (hR : IsT P t R) (hS : ∀ ds, R ds → ∃ d, ds = [d] ∧ S d) : IsA P t S :=
  isA_one (fun w r b0 v hval => by obtain ⟨a, len, cap, rfl⟩ := okWide_slice ht hval; rfl) hR hS
theorem isA_str {R : List D → Prop} {S : D → Prop} (ht : P.underlying t = some .string) (hR : IsT P t R) (hS : ∀ ds, R ds → ∃ d, ds = [d] ∧ S d) : IsA P t S :=
  isA_one (fun w r b0 v hval => by obtain ⟨a, rfl⟩ := okWide_string ht hval; rfl) hR hS
theorem isA_int {R : List D → Prop} {S : D → Prop} {k : IntKind} (ht : P.underlying t = some (.int k)) (hR : IsT P t R) (hS : ∀ ds, R ds → ∃ d, ds = [d] ∧ S d) : IsA P t S :=
  isA_one (fun w r b0 v hval => by obtain ⟨a, rfl⟩ := okWide_int ht hval; rfl) hR hS
theorem isA_bool {R : List D → Prop} {S : D → Prop} (ht : P.underlying t = some .bool) (hR : IsT P t R) (hS : ∀ ds, R ds → ∃ d, ds = [d] ∧ S d) : IsA P t S :=
  isA_one (fun w r b0 v hval => by obtain ⟨a, rfl⟩ := okWide_bool ht hval; rfl) hR hS

def AllA (P : Program) : List TypeId → List (D → Prop) → Prop
  | [], [] => True
  | t :: ts, R :: Rs => IsA P t R ∧ AllA P ts Rs
  | _, _ => False
def ArgsR : List (D → Prop) → List D → Prop
  | [], [] => True
  | R :: Rs, d :: ds => R d ∧ ArgsR Rs ds
  | _, _ => False

theorem args_read {H : Type} {enc : TypeId × Value → H} {w : World} {r : Reach} {b0 base : Nat} {sp : Nat → Bool} {held : Bool} {B : DataW H → Nat} {BL : List (DataW H) → Nat} (K : Bulk B BL) :
    ∀ {ts : List TypeId} {Rs : List (D → Prop)} {vs : List Value} {ds : List (DataW H)} {ps : List MemPlace}, AllA P ts Rs → DataW.TrodAll enc P w base sp held ts vs ds ps →
      (∀ (j : Nat) t v, ts[j]? = some t → vs[j]? = some v → Value.okWide P w r b0 t v) → (∀ d, d ∈ ds → B d ≤ lenMax) → ∃ as, ArgsR Rs as ∧ RepL w (own [] []) [] [] as vs
  | [], [], vs, ds, ps, _, h, _, _ => by
    obtain ⟨rfl, _, _⟩ := trodAll_nil h
    exact ⟨[], trivial, .nil⟩
  | [], _ :: _, _, _, _, hA, _, _, _ => hA.elim
  | _ :: _, [], _, _, _, hA, _, _, _ => hA.elim
  | t :: ts, R :: Rs, vs, ds, ps, hA, h, hval, hb => by
    obtain ⟨v, vs', d, ds', p, q, rfl, rfl, rfl, h0, h1⟩ := trodAll_cons h
    obtain ⟨a, a1, a2⟩ := hA.1 H enc w r b0 base sp held v d p B BL K (hval 0 t v rfl rfl) h0 (hb d List.mem_cons_self)
    obtain ⟨as, b1, b2⟩ := args_read K hA.2 h1 (fun j t v e1 e2 => hval (j + 1) t v e1 e2) (fun d hd => hb d (List.mem_cons_of_mem _ hd))
    exact ⟨a :: as, ⟨a1, b1⟩, .cons a2 b2⟩

def readable (P : Program) (ts : List TypeId) : Bool := ts.all fun t => P.readableRec t && decide (t < P.types.size)

theorem reread {H : Type} {enc : TypeId × Value → H} {W W' : World} (hl : laidOutB P = true) (hb : Below W.heap.size W W') :
    ∀ {ts : List TypeId} {vs : List Value} {ds : List (DataW H)} {ps : List MemPlace}, readable P ts = true → DataW.TrodAll enc P W 0 (fun _ => true) true ts vs ds ps → (∀ x, x ∈ ps → x.block < W.heap.size) →
      DataW.TrodAll enc P W' 0 (fun b => decide (b < W.heap.size)) true ts vs ds ps
  | [], vs, ds, ps, _, h, _ => by
    obtain ⟨rfl, rfl, rfl⟩ := trodAll_nil h
    exact rfl
  | t :: ts, vs, ds, ps, hr, h, hlt => by
    obtain ⟨v, vs', d, ds', p, q, rfl, rfl, rfl, h0, h1⟩ := trodAll_cons h
    simp only [readable, List.all_cons, Bool.and_eq_true, decide_eq_true_eq] at hr
    exact ⟨p, q, h0.elim fun _ _ => Below.trod hl hr.1.1 hr.1.2 h0 hb (fun x hx => hlt x (List.mem_append_left _ hx)), reread hl hb (by simpa [readable] using hr.2) h1 (fun x hx => hlt x (List.mem_append_right _ hx)), rfl⟩

/-- FROM A CONTRACT TO THE ROW'S POST. -/
theorem law_post {f : FuncId} {fn : Func} {H : Type} {enc : TypeId × Value → H} {s : ChangeSpec} {W : World} {base : Nat} {args : Array Value} {ds gs : List (DataW H)} {before : List MemPlace} {Rs : List (D → Prop)} {tb : TypeId} {B : DataW H → Nat} {BL : List (DataW H) → Nat}
    (K : Bulk B BL) (hk : BL (ds ++ gs) ≤ lenMax) (hl : laidOutB P = true) (hr : readable P fn.params.toList = true) (hv : varsRowed P s.vars = true) (hres : fn.resultTypes = #[tb]) (hb : P.underlying tb = some .bool) (hA : AllA P fn.params.toList Rs)
    (hval : ∀ (j : Nat) t v, fn.params[j]? = some t → args[j]? = some v → Value.okWide P W .any base t v)
    (hW : DataW.Whole enc P fn.params.toList s.vars false W args.toList ds gs before) (hfn : s.fn H (ds ++ gs) = { results := [.lit (.bool true)], args := ds, vars := gs })
    (hg : ∀ as, ArgsR Rs as → Gives P f as [] (.bool true)) :
    Calls P f args W fun e W' => ∃ v, e = .returned v ∧ s.post enc P fn false true false false W args v W' := by
  have hlt := hW.lt
  have hW' := hW
  obtain ⟨p, q, h1, h2, rfl, h3, h4⟩ := hW
  obtain ⟨as, a1, a2⟩ := args_read K hA h1 (fun j t v e1 e2 => hval j t v (by simpa using e1) (by simpa using e2)) (fun d hd => Nat.le_trans (K.mem (List.mem_append_left _ hd)) hk)
  have hc := (hg as a1).2 W [] args.toList (inv_nil W) a2
  rw [Array.toArray_toList] at hc
  refine hc.mono fun e W' ⟨v, he, d, h', σ', ⟨hd, hh⟩, hi, hrep, hst⟩ => ⟨v, he, ?_⟩
  subst hd hh
  obtain rfl : v = .bool true := by cases hrep; rfl
  have hbel := hst.below
  refine ⟨ds, gs, p ++ q, [], p, q, hW', ?_, ?_, ?_, hbel.frame _, fun e => nomatch e⟩
  · rw [hfn, hres]
    exact ⟨[], [], shut_bool hb true, rfl, rfl⟩
  · rw [hfn]
    exact reread hl hbel hr h1 (fun x hx => hlt x (List.mem_append_left _ hx))
  · rw [hfn]
    exact hbel.trodVars hl hv h2
end
end Go.Av

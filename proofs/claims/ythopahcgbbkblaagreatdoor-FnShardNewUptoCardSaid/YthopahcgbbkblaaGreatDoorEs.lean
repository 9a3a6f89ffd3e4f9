/- Contracts of the library's functions, proved over worlds, as contracts over data. -/
import Derived.Test.YthopahcgbbkblaaGreatDoorEd
import Derived.Below
import Derived.WalkKit
import Derived.Lib.FrozenHead

namespace Go.Av
set_option linter.unusedSectionVars false
open Go.RowKit

theorem adds_below {w w' : World} (H : Below w.heap.size w w') : Adds w w' := ⟨H.os, H.tape, H.output, H.size, H.block⟩
variable [Start]
/-- what lies in the start world lies there still -/
theorem Inv.cell0 {w : World} {σ : Sg} {h : Hp} (hi : Inv w σ h) {a : Addr} {v : Value} (e : Start.w0.cell? a = some v) : w.cell? a = some v := by
  have hb := World.block_lt_of_cell? (w := Start.w0) (a := a) e
  have := hi.kept.same a.block hb
  rw [← e]
  simp only [World.cell?, this]
omit [Start] in
theorem var_kept {P : Program} {w w0 : World} (hs : ∀ b : Nat, b < w0.heap.size → w.heap[b]? = w0.heap[b]?) {n : String} {vs : Array Value} (e : w0.var? P n = some vs) : w.var? P n = some vs := by
  unfold World.var? at e ⊢
  cases hg : P.globalNamed n with
  | none => rw [hg] at e; cases e
  | some g =>
    rw [hg] at e
    simp only [Option.bind_some] at e ⊢
    have hlt : g < w0.heap.size := by
      apply Decidable.byContradiction
      intro hn
      rw [Array.getElem?_eq_none (by omega)] at e
      cases e
    rw [hs g hlt]
    exact e
omit [Start] in
theorem enters_at {P : Program} {f : FuncId} {fn : Func} (hf : P.funcs[f]? = some fn) (hb : fn.body.isSome = true) (hname : (fn.name == "runtime.NumGoroutine") = false) : Enters P f := by
  obtain ⟨c, hc⟩ := Option.isSome_iff_exists.1 hb
  exact enters_of hf hc hname
theorem gives_lib {P : Program} {f : FuncId} {args : List D} {h : Hp} {d : D} (he : Enters P f)
    (H : ∀ w σ vs, Inv w σ h → RepL w (own σ h) σ h args vs → Calls P f vs.toArray w fun e w' => ∃ v, e = .returned v ∧ Below w.heap.size w w' ∧ ∀ (ow : Nat → Nat → Prop), (∀ b o, ow b o → b < w.heap.size) → Rep w' ow σ h d v) : Gives P f args h d := by
  refine ⟨he, fun w σ vs hi hr => (H w σ vs hi hr).mono ?_⟩
  rintro e w' ⟨v, rfl, hb, hd⟩
  obtain ⟨g1, g2⟩ := inv_same hi (adds_below hb)
  exact ⟨v, rfl, d, h, σ, ⟨rfl, rfl⟩, g1, hd _ (fun b o ho => inv_lt hi ho), g2⟩

/-- A loop behind which slices stand that it appends to. -/
theorem ev_loopB {P : Program} {mu : List Nat} {fr : Fr} {h : Hp} {Q : Exit → St → Prop} {c : Code} {α : Type} (toks : List (Nat × Nat)) (L : α → List (Nat × D)) (ls0 : α → Hp) (I : α → Prop) (μ : α → Nat) (x0 : α)
    (ht : tokOks ⟨fr, h⟩ toks) (hI : I x0) (hW : ∃ k, k ≤ (ls0 x0).length ∧ (tokSts ⟨fr, h⟩ toks).h.length = h.length + k ∧ WeakTo h k (tokSts ⟨fr, h⟩ toks) (L x0) (ls0 x0))
    (hround : ∀ x, I x → ev P mu c (thenE (RoundOk h.length (LoopInv h L ls0 I μ) (μ x) ⟨frL (L x), h ++ ls0 x⟩) Q) ⟨frL (L x), h ++ ls0 x⟩) : ev P mu (.loop c) Q ⟨fr, h⟩ := by
  have e := ev_loop (h := h) (ls := []) (P := P) (mu := mu) (fr := fr) (c := c) (Q := Q) toks L ls0 I μ x0
  simp only [List.append_nil] at e
  exact e ht hI hW hround
end Go.Av

/- A function's tail walked over worlds: a builder is kept behind one object that is nobody's. -/
namespace Go.Av
set_option linter.unusedSectionVars false
open Go.RowKit
variable [Start]
section
variable {P : Program} {n : Nat}

/-- Pieces of code one behind the other, then a rest that is walked otherwise. -/
theorem ev_chain (hm : P.follows .mixedOrders = true) {mu : List Nat} {z : Code} {K : St → Prop} {Q : Exit → Act → World → Prop} : ∀ (xs : List Code) (st : St), xs.all (fits n) = true →
    ev P mu (xs.foldr .seq .skip) (thenE K fun _ _ => False) st → ∀ w σ a, Cnc n w σ a st → (∀ st' σ' a' w', K st' → Cnc n w' σ' a' st' → Step w σ st.h w' σ' st'.h → z.wp P Q a' w') → (xs.foldr .seq z).wp P Q a w
  | [], st, _, he, w, σ, a, H, hQ => hQ st σ a w he H (.refl w σ st.h)
  | x :: xs, st, hf, he, w, σ, a, H, hQ => by
    simp only [List.all_cons, Bool.and_eq_true] at hf
    refine wp_seq (wp_mono (ev_sound hm x _ st hf.1 he w σ a H) ?_)
    rintro e a' w' ⟨st', σ', q1, q2, q3⟩
    cases e with
    | normal => exact ev_chain hm xs st' hf.2 q1 w' σ' a' q2 fun st'' σ'' a'' w'' k1 k2 k3 => hQ st'' σ'' a'' w'' k1 k2 (q3.trans k3)
    | _ => exact absurd q1 id
theorem ev_two (hm : P.follows .mixedOrders = true) {mu : List Nat} {x y z : Code} {K : St → Prop} {st : St} (hf : fits n x = true) (hf2 : fits n y = true) (he : ev P mu (.seq x (.seq y .skip)) (thenE K fun _ _ => False) st) {w : World} {σ : Sg} {a : Act} (H : Cnc n w σ a st) {Q : Exit → Act → World → Prop}
    (hQ : ∀ st' σ' a' w', K st' → Cnc n w' σ' a' st' → Step w σ st.h w' σ' st'.h → z.wp P Q a' w') : (Code.seq x (.seq y z)).wp P Q a w :=
  ev_chain hm [x, y] st (by simp [hf, hf2]) he w σ a H hQ
/-- One piece of code. -/
theorem ev_piece (hm : P.follows .mixedOrders = true) {mu : List Nat} {c : Code} {K : St → Prop} {st : St} (hf : fits n c = true) (he : ev P mu c (thenE K fun _ _ => False) st) {w : World} {σ : Sg} {a : Act} (H : Cnc n w σ a st) {Q : Exit → Act → World → Prop}
    (hQ : ∀ st' σ' a' w', K st' → Cnc n w' σ' a' st' → Step w σ st.h w' σ' st'.h → Q .normal a' w') : c.wp P Q a w := by
  refine wp_mono (ev_sound hm c _ st hf he w σ a H) ?_
  rintro e a' w' ⟨st', σ', q1, q2, q3⟩
  cases e with
  | normal => exact hQ st' σ' a' w' q1 q2 q3
  | _ => exact absurd q1 id
/-- The first operations of a region. -/
theorem ops_pre {mu : List Nat} {ops : List Oper} {Q : Exit → Act → World → Prop} (rest : List Oper) : ∀ (pre : List Oper) (st : St) (K : St → Prop), (pre.all (dstOk n)) = true → evOps P mu ops pre st K → ∀ w σ a, Cnc n w σ a st →
    (∀ st' σ' a' w', K st' → Cnc n w' σ' a' st' → Step w σ st.h w' σ' st'.h → wpList P ops.toArray Q rest a' w') → wpList P ops.toArray Q (pre ++ rest) a w
  | [], st, K, _, hk, w, σ, a, H, hQ => hQ st σ a w hk H (.refl w σ st.h)
  | o :: pre, st, K, hd, hk, w, σ, a, H, hQ => by
    simp only [List.all_cons, Bool.and_eq_true] at hd
    refine wpList_step fun K' hK' => ?_
    refine op_sound H hd.1 hk fun st' σ' a' w' k1 k2 k3 => hK' _ _ ?_
    exact ops_pre rest pre st' K hd.2 k1 w' σ' a' k2 fun st'' σ'' a'' w'' q1 q2 q3 => hQ st'' σ'' a'' w'' q1 q2 (k3.trans q3)
omit [Start] in
/-- An operation whose run is known. -/
theorem wpList_op {ops : Array Oper} {rest : List Oper} {o : Oper} {a : Act} {w : World} {R : Value → World → Prop} {Q : Exit → Act → World → Prop} (hg : o.guard = none) (H : OpRes P o a w R) (h : ∀ v w', R v w' → wpList P ops Q rest (a.put o.dst v) w') : wpList P ops Q (o :: rest) a w :=
  wpList_step fun K hK => by
    simp only [Region.wanted, hg, if_true]
    exact H.wp fun v w' r => hK _ _ (h v w' r)
omit [Start] in
theorem opres_call {f : FuncId} {args : Array Operand} {ts : Array TypeId} {o : Oper} {a : Act} {w : World} {vs : Array Value} {R : Value → World → Prop} (ho : o.op = .call ⟨.value (.func f), args, ts⟩) (hE : Enters P f) (hv : args.map a.eval = vs) (hc : Calls P f vs w fun e w' => ∃ v, e = .returned v ∧ R v w') :
    OpRes P o a w R := by
  subst hv
  obtain ⟨dst, op, ty, pos, af, g⟩ := o
  cases ho
  refine .inr (.inr ⟨f, args.map a.eval, ?_, hc⟩)
  have := hE (args.map a.eval) w
  simp [execOp, resolve, Deferred.ofValue, Act.eval, invoke, this]
end
theorem own_pin (b b' o : Nat) : ¬ own [some b] [.dead] b' o := by
  rintro ⟨r, h1, h2⟩
  match r with
  | 0 => rcases h2 with ⟨cs, e⟩ | ⟨m, e, _⟩ <;> simp at e
  | r + 1 => simp at h1
theorem inv_pin {w : World} {σ : Sg} {h : Hp} (hi : Inv w σ h) {b : Nat} (hb : b < w.heap.size) : Inv w [some b] [.dead] := by
  refine ⟨⟨hi.kept.size, hi.kept.same, fun b' o ho => absurd ho (own_pin b b' o)⟩, rfl, fun r b' e => ?_, fun r cs e => ?_, fun r r' b' e1 e2 e3 e4 => ?_⟩
  · match r with
    | 0 => simp at e; omega
    | r + 1 => simp at e
  · match r with
    | 0 => simp at e
    | r + 1 => simp at e
  · match r with
    | 0 => exact absurd rfl e3
    | r + 1 => simp at e1
theorem pin_below {w w' : World} {b B : Nat} (hi : Inv w [some b] [.dead]) (hB : Start.w0.heap.size ≤ B) (hb : Below B w w') : Inv w' [some b] [.dead] := by
  have hs := hb.size
  refine ⟨⟨Nat.le_trans hi.kept.size hs, fun k hk => (hb.block k (by omega)).trans (hi.kept.same k hk), fun b' o ho => absurd ho (own_pin b b' o)⟩, rfl, fun r b' e => Nat.lt_of_lt_of_le (hi.lt r b' e) hs, fun r cs e => ?_, fun r r' b' e1 e2 e3 e4 => ?_⟩
  · match r with
    | 0 => simp at e
    | r + 1 => simp at e
  · match r with
    | 0 => exact absurd rfl e3
    | r + 1 => simp at e1
theorem step_pin {w w' : World} {b : Nat} {σ' : Sg} {h' : Hp} (hs : Step w [some b] [.dead] w' σ' h') : Below w.heap.size w w' :=
  ⟨hs.os, hs.tape, hs.output, hs.size, fun k hk => hs.block k hk fun o ho => own_pin b k o ho⟩
theorem sg_pin {w w' w1 : World} {b : Nat} {σ' : Sg} (hi : Inv w1 σ' [.dead]) (hs : Step w [some b] [.dead] w' σ' [.dead]) : σ' = [some b] := by
  have hl := hi.len
  have h0 := (hs.mono.sig 0 (by simp) (fun m hm => by simp at hm)).1
  match σ', hl with
  | [s], _ => simpa using h0
theorem cnc_pin {n : Nat} {w : World} {b : Nat} {a : Act} {L : List (Nat × D)} (hi : Inv w [some b] [.dead]) (hd : a.defers = []) (hs : a.tmps.size = n)
    (hL : ∀ p, p ∈ L → Rep w (own [some b] [.dead]) [some b] [.dead] p.2 (a.tmps.getD p.1 undef)) : Cnc n w [some b] a ⟨frL L, [.dead]⟩ := by
  refine ⟨hi, hd, hs, fun t => ?_⟩
  simp only [frL]
  cases e : L.lookup t with
  | none => exact .junk _
  | some d =>
    refine hL (t, d) ?_
    induction L with
    | nil => simp at e
    | cons p L ih =>
      rw [List.lookup_cons] at e
      split at e
      · rename_i hp
        cases e
        have : t = p.1 := by simpa using hp
        subst this
        exact List.mem_cons_self
      · exact List.mem_cons_of_mem _ (ih (fun q hq => hL q (List.mem_cons_of_mem _ hq)) e)
theorem isB_below {T e : TypeId} {B b : Nat} {bs : List Value} {w w' : World} (H : Lib.IsBuilderF T e B b bs w) (hb : Below w.heap.size w w') : Lib.IsBuilderF T e B b bs w' := by
  have key : ∀ p, Lib.BuilderAtF T e B b p bs w → Lib.BuilderAtF T e B b p bs w' := by
    rintro p ⟨h1, v, h2, h3, h4⟩
    have hlt : b < w.heap.size := (Array.getElem?_eq_some_iff.1 h2).1
    exact ⟨h1, v, (hb.block b hlt).trans h2, h3.kept (row := none) ⟨hb.os, hb.tape, hb.output, hb.size, fun k hk _ => hb.block k hk⟩ (by cases v.ownBlock <;> simp), h4⟩
  exact H.elim (fun x => .inl (key _ x)) (fun x => .inr (key _ x))
theorem rep_ints {w : World} {ow : Nat → Nat → Prop} {σ : Sg} {h : Hp} {k : IntKind} {zs : List Int} {v : Value} (H : Rep w ow σ h (.agg (zs.map (.int k))) v) : v = .agg (zs.map (Value.int k)).toArray := by
  cases H with
  | agg _ vs hl hr =>
    congr 2
    refine List.ext_getElem (by simpa using hl) fun i h1 h2 => ?_
    have := hr i (by rw [← hl]; exact h1) h1
    rw [List.getElem_map] at this
    rw [List.getElem_map]
    generalize vs[i] = u at this
    cases this
    rfl
theorem ints_rep {w : World} {ow : Nat → Nat → Prop} {σ : Sg} {h : Hp} {k : IntKind} {zs : List Int} : Rep w ow σ h (.agg (zs.map (.int k))) (.agg (zs.map (Value.int k)).toArray) :=
  .agg _ _ (by simp) fun i h1 h2 => by
    rw [List.getElem_map, List.getElem_map]
    exact .int _ _
/-- A call whose first six pieces are walked over data, the rest over worlds. -/
theorem calls_of6 {P : Program} {f : FuncId} {fn : Func} {x0 x1 x2 x3 x4 x5 z : Code} {args : List D} {K : St → Prop} {w : World} {vs : List Value} {R : Ending → World → Prop} (mu : List Nat) (hm : P.follows .mixedOrders = true) (hf : P.funcs[f]? = some fn)
    (hb : fn.body = some (.seq x0 (.seq x1 (.seq x2 (.seq x3 (.seq x4 (.seq x5 z))))))) (hfit : [x0, x1, x2, x3, x4, x5].all (fits fn.ntmps) = true) (hn : args.length ≤ fn.ntmps)
    (hi : Inv w [] []) (hr : RepL w (own [] []) [] [] args vs)
    (he : ev P mu (.seq x0 (.seq x1 (.seq x2 (.seq x3 (.seq x4 (.seq x5 .skip)))))) (thenE K fun _ _ => False) ⟨frOf args, []⟩)
    (T : ∀ w1 σ1 a1 st1, K st1 → Cnc fn.ntmps w1 σ1 a1 st1 → Step w [] [] w1 σ1 st1.h → z.wp P (bodyPost P fn R) a1 w1) : Calls P f vs.toArray w R := by
  have hvl : vs.length = args.length := hr.1
  have hcnc : Cnc fn.ntmps w [] { tmps := vs.toArray ++ Array.replicate (fn.ntmps - vs.toArray.size) undef, defers := [] } ⟨frOf args, []⟩ := by
    refine ⟨hi, rfl, by simp; omega, fun t => ?_⟩
    simp only [frOf, List.getD_eq_getElem?_getD]
    by_cases ht : t < args.length
    · rw [List.getElem?_eq_getElem ht]
      have : (vs.toArray ++ Array.replicate (fn.ntmps - vs.toArray.size) undef).getD t undef = vs[t]'(by omega) := by
        rw [Array.getD_eq_getD_getElem?, Array.getElem?_append_left (by simp; omega)]
        simp [show t < vs.length by omega]
      rw [this]
      exact hr.2 t ht (by omega)
    · rw [List.getElem?_eq_none (by omega)]
      exact .junk _
  refine calls_of_wp hf hb (ev_chain hm [x0, x1, x2, x3, x4, x5] _ hfit he w [] _ hcnc fun st1 σ1 a1 w1 k1 k2 k3 => T w1 σ1 a1 st1 k1 k2 k3)
theorem inv_none {w : World} {σ : Sg} {h : Hp} (hi : Inv w σ h) : Inv w [] [] := by
  refine ⟨⟨hi.kept.size, hi.kept.same, fun b o ho => ?_⟩, rfl, fun r b e => by simp at e, fun r cs e => by simp at e, fun r r' b e1 _ _ _ => by simp at e1⟩
  obtain ⟨r, h1, _⟩ := ho
  simp at h1
theorem step0_below {w w1 : World} {σ1 : Sg} {h1 : Hp} (k3 : Step w [] [] w1 σ1 h1) : Below w.heap.size w w1 := by
  refine ⟨k3.os, k3.tape, k3.output, k3.size, fun b hb' => k3.block b hb' fun o ho => ?_⟩
  obtain ⟨r, h1, _⟩ := ho
  simp at h1
omit [Start] in
theorem below_less {B B' : Nat} {w w' : World} (H : Below B w w') (h : B' ≤ B) : Below B' w w' := ⟨H.os, H.tape, H.output, H.size, fun k hk => H.block k (by omega)⟩
/-- What is known of a state. -/
def AtL (st : St) : List (Nat × D) → Prop
  | [] => True
  | p :: L => st.fr p.1 = p.2 ∧ AtL st L
theorem AtL.mem {st : St} : ∀ {L : List (Nat × D)}, AtL st L → ∀ p, p ∈ L → st.fr p.1 = p.2
  | [], _, p, hp => by cases hp
  | q :: L, H, p, hp => by
    rcases List.mem_cons.1 hp with rfl | hp
    · exact H.1
    · exact H.2.mem p hp
structure AtF (L : List (Nat × D)) (h : Hp) (st : St) : Prop where
  h : st.h = h
  l : AtL st L
theorem AtF.cnc {n : Nat} {w : World} {σ : Sg} {a : Act} {st : St} {L : List (Nat × D)} {h : Hp} (hK : AtF L h st) (H : Cnc n w σ a st) : Cnc n w σ a ⟨frL L, h⟩ := by
  obtain ⟨rfl, hL⟩ := hK
  have hM := hL.mem
  clear hL
  refine ⟨H.inv, H.defers, H.size, fun t => ?_⟩
  simp only [frL]
  cases e : L.lookup t with
  | none => exact .junk _
  | some d =>
    have : (t, d) ∈ L := by
      clear hM H
      induction L with
      | nil => simp at e
      | cons p L ih =>
        rw [List.lookup_cons] at e
        split at e
        · rename_i hp
          cases e
          have : t = p.1 := by simpa using hp
          subst this
          exact List.mem_cons_self
        · exact List.mem_cons_of_mem _ (ih e)
    have e2 := hM _ this
    have := H.fr t
    rw [e2] at this
    exact this
/-- What stands in the slots while the builder is written. -/
structure TailOk (n b p6 p43 p44 : Nat) (zs : List Int) (i : Int) (w : World) (a : Act) : Prop where
  inv : Inv w [some b] [.dead]
  defers : a.defers = []
  size : a.tmps.size = n
  t6 : a.tmps.getD p6 undef = .pointer (some ⟨b, 0, none⟩)
  t43 : a.tmps.getD p43 undef = .agg (zs.map (Value.int .u32)).toArray
  t44 : a.tmps.getD p44 undef = .int .i64 i
theorem TailOk.cnc {n b p6 p43 p44 : Nat} {zs : List Int} {i : Int} {w : World} {a : Act} (H : TailOk n b p6 p43 p44 zs i w a) : Cnc n w [some b] a ⟨frL [(p6, .ptr 0 0), (p43, .agg (zs.map (.int .u32))), (p44, .int .i64 i)], [.dead]⟩ :=
  cnc_pin H.inv H.defers H.size fun p hp => by
    simp only [List.mem_cons, List.not_mem_nil, or_false] at hp
    rcases hp with rfl | rfl | rfl
    · rw [H.t6]; exact .ptr 0 0 b (by simp) (fun m hm => by simp at hm) rfl
    · rw [H.t43]; exact ints_rep
    · rw [H.t44]; exact .int _ _
theorem ptr_pin {w : World} {ow : Nat → Nat → Prop} {b r o : Nat} {σ : Sg} {h : Hp} {v : Value} (hs : σ[r]? = some (some b)) (H : Rep w ow σ h (.ptr r o) v) : v = .pointer (some ⟨b, o, none⟩) := by
  cases H with
  | ptr _ _ b' hr hb hs' => rw [hs] at hs'; cases hs'; rfl
theorem int_pin {w : World} {ow : Nat → Nat → Prop} {k : IntKind} {i : Int} {σ : Sg} {h : Hp} {v : Value} (H : Rep w ow σ h (.int k i) v) : v = .int k i := by
  cases H; rfl
theorem str_pin {w : World} {ow : Nat → Nat → Prop} {s : List UInt8} {σ : Sg} {h : Hp} {v : Value} (H : Rep w ow σ h (.str s) v) : v = .string ⟨s.toArray⟩ := by
  cases H; rfl
theorem AtF.pin {n b : Nat} {w w' : World} {σ' : Sg} {a : Act} {st : St} {L : List (Nat × D)} (hK : AtF L [.dead] st) (H : Cnc n w' σ' a st) (hs : Step w [some b] [.dead] w' σ' st.h) : Cnc n w' [some b] a ⟨frL L, [.dead]⟩ ∧ Below w.heap.size w w' := by
  have e := hK.h
  have hc := hK.cnc H
  rw [e] at hs
  have := sg_pin hc.inv hs
  subst this
  exact ⟨hc, step_pin hs⟩
/-- From the state of an array's function to the builder's. -/
theorem tailOk_of {n b r p6 p43 p44 : Nat} {zs : List Int} {i : Int} {w : World} {σ : Sg} {a : Act} {st : St} (H : Cnc n w σ a st) (hs : σ[r]? = some (some b)) (hb : b < w.heap.size) (h6 : st.fr p6 = .ptr r 0) (h43 : st.fr p43 = .agg (zs.map (.int .u32))) (h44 : st.fr p44 = .int .i64 i) : TailOk n b p6 p43 p44 zs i w a :=
  ⟨inv_pin H.inv hb, H.defers, H.size, ptr_pin hs (h6 ▸ H.fr p6), rep_ints (h43 ▸ H.fr p43), int_pin (h44 ▸ H.fr p44)⟩
end Go.Av

/- Calls by contract; the operations of a region one behind the other. -/
import Derived.Test.YtcomlmdpkafijaaEb

namespace Go.Av

def Enters (P : Program) (f : FuncId) : Prop := ∀ (args : Array Value) (w : World), (callFunc f args).run P w = .ok (.enter f args) w

/-- A call of f with these data, over these objects, returns, and what it hands back and leaves meets Q. -/
def Meets (P : Program) (f : FuncId) (args : List D) (h : Hp) (Q : D → Hp → Prop) : Prop :=
  Enters P f ∧ ∀ w σ vs, Inv w σ h → RepL w (own σ h) σ h args vs →
    Calls P f vs.toArray w fun e w' => ∃ v, e = .returned v ∧ ∃ d h' σ', Q d h' ∧ Inv w' σ' h' ∧ Rep w' (own σ' h') σ' h' d v ∧ Step w σ h w' σ' h'

/-- .. hands back d and leaves the objects as they were. -/
def Gives (P : Program) (f : FuncId) (args : List D) (h : Hp) (d : D) : Prop := Meets P f args h fun d' h' => d' = d ∧ h' = h

def gslot (ops : List Oper) (j : Nat) : Option Tmp := (ops[j]?).bind (·.dst)
def gval (fr : Fr) (ops : List Oper) (j : Nat) : D :=
  match gslot ops j with
  | some t => fr t
  | none => .junk
def gcond (fr : Fr) (ops : List Oper) : Option (Nat × Bool) → Bool
  | none => true
  | some (j, p) => vc (gval fr ops j) && (bof (un (gval fr ops j)) == p)
def gok (fr : Fr) (ops : List Oper) : Option (Nat × Bool) → Prop
  | none => True
  | some (j, _) => (gslot ops j).isSome = true ∧ (vc (gval fr ops j) = true → isBool (un (gval fr ops j)))
def wrapG (c : Bool) (g : Option (Nat × Bool)) (d : D) : D :=
  match g with
  | none => d
  | some _ => .when c d

def fnId : D → FuncId
  | .fn f _ => f
  | _ => 0
def fnCaps : D → List D
  | .fn _ cs => cs
  | _ => []
def isFn : D → Prop
  | .fn _ _ => True
  | _ => False

def quietCall (P : Program) (ops : List Oper) (o : Oper) (st : St) (f : Operand) (args : Array Operand) (K : D → Prop) : Prop :=
  ∃ d as, (gcond st.fr ops o.guard = true → ok1 st.fr f ∧ isFn (vl st.fr f) ∧ allOk1 st.fr args.toList ∧ Gives P (fnId (vl st.fr f)) as st.h d ∧ WkL (args.toList.map (vl st.fr) ++ fnCaps (vl st.fr f)) as) ∧ K (wrapG (gcond st.fr ops o.guard) o.guard d)
def quietPure (P : Program) (ops : List Oper) (o : Oper) (st : St) (K : D → Prop) : Prop :=
  (gcond st.fr ops o.guard = true → pureOk P st o.op) ∧ K (wrapG (gcond st.fr ops o.guard) o.guard (pureD P st o.op))

/-- An operation that leaves the objects as they are. -/
def quietOp (P : Program) (ops : List Oper) (o : Oper) (st : St) (K : D → Prop) : Prop :=
  gok st.fr ops o.guard ∧
  match o.op with
  | .call ⟨.value f, args, _⟩ => quietCall P ops o st f args K
  | _ => quietPure P ops o st K

/-- What has come of an operation. -/
def OpRes (P : Program) (o : Oper) (a : Act) (w : World) (R : Value → World → Prop) : Prop :=
  (∃ v w', (execOp a.eval o).run P w = .ok (.value v) w' ∧ R v w') ∨ (∃ w', (execOp a.eval o).run P w = .ok .skip w' ∧ R undef w') ∨
  ∃ f args, (execOp a.eval o).run P w = .ok (.enter f args) w ∧ Calls P f args w fun e w' => ∃ v, e = .returned v ∧ R v w'

theorem OpRes.wp {P : Program} {o : Oper} {a : Act} {w : World} {R : Value → World → Prop} {next : Act → World → Prop} {Q : Exit → Act → World → Prop} (H : OpRes P o a w R) (hn : ∀ v w', R v w' → next (a.put o.dst v) w') :
    o.wp P a w next Q := by
  unfold Oper.wp
  rcases H with ⟨v, w', h1, h2⟩ | ⟨w', h1, h2⟩ | ⟨f, args, h1, h2⟩
  · rw [h1]; exact hn v w' h2
  · rw [h1]; exact hn undef w' h2
  · rw [h1]
    exact h2.mono fun e w' ⟨v, he, hr⟩ => by subst he; exact hn v w' hr

theorem OpRes.mono {P : Program} {o : Oper} {a : Act} {w : World} {R R' : Value → World → Prop} (H : OpRes P o a w R) (h : ∀ v w', R v w' → R' v w') : OpRes P o a w R' := by
  rcases H with ⟨v, w', h1, h2⟩ | ⟨w', h1, h2⟩ | ⟨f, args, h1, h2⟩
  · exact .inl ⟨v, w', h1, h _ _ h2⟩
  · exact .inr (.inl ⟨w', h1, h _ _ h2⟩)
  · exact .inr (.inr ⟨f, args, h1, h2.mono fun e w' ⟨v, he, hr⟩ => ⟨v, he, h _ _ hr⟩⟩)

section
variable {P : Program} {w : World} {σ : Sg} {st : St} {a : Act}

theorem rep_undef {ow : Nat → Nat → Prop} {h : Hp} {d : D} {v : Value} (H : Rep w ow σ h d v) : vc d = false → v = undef := by
  induction H with
  | off d => exact fun _ => rfl
  | on d v hr ih => simpa [vc] using ih
  | _ => simp [vc]

/-- Whether a guarded operation is carried out. -/
theorem wanted_eq {ops : List Oper} {o : Oper} {ow : Nat → Nat → Prop} {h : Hp} (hf : ∀ j p t, o.guard = some (j, p) → gslot ops j = some t → Rep w ow σ h (st.fr t) (a.tmps.getD t undef)) (hg : gok st.fr ops o.guard) :
    Region.wanted o (yielded ops.toArray a.tmps) = gcond st.fr ops o.guard := by
  obtain ⟨dst, op, ty, pos, af, gd⟩ := o
  cases gd with
  | none => rfl
  | some jp =>
    obtain ⟨j, p⟩ := jp
    obtain ⟨h1, h2⟩ := hg
    obtain ⟨t, ht⟩ := Option.isSome_iff_exists.1 h1
    have hr := hf j p t rfl ht
    have hgv : gval st.fr ops j = st.fr t := by simp [gval, ht]
    have ht' : (ops[j]?).bind (·.dst) = some t := ht
    simp only [Region.wanted, yielded, gcond, hgv, List.getElem?_toArray, ht', Option.bind_some] at *
    cases hv : vc (st.fr t) with
    | false =>
      have hu := rep_undef hr hv
      cases hx : a.tmps[t]? with
      | none => simp
      | some x =>
        have : x = undef := by
          rw [← hu]
          simp [Array.getD_eq_getD_getElem?, hx]
        subst this
        simp [undef]
    | true =>
      have hb := h2 hv
      have hrep := hr.un hv
      rw [isBool_of hb] at hrep
      generalize hval : a.tmps.getD t undef = x at hrep
      cases hrep with
      | bool b =>
        have hx : a.tmps[t]? = some (.bool (bof (un (st.fr t)))) := by
          rw [Array.getD_eq_getD_getElem?] at hval
          cases hx : a.tmps[t]? with
          | none => rw [hx] at hval; simp [undef] at hval
          | some x => rw [hx] at hval; simpa using hval
        simp [hx]

/-- The slots that an operation looks at: its operands', and its guard's. -/
def looks (ops : List Oper) (o : Oper) (t : Tmp) : Prop := looksTo o.op t ∨ ∃ j p, o.guard = some (j, p) ∧ gslot ops j = some t

theorem rep_wrap {ow : Nat → Nat → Prop} {h : Hp} {d : D} {v : Value} {c : Bool} (g : Option (Nat × Bool)) (H : Rep w ow σ h d v) (hc : c = true) : Rep w ow σ h (wrapG c g d) v := by
  subst hc
  cases g with
  | none => exact H
  | some p => exact .on _ _ H

theorem quiet_sound {ops : List Oper} {o : Oper} {K : D → Prop} (hq : quietOp P ops o st K) :
    ∃ d, K d ∧ ∀ w σ (a : Act), Inv w σ st.h → (∀ t, looks ops o t → Rep w (own σ st.h) σ st.h (st.fr t) (a.tmps.getD t undef)) →
      (Region.wanted o (yielded ops.toArray a.tmps) = true → OpRes P o a w fun v w' => ∃ σ', Inv w' σ' st.h ∧ Rep w' (own σ' st.h) σ' st.h d v ∧ Step w σ st.h w' σ' st.h) ∧
      (Region.wanted o (yielded ops.toArray a.tmps) = false → Rep w (own σ st.h) σ st.h d undef) := by
  obtain ⟨dst, op, ty, pos, af, gd⟩ := o
  obtain ⟨hg, hq⟩ := hq
  have hfalse : ∀ d w σ (a : Act), (∀ t, looks ops ⟨dst, op, ty, pos, af, gd⟩ t → Rep w (own σ st.h) σ st.h (st.fr t) (a.tmps.getD t undef)) →
      Region.wanted ⟨dst, op, ty, pos, af, gd⟩ (yielded ops.toArray a.tmps) = false → Rep w (own σ st.h) σ st.h (wrapG (gcond st.fr ops gd) gd d) undef := by
    intro d w σ a hf hw
    have hwt := wanted_eq (o := ⟨dst, op, ty, pos, af, gd⟩) (ops := ops) (fun j p t e1 e2 => hf t (.inr ⟨j, p, e1, e2⟩)) hg
    rw [hwt] at hw
    simp only at hw
    rw [hw]
    cases gd with
    | none => simp [gcond] at hw
    | some jp => exact .off _
  have hpure : quietPure P ops ⟨dst, op, ty, pos, af, gd⟩ st K → ∃ d, K d ∧ ∀ w σ (a : Act), Inv w σ st.h → (∀ t, looks ops ⟨dst, op, ty, pos, af, gd⟩ t → Rep w (own σ st.h) σ st.h (st.fr t) (a.tmps.getD t undef)) →
      (Region.wanted ⟨dst, op, ty, pos, af, gd⟩ (yielded ops.toArray a.tmps) = true → OpRes P ⟨dst, op, ty, pos, af, gd⟩ a w fun v w' => ∃ σ', Inv w' σ' st.h ∧ Rep w' (own σ' st.h) σ' st.h d v ∧ Step w σ st.h w' σ' st.h) ∧
      (Region.wanted ⟨dst, op, ty, pos, af, gd⟩ (yielded ops.toArray a.tmps) = false → Rep w (own σ st.h) σ st.h d undef) := by
    rintro ⟨h1, h2⟩
    refine ⟨_, h2, fun w σ a hi hf => ⟨fun hw => ?_, hfalse _ w σ a hf⟩⟩
    have hwt := wanted_eq (o := ⟨dst, op, ty, pos, af, gd⟩) (ops := ops) (fun j p t e1 e2 => hf t (.inr ⟨j, p, e1, e2⟩)) hg
    rw [hwt] at hw
    obtain ⟨v, e1, e2⟩ := pure_sound (o := ⟨dst, op, ty, pos, af, gd⟩) hi (fun t ht => hf t (.inl ht)) (h1 hw)
    exact .inl ⟨v, w, e1, σ, hi, rep_wrap gd e2 hw, .refl w σ st.h⟩
  cases op with
  | call c =>
    obtain ⟨callee, args, ts⟩ := c
    cases callee with
    | value f =>
      obtain ⟨d, as, h1, h2⟩ := hq
      refine ⟨_, h2, fun w σ a hi hf => ⟨fun hw => ?_, hfalse _ w σ a hf⟩⟩
      have hwt := wanted_eq (o := ⟨dst, .call ⟨.value f, args, ts⟩, ty, pos, af, gd⟩) (ops := ops) (fun j p t e1 e2 => hf t (.inr ⟨j, p, e1, e2⟩)) hg
      rw [hwt] at hw
      obtain ⟨k1, k2, k3, ⟨k4, k5⟩, k6⟩ := h1 hw
      have hfn := rep_vl (a := a) (fr := st.fr) (x := f) (fun t e => hf t (.inl (by simp [looksTo, Op.operands, Call.operands, e]))) k1
      revert hfn k2 k4 k5 k6
      generalize vl st.fr f = fd
      intro k2 k6 k4 k5 hfn
      generalize hev : a.eval f = fv at hfn
      cases hfn with
      | fn g caps vs hl hr =>
        have hargs : RepL w (own σ st.h) σ st.h (args.toList.map (vl st.fr) ++ caps) (args.toList.map a.eval ++ vs) := by
          refine RepL.append ⟨by simp, fun k h1 h2 => ?_⟩ ⟨hl, hr⟩
          simp only [List.getElem_map]
          have hm : args.toList[k]'(by simpa using h1) ∈ args.toList := List.getElem_mem _
          exact rep_vl (fun t e => hf t (.inl (by
            simp only [looksTo, Op.operands, Call.operands, ← e]
            simp only [Array.mem_append]
            exact .inr (Array.mem_toList_iff.1 hm)))) (k3 _ hm)
        have hc := k5 w σ _ hi (hargs.wk k6)
        refine .inr (.inr ⟨g, (args.toList.map a.eval ++ vs).toArray, ?_, hc.mono fun e w' ⟨v, he, d', h', σ', ⟨q1, q2⟩, q3, q4, q5⟩ => ⟨v, he, σ', ?_, ?_, ?_⟩⟩)
        · have := k4 (args.map a.eval ++ vs.toArray) w
          simp only [fnId] at this
          have e : (args.toList.map a.eval ++ vs).toArray = args.map a.eval ++ vs.toArray := by apply Array.ext'; simp
          rw [e]
          simp [execOp, resolve, Deferred.ofValue, hev, invoke, this]
        · exact q2 ▸ q3
        · subst q1 q2; exact rep_wrap gd q4 hw
        · exact q2 ▸ q5
      | _ => exact absurd k2 (by simp [isFn])
    | _ => exact hpure hq
  | _ => exact hpure hq
end
end Go.Av

/- The operations of a region, one behind the other, with those that make or write memory. -/
namespace Go.Av

def appOk (P : Program) (t : TypeId) (es news : List D) : Prop :=
  isSliceK (ti P t).kind ∧ (ti P (ti P t).elem).has = true ∧ 0 < (ti P (ti P t).elem).sz ∧ (ti P (ti P t).elem).zero.length = (ti P (ti P t).elem).sz ∧ AllSz (ti P (ti P t).elem).sz es ∧ AllSz (ti P (ti P t).elem).sz news ∧
    es.length + news.length ≤ lenMax ∧ (es.length + news.length) * (ti P (ti P t).elem).bs ≤ 140737488355328 ∧ ∀ d, d ∈ flat news → cell1 d

theorem AppOk.of {P : Program} {t : TypeId} {es news : List D} (h : appOk P t es news) : AppOk P t es news :=
  ⟨h.1, h.2.1, h.2.2.1, h.2.2.2.1, h.2.2.2.2.1, h.2.2.2.2.2.1, h.2.2.2.2.2.2.1, h.2.2.2.2.2.2.2.1⟩

def isBuf : Ob → Nat → Prop
  | .buf n, m => n = m
  | _, _ => False

def appGo (P : Program) (t : TypeId) (h : Hp) (s x : D) (K : D → Hp → Prop) : Prop :=
  match s, x with
  | .slice es tok, .slice news _ =>
    appOk P t es news ∧
    match tok with
    | .full => K (.slice (es ++ news) (.buf h.length (ti P (ti P t).elem).sz)) (h ++ [.buf ((es.length + news.length) * (ti P (ti P t).elem).sz)])
    | .buf r sz => sz = (ti P (ti P t).elem).sz ∧ isBuf (ob h r) (es.length * (ti P (ti P t).elem).sz) ∧ K (.slice (es ++ news) (.buf r sz)) (h.set r (.buf ((es.length + news.length) * (ti P (ti P t).elem).sz)))
    | .no => False
  | _, _ => False

def bsGo (P : Program) (mu : Bool) (t : TypeId) (n : Nat) (idx : List Nat) (es : List D) (h : Hp) (K : D → Hp → Prop) : Prop :=
  bsOk P t n idx es ∧
  if mu then K (.vec h.length (isAg (ti P (ti P t).elem).kind) (ti P (ti P t).elem).sz 0 n) (h ++ [.row (flat es)])
  else (∀ e, e ∈ es → Cl 0 e) ∧ K (.slice es .full) h

def muHas (mu : List Nat) : Option Tmp → Bool
  | some t => mu.contains t
  | none => false

def callGo (P : Program) (st : St) (f : Operand) (args : Array Operand) (K : D → Hp → Prop) : Prop :=
  ok1 st.fr f ∧ isFn (vl st.fr f) ∧ allOk1 st.fr args.toList ∧ ∃ Q as, Meets P (fnId (vl st.fr f)) as st.h Q ∧ WkL (args.toList.map (vl st.fr) ++ fnCaps (vl st.fr f)) as ∧ ∀ d h', Q d h' → K d h'

def app2 (P : Program) (st : St) (args : List Operand) (ts : List TypeId) (K : D → Hp → Prop) : Prop :=
  match args, ts with
  | [s, x], [t, t'] => t' = t ∧ ok1 st.fr s ∧ ok1 st.fr x ∧ appGo P t st.h (vl st.fr s) (vl st.fr x) K
  | _, _ => False

def loudOp (P : Program) (mu : List Nat) (o : Oper) (st : St) (K : D → Hp → Prop) : Prop :=
  match o.op with
  | .alloc t => (ti P t).zero.isEmpty = false ∧ K (.ptr st.h.length 0) (st.h ++ [.row (ti P t).zero])
  | .box _ x => ok1 st.fr x ∧ solid (vl st.fr x) ∧ K (.ptr st.h.length 0) (st.h ++ [.row (vl st.fr x).cells])
  | .store t x y => ok1 st.fr x ∧ ok1 st.fr y ∧ storeOk P t st.h (vl st.fr x) (vl st.fr y) ∧ K .junk (storeH st.h (vl st.fr x) (vl st.fr y))
  | .buildSlice t n parts => allOk1 st.fr (parts.toList.map (·.2)) ∧ bsGo P (muHas mu o.dst) t n (parts.toList.map (·.1)) (parts.toList.map fun p => vl st.fr p.2) st.h K
  | .makeSlice t n c => ok1 st.fr n ∧ ok1 st.fr c ∧ mkOk P t (vl st.fr n) (vl st.fr c) ∧ K (.vec st.h.length (isAg (ti P (ti P t).elem).kind) (ti P (ti P t).elem).sz 0 (iof (vl st.fr n)).toNat) (st.h ++ [.row (zeros (ti P (ti P t).elem).zero (iof (vl st.fr n)).toNat)])
  | .call ⟨.builtin .append, args, ts⟩ => app2 P st args.toList ts.toList K
  | .call ⟨.value f, args, _⟩ => callGo P st f args K
  | _ => False

/-- Operations that may change the objects. -/
def isLoud : Op → Bool
  | .alloc _ | .box _ _ | .store _ _ _ | .buildSlice _ _ _ | .makeSlice _ _ _ => true
  | .call ⟨.builtin .append, _, _⟩ => true
  | .call ⟨.value _, _, _⟩ => true
  | _ => false

def evOp (P : Program) (mu : List Nat) (ops : List Oper) (o : Oper) (st : St) (K : St → Prop) : Prop :=
  match o.guard, isLoud o.op with
  | none, true => loudOp P mu o st fun d h => K ⟨putO st.fr o.dst d, h⟩
  | _, _ => quietOp P ops o st fun d => K ⟨putO st.fr o.dst d, st.h⟩

def evOps (P : Program) (mu : List Nat) (ops : List Oper) : List Oper → St → (St → Prop) → Prop
  | [], st, K => K st
  | o :: rest, st, K => evOp P mu ops o st fun st' => evOps P mu ops rest st' K

/-- The state of a call stands for a world and a frame. -/
structure Cnc (n : Nat) (w : World) (σ : Sg) (a : Act) (st : St) : Prop where
  inv : Inv w σ st.h
  defers : a.defers = []
  size : a.tmps.size = n
  fr : ∀ t, Rep w (own σ st.h) σ st.h (st.fr t) (a.tmps.getD t undef)

def dstOk (n : Nat) (o : Oper) : Bool :=
  match o.dst with
  | some t => decide (t < n)
  | none => true

section
variable {P : Program} {w : World} {σ : Sg} {st : St} {a : Act} {n : Nat}

theorem put_tmps (a : Act) (t : Nat) (v : Value) (u : Nat) (ht : t < a.tmps.size) : (a.put (some t) v).tmps.getD u undef = if u = t then v else a.tmps.getD u undef := by
  simp only [Act.put, Array.getD_eq_getD_getElem?, Array.getElem?_setIfInBounds]
  by_cases e : t = u
  · subst e; simp [ht]
  · simp [e, Ne.symm e]

theorem Cnc.put {w' : World} {σ' : Sg} {h' : Hp} {d : D} {v : Value} {dst : Option Tmp} (H : Cnc n w σ a st) (hs : Step w σ st.h w' σ' h') (hi : Inv w' σ' h') (hd : Rep w' (own σ' h') σ' h' d v) (hk : ∀ t, dst = some t → t < n) :
    Cnc n w' σ' (a.put dst v) ⟨putO st.fr dst d, h'⟩ := by
  cases dst with
  | none => exact ⟨hi, H.defers, H.size, fun t => (H.fr t).step hs⟩
  | some t =>
    have ht := hk t rfl
    refine ⟨hi, by simp [Act.put, H.defers], by simp [Act.put, H.size], fun u => ?_⟩
    rw [put_tmps a t v u (by rw [H.size]; exact ht)]
    simp only [putO, Av.put]
    split
    · exact hd
    · exact (H.fr u).step hs

theorem loud_sound {mu : List Nat} {o : Oper} {K : D → Hp → Prop} (H : Cnc n w σ a st) (hq : loudOp P mu o st K) :
    OpRes P o a w fun v w' => ∃ d h' σ', K d h' ∧ Inv w' σ' h' ∧ Rep w' (own σ' h') σ' h' d v ∧ Step w σ st.h w' σ' h' := by
  obtain ⟨dst, op, ty, pos, af, gd⟩ := o
  have V : ∀ x, ok1 st.fr x → Rep w (own σ st.h) σ st.h (vl st.fr x) (a.eval x) := fun x hk => rep_vl (fun t _ => H.fr t) hk
  cases op with
  | alloc t =>
    obtain ⟨v, w', s, h1, h2, h3, h4⟩ := alloc_sound (P := P) H.inv hq.1
    exact .inl ⟨v, w', by simp [execOp, h1], _, _, _, hq.2, h2, h4, h3⟩
  | box t x =>
    obtain ⟨k1, k2, k3⟩ := hq
    obtain ⟨v, w', s, h1, h2, h3, h4⟩ := box_sound (P := P) (t := t) H.inv (V x k1) k2
    exact .inl ⟨v, w', by simp [execOp, h1], _, _, _, k3, h2, h4, h3⟩
  | store t x y =>
    obtain ⟨k1, k2, k3, k4⟩ := hq
    obtain ⟨w', h1, h2, h3⟩ := store_sound (P := P) H.inv (V x k1) (V y k2) k3
    exact .inr (.inl ⟨w', by simp [execOp, h1], _, _, _, k4, h2, .junk _, h3⟩)
  | buildSlice t m parts =>
    obtain ⟨k1, k2, k3⟩ := hq
    have hl : (parts.map fun p => (p.1, a.eval p.2)).toList.length = (parts.toList.map fun p => vl st.fr p.2).length := by simp
    have hr : ∀ (k : Nat) (h1 : k < (parts.toList.map fun p => vl st.fr p.2).length) (h2 : k < (parts.map fun p => (p.1, a.eval p.2)).toList.length),
        Rep w (own σ st.h) σ st.h ((parts.toList.map fun p => vl st.fr p.2)[k]) ((parts.map fun p => (p.1, a.eval p.2)).toList[k]).2 := by
      intro k h1 h2
      simp only [Array.toList_map, List.getElem_map]
      have hm : parts.toList[k]'(by simpa using h1) ∈ parts.toList := List.getElem_mem _
      exact V _ (k1 _ (List.mem_map.2 ⟨_, hm, rfl⟩))
    have hidx : (parts.map fun p => (p.1, a.eval p.2)).toList.map (·.1) = parts.toList.map (·.1) := by simp
    split at k3
    · obtain ⟨v, w', s, h1, h2, h3, h4⟩ := bs_row (P := P) (t := t) (n := m) H.inv (by rw [hidx]; exact k2) hl hr (isAg (ti P (ti P t).elem).kind)
      exact .inl ⟨v, w', by simp [execOp, h1], _, _, _, k3, h2, h4, h3⟩
    · obtain ⟨v, w', h1, h2, h3, h4⟩ := bs_pure (P := P) (t := t) (n := m) H.inv (by rw [hidx]; exact k2) hl hr k3.1
      exact .inl ⟨v, w', by simp [execOp, h1], _, _, _, k3.2, h2, h4, h3⟩
  | makeSlice t n c =>
    obtain ⟨k1, k2, k3, k4⟩ := hq
    obtain ⟨v, w', s, h1, h2, h3, h4⟩ := make_sound (P := P) H.inv (V n k1) (V c k2) k3 (isAg (ti P (ti P t).elem).kind)
    exact .inl ⟨v, w', by simp [execOp, h1], _, _, _, k4, h2, h4, h3⟩
  | call c =>
    obtain ⟨callee, args, ts⟩ := c
    cases callee with
    | value f =>
      obtain ⟨k1, k2, k3, Q, as, ⟨k4, k5⟩, k7, k6⟩ := hq
      have hfn := V f k1
      revert hfn k2 k4 k5 k7
      generalize vl st.fr f = fd
      intro k2 k4 k5 k7 hfn
      generalize hev : a.eval f = fv at hfn
      cases hfn with
      | fn g caps vs hl hr =>
        have hargs : RepL w (own σ st.h) σ st.h (args.toList.map (vl st.fr) ++ caps) (args.toList.map a.eval ++ vs) := by
          refine RepL.append ⟨by simp, fun k h1 h2 => ?_⟩ ⟨hl, hr⟩
          simp only [List.getElem_map]
          exact V _ (k3 _ (List.getElem_mem _))
        have hc := k5 w σ _ H.inv (hargs.wk k7)
        refine .inr (.inr ⟨g, (args.toList.map a.eval ++ vs).toArray, ?_, hc.mono fun e w' ⟨v, he, d', h', σ', q1, q3, q4, q5⟩ => ⟨v, he, d', h', σ', k6 _ _ q1, q3, q4, q5⟩⟩)
        have := k4 (args.map a.eval ++ vs.toArray) w
        simp only [fnId] at this
        have e : (args.toList.map a.eval ++ vs).toArray = args.map a.eval ++ vs.toArray := by apply Array.ext'; simp
        rw [e]
        simp [execOp, resolve, Deferred.ofValue, hev, invoke, this]
      | _ => exact absurd k2 (by simp [isFn])
    | builtin b =>
      cases b with
      | append =>
        obtain ⟨args⟩ := args
        obtain ⟨ts⟩ := ts
        simp only [loudOp, app2] at hq
        match args, ts, hq with
        | [s, x], [t, t'], hq =>
          obtain ⟨rfl, k1, k2, k3⟩ := hq
          have hs := V s k1
          have hx := V x k2
          revert hs hx k3
          generalize vl st.fr s = sd
          generalize vl st.fr x = xd
          intro k3 hs hx
          have hrun : ∀ u w', (Builtin.append_ #[t', t'] ty #[a.eval s, a.eval x]).run P w = .ok u w' → (execOp a.eval ⟨dst, .call ⟨.builtin .append, #[s, x], #[t', t']⟩, ty, pos, af, gd⟩).run P w = .ok (.value u) w' := by
            intro u w' h
            simp [execOp, resolve, invoke, builtin, h]
          cases sd with
          | slice es tok =>
            cases xd with
            | slice news t2 =>
              obtain ⟨g1, g2⟩ := k3
              cases tok with
              | no => exact absurd g2 id
              | full =>
                obtain ⟨u, w', σ', e1, e2, e3, e4⟩ := app_full (P := P) (ty := ty) H.inv hs hx (AppOk.of g1)
                exact .inl ⟨u, w', hrun _ _ e1, _, _, _, g2, e2, e4, e3⟩
              | buf r sz =>
                obtain ⟨rfl, g3, g4⟩ := g2
                have hob : st.h[r]? = some (.buf (es.length * (ti P (ti P t').elem).sz)) := by
                  revert g3
                  unfold ob
                  rw [List.getD_eq_getElem?_getD]
                  cases hh : st.h[r]? with
                  | none => simp [isBuf]
                  | some x => cases x <;> simp [isBuf]
                obtain ⟨u, w', σ', e1, e2, e3, e4⟩ := app_buf (P := P) (ty := ty) H.inv hs hx (AppOk.of g1) g1.2.2.2.2.2.2.2.2 hob
                exact .inl ⟨u, w', hrun _ _ e1, _, _, _, g4, e2, e4, e3⟩
            | _ => exact absurd k3 id
          | _ => exact absurd k3 id
      | _ => exact absurd hq id
    | _ => exact absurd hq id
  | _ => exact absurd hq id

theorem op_sound {mu : List Nat} {ops : List Oper} {o : Oper} {K : St → Prop} (H : Cnc n w σ a st) (hd : dstOk n o = true) (hq : evOp P mu ops o st K) {Q : Exit → Act → World → Prop} {next : Act → World → Prop}
    (hn : ∀ st' σ' a' w', K st' → Cnc n w' σ' a' st' → Step w σ st.h w' σ' st'.h → next a' w') :
    if Region.wanted o (yielded ops.toArray a.tmps) then o.wp P a w next Q else next (a.put o.dst undef) w := by
  have hdst : ∀ t, o.dst = some t → t < n := by
    intro t e
    simp only [dstOk, e, decide_eq_true_eq] at hd
    exact hd
  have hquiet : quietOp P ops o st (fun d => K ⟨putO st.fr o.dst d, st.h⟩) → if Region.wanted o (yielded ops.toArray a.tmps) then o.wp P a w next Q else next (a.put o.dst undef) w := by
    intro hq
    obtain ⟨d, h1, h2⟩ := quiet_sound hq
    obtain ⟨h3, h4⟩ := h2 w σ a H.inv (fun t _ => H.fr t)
    cases hw : Region.wanted o (yielded ops.toArray a.tmps) with
    | true =>
      simp only [if_true]
      exact (h3 hw).wp fun v w' ⟨σ', q1, q2, q3⟩ => hn _ σ' _ w' h1 (H.put q3 q1 q2 hdst) q3
    | false =>
      simp only [Bool.false_eq_true, if_false]
      exact hn _ σ _ w h1 (H.put (.refl w σ st.h) H.inv (h4 hw) hdst) (.refl w σ st.h)
  unfold evOp at hq
  split at hq
  · rename_i hg _
    have hw : Region.wanted o (yielded ops.toArray a.tmps) = true := by simp [Region.wanted, hg]
    rw [hw]
    simp only [if_true]
    exact (loud_sound H hq).wp fun v w' ⟨d, h', σ', q0, q1, q2, q3⟩ => hn _ σ' _ w' q0 (H.put q3 q1 q2 hdst) q3
  · exact hquiet hq

theorem ops_sound {mu : List Nat} {ops : List Oper} {Q : Exit → Act → World → Prop} : ∀ (rest : List Oper) (st : St) (K : St → Prop), (rest.all (dstOk n)) = true → evOps P mu ops rest st K → ∀ w σ a, Cnc n w σ a st →
    (∀ st' σ' a' w', K st' → Cnc n w' σ' a' st' → Step w σ st.h w' σ' st'.h → Q .normal a' w') → wpList P ops.toArray Q rest a w
  | [], st, K, _, hk, w, σ, a, H, hQ => hQ st σ a w hk H (.refl w σ st.h)
  | o :: rest, st, K, hd, hk, w, σ, a, H, hQ => by
    simp only [List.all_cons, Bool.and_eq_true] at hd
    refine wpList_step fun K' hK' => ?_
    refine op_sound H hd.1 hk fun st' σ' a' w' k1 k2 k3 => hK' _ _ ?_
    exact ops_sound rest st' K hd.2 k1 w' σ' a' k2 fun st'' σ'' a'' w'' q1 q2 q3 => hQ st'' σ'' a'' w'' q1 q2 (k3.trans q3)
end
end Go.Av

/- Regions that draw their order: the lexical order serves every order. -/
namespace Go.Av

/-- What a quiet operation yields. -/
def quietY (P : Program) (ops : List Oper) (o : Oper) (st : St) (d : D) : Prop :=
  gok st.fr ops o.guard ∧
  match o.op with
  | .call ⟨.value f, args, _⟩ => ∃ d0 as, (gcond st.fr ops o.guard = true → ok1 st.fr f ∧ isFn (vl st.fr f) ∧ allOk1 st.fr args.toList ∧ Gives P (fnId (vl st.fr f)) as st.h d0 ∧ WkL (args.toList.map (vl st.fr) ++ fnCaps (vl st.fr f)) as) ∧ d = wrapG (gcond st.fr ops o.guard) o.guard d0
  | _ => (gcond st.fr ops o.guard = true → pureOk P st o.op) ∧ d = wrapG (gcond st.fr ops o.guard) o.guard (pureD P st o.op)

section
variable {P : Program} {ops : List Oper} {st : St} {a : Act}

theorem quietOp_iff {o : Oper} {K : D → Prop} : quietOp P ops o st K ↔ ∃ d, quietY P ops o st d ∧ K d := by
  obtain ⟨dst, op, ty, pos, af, gd⟩ := o
  have hp : (gok st.fr ops gd ∧ quietPure P ops ⟨dst, op, ty, pos, af, gd⟩ st K) ↔ ∃ d, (gok st.fr ops gd ∧ ((gcond st.fr ops gd = true → pureOk P st op) ∧ d = wrapG (gcond st.fr ops gd) gd (pureD P st op))) ∧ K d := by
    constructor
    · rintro ⟨h1, h2, h3⟩; exact ⟨_, ⟨h1, h2, rfl⟩, h3⟩
    · rintro ⟨d, ⟨h1, h2, rfl⟩, h3⟩; exact ⟨h1, h2, h3⟩
  cases op with
  | call c =>
    obtain ⟨callee, args, ts⟩ := c
    cases callee with
    | value f =>
      constructor
      · rintro ⟨h1, d, as, h2, h3⟩; exact ⟨_, ⟨h1, d, as, h2, rfl⟩, h3⟩
      · rintro ⟨d, ⟨h1, d0, as, h2, rfl⟩, h3⟩; exact ⟨h1, d0, as, h2, h3⟩
    | _ => exact hp
  | _ => exact hp

theorem opd_congr {fr fr' : Fr} {x : Operand} (h : ∀ t, x = .tmp t → fr t = fr' t) : opd fr x = opd fr' x := by
  cases x with
  | tmp t => exact h t rfl
  | _ => rfl
theorem vl_congr {fr fr' : Fr} {x : Operand} (h : ∀ t, x = .tmp t → fr t = fr' t) : vl fr x = vl fr' x := by simp only [vl, opd_congr h]
theorem ok1_congr {fr fr' : Fr} {x : Operand} (h : ∀ t, x = .tmp t → fr t = fr' t) : ok1 fr x = ok1 fr' x := by simp only [ok1, opd_congr h]

theorem gval_congr {fr fr' : Fr} {j : Nat} (h : ∀ t, gslot ops j = some t → fr t = fr' t) : gval fr ops j = gval fr' ops j := by
  unfold gval
  split
  · rename_i t ht; exact h t ht
  · rfl
theorem gcond_congr {fr fr' : Fr} {g : Option (Nat × Bool)} (h : ∀ j p t, g = some (j, p) → gslot ops j = some t → fr t = fr' t) : gcond fr ops g = gcond fr' ops g := by
  cases g with
  | none => rfl
  | some jp => obtain ⟨j, p⟩ := jp; simp only [gcond, gval_congr (h j p · rfl)]
theorem gok_congr {fr fr' : Fr} {g : Option (Nat × Bool)} (h : ∀ j p t, g = some (j, p) → gslot ops j = some t → fr t = fr' t) : gok fr ops g = gok fr' ops g := by
  cases g with
  | none => rfl
  | some jp => obtain ⟨j, p⟩ := jp; simp only [gok, gval_congr (h j p · rfl)]

theorem map_vl_congr {fr fr' : Fr} {l : List Operand} (h : ∀ x, x ∈ l → ∀ t, x = .tmp t → fr t = fr' t) : l.map (vl fr) = l.map (vl fr') := List.map_congr_left fun x hx => vl_congr (h x hx)
theorem allOk1_congr {fr fr' : Fr} {l : List Operand} (h : ∀ x, x ∈ l → ∀ t, x = .tmp t → fr t = fr' t) : allOk1 fr l = allOk1 fr' l := by
  apply propext
  unfold allOk1
  constructor <;> intro H x hx
  · rw [← ok1_congr (h x hx)]; exact H x hx
  · rw [ok1_congr (h x hx)]; exact H x hx

theorem pure_congr {fr fr' : Fr} {h : Hp} {op : Op} (H : ∀ t, looksTo op t → fr t = fr' t) : pureD P ⟨fr, h⟩ op = pureD P ⟨fr', h⟩ op ∧ pureOk P ⟨fr, h⟩ op = pureOk P ⟨fr', h⟩ op := by
  have E : ∀ x, x ∈ op.operands → ∀ t, x = .tmp t → fr t = fr' t := fun x hx t e => H t (by unfold looksTo; rw [← e]; exact hx)
  have V : ∀ x, x ∈ op.operands → vl fr x = vl fr' x := fun x hx => vl_congr (E x hx)
  have O : ∀ x, x ∈ op.operands → ok1 fr x = ok1 fr' x := fun x hx => ok1_congr (E x hx)
  have M : ∀ x : Option Operand, (∀ y, x = some y → y ∈ op.operands) → x.map (vl fr) = x.map (vl fr') ∧ okO fr x = okO fr' x := by
    intro x hx
    cases x with
    | none => exact ⟨rfl, rfl⟩
    | some y => exact ⟨by simp [V y (hx y rfl)], O y (hx y rfl)⟩
  cases op with
  | move x => exact ⟨opd_congr (E x (by simp [Op.operands])), rfl⟩
  | assign x => exact ⟨opd_congr (E x (by simp [Op.operands])), rfl⟩
  | pick c x y => simp only [pureD, pureOk, V c (by simp [Op.operands]), V x (by simp [Op.operands]), V y (by simp [Op.operands]), O c (by simp [Op.operands]), O x (by simp [Op.operands]), O y (by simp [Op.operands]), and_self]
  | load t x => simp only [pureD, pureOk, V x (by simp [Op.operands]), O x (by simp [Op.operands]), and_self]
  | fieldAddr s x f => simp only [pureD, pureOk, V x (by simp [Op.operands]), O x (by simp [Op.operands]), and_self]
  | indexAddr t x i => simp only [pureD, pureOk, V x (by simp [Op.operands]), O x (by simp [Op.operands]), V i (by simp [Op.operands]), O i (by simp [Op.operands]), and_self]
  | index t x i => simp only [pureD, pureOk, V x (by simp [Op.operands]), O x (by simp [Op.operands]), V i (by simp [Op.operands]), O i (by simp [Op.operands]), and_self]
  | binOp op t x y ty => simp only [pureD, pureOk, V x (by simp [Op.operands]), O x (by simp [Op.operands]), V y (by simp [Op.operands]), O y (by simp [Op.operands]), and_self]
  | unOp op t x => simp only [pureD, pureOk, V x (by simp [Op.operands]), O x (by simp [Op.operands]), and_self]
  | extract x i => simp only [pureD, pureOk, V x (by simp [Op.operands]), O x (by simp [Op.operands]), and_self]
  | slice t x lo hi mx =>
    obtain ⟨l1, l2⟩ := M lo (fun y e => by simp [Op.operands, e])
    obtain ⟨h1, h2⟩ := M hi (fun y e => by simp [Op.operands, e])
    obtain ⟨m1, m2⟩ := M mx (fun y e => by simp [Op.operands, e])
    simp only [pureD, pureOk, V x (by simp [Op.operands]), O x (by simp [Op.operands]), l1, l2, h1, h2, m1, m2, and_self]
  | nilCheck x => simp only [pureD, pureOk, V x (by simp [Op.operands]), O x (by simp [Op.operands]), and_self]
  | makeFunc fn first caps =>
    have hc : ∀ x, x ∈ caps.toList → ∀ t, x = .tmp t → fr t = fr' t := fun x hx => E x (by simp [Op.operands] at hx ⊢; exact .inr hx)
    cases fn <;> simp only [pureD, pureOk, map_vl_congr hc, allOk1_congr hc, and_self]
  | build t parts =>
    have hm : (parts.toList.map fun p => (p.1, vl fr p.2)) = parts.toList.map fun p => (p.1, vl fr' p.2) := List.map_congr_left fun p hp => by
      rw [V p.2 (by simp only [Op.operands, List.mem_toArray]; exact List.mem_map.2 ⟨p, hp, rfl⟩)]
    have ho : allOk1 fr (parts.toList.map (·.2)) = allOk1 fr' (parts.toList.map (·.2)) := allOk1_congr fun x hx => E x (by simp only [Op.operands, List.mem_toArray]; exact hx)
    simp only [pureD, pureOk, hm, ho, and_self]
  | convert src dst x => simp only [pureD, pureOk, V x (by simp [Op.operands]), O x (by simp [Op.operands]), and_self]
  | call c =>
    obtain ⟨callee, args, ts⟩ := c
    cases callee with
    | builtin b =>
      have hargs : ∀ x, x ∈ args.toList → x ∈ Op.operands (.call ⟨.builtin b, args, ts⟩) := fun x hx => by simp [Op.operands, Call.operands] at hx ⊢; exact hx
      simp only [pureD, pureOk, builtinD, builtinOk]
      obtain ⟨args⟩ := args
      obtain ⟨ts⟩ := ts
      simp only at hargs
      rcases args with _ | ⟨x, _ | ⟨y, _ | ⟨z, args⟩⟩⟩ <;> (try rcases ts with _ | ⟨t, _ | ⟨t2, ts⟩⟩) <;> cases b <;> simp_all
    | _ => exact ⟨rfl, rfl⟩
  | _ => exact ⟨rfl, rfl⟩
end
end Go.Av

/- Regions that draw their order: the lexical order serves every order (2). -/
namespace Go.Av

def evQs (P : Program) (ops : List Oper) : List Oper → St → (St → Prop) → Prop
  | [], st, K => K st
  | o :: rest, st, K => quietOp P ops o st fun d => evQs P ops rest ⟨putO st.fr o.dst d, st.h⟩ K

section
variable {P : Program} {ops : List Oper} {h : Hp}

theorem quietY_congr {fr fr' : Fr} {o : Oper} {d : D} (H : ∀ t, looks ops o t → fr t = fr' t) (hq : quietY P ops o ⟨fr, h⟩ d) : quietY P ops o ⟨fr', h⟩ d := by
  obtain ⟨dst, op, ty, pos, af, gd⟩ := o
  obtain ⟨hg, hq⟩ := hq
  have hgs : ∀ j p t, gd = some (j, p) → gslot ops j = some t → fr t = fr' t := fun j p t e1 e2 => H t (.inr ⟨j, p, e1, e2⟩)
  simp only [gok_congr (ops := ops) hgs] at hg
  refine ⟨hg, ?_⟩
  have hpure : ((gcond fr ops gd = true → pureOk P ⟨fr, h⟩ op) ∧ d = wrapG (gcond fr ops gd) gd (pureD P ⟨fr, h⟩ op)) → ((gcond fr' ops gd = true → pureOk P ⟨fr', h⟩ op) ∧ d = wrapG (gcond fr' ops gd) gd (pureD P ⟨fr', h⟩ op)) := by
    obtain ⟨e1, e2⟩ := pure_congr (P := P) (h := h) (op := op) (fr := fr) (fr' := fr') (fun t ht => H t (.inl ht))
    rw [gcond_congr (ops := ops) hgs, e1, e2]
    exact id
  cases op with
  | call c =>
    obtain ⟨callee, args, ts⟩ := c
    cases callee with
    | value f =>
      have hf : ∀ t, f = .tmp t → fr t = fr' t := fun t e => H t (.inl (by simp [looksTo, Op.operands, Call.operands, e]))
      have ha : ∀ x, x ∈ args.toList → ∀ t, x = .tmp t → fr t = fr' t := fun x hx t e => H t (.inl (by
        simp only [looksTo, Op.operands, Call.operands, ← e, Array.mem_append]
        exact .inr (Array.mem_toList_iff.1 hx)))
      simp only at hq ⊢
      rw [gcond_congr (ops := ops) hgs, ok1_congr hf, vl_congr hf, allOk1_congr ha, map_vl_congr ha] at hq
      exact hq
    | _ => exact hpure hq
  | _ => exact hpure hq

/-- Operation number i is carried out. -/
def qAt (P : Program) (ops : List Oper) (h : Hp) (i : Nat) (K : Fr → Prop) (fr : Fr) : Prop :=
  match ops[i]? with
  | none => K fr
  | some o => ∃ d, quietY P ops o ⟨fr, h⟩ d ∧ K (putO fr o.dst d)

theorem qAt_mono {i : Nat} {fr : Fr} {K K' : Fr → Prop} (hk : ∀ fr, K fr → K' fr) (H : qAt P ops h i K fr) : qAt P ops h i K' fr := by
  unfold qAt at *
  split
  · exact hk _ (by simpa [*] using H)
  · rename_i o ho
    simp only [ho] at H
    exact let ⟨d, h1, h2⟩ := H; ⟨d, h1, hk _ h2⟩

def anyA (P : Program) (ops : List Oper) (h : Hp) (K : Fr → Prop) : Nat → Array Bool → Fr → Prop
  | 0, listed, fr => Region.ready .any ops.toArray listed = [] ∧ K fr
  | fuel + 1, listed, fr => (Region.ready .any ops.toArray listed = [] → K fr) ∧ ∀ i ∈ Region.ready .any ops.toArray listed, qAt P ops h i (anyA P ops h K fuel (listed.setIfInBounds i true)) fr

theorem putO_comm (fr : Fr) {x y : Option Tmp} (d e : D) (hxy : ∀ t, x = some t → y ≠ some t) : putO (putO fr x d) y e = putO (putO fr y e) x d := by
  cases x with
  | none => rfl
  | some t =>
    cases y with
    | none => rfl
    | some u =>
      have hne : t ≠ u := fun e => hxy t rfl (e ▸ rfl)
      funext k
      simp only [putO, put]
      by_cases h1 : k = t <;> by_cases h2 : k = u <;> simp_all

theorem looks_iff {o : Oper} {t : Tmp} : t ∈ o.looksAt ops.toArray ↔ looks ops o t := by
  unfold Oper.looksAt looks looksTo
  simp only [List.mem_append, List.mem_filterMap]
  constructor
  · rintro (⟨x, h1, h2⟩ | h)
    · cases x <;> simp at h2
      subst h2
      exact .inl (Array.mem_toList_iff.1 h1)
    · cases hg : o.guard with
      | none => simp [hg] at h
      | some jp =>
        obtain ⟨j, p⟩ := jp
        simp [hg] at h
        refine .inr ⟨j, p, rfl, ?_⟩
        simp [gslot]
        exact h
  · rintro (h1 | ⟨j, p, h1, h2⟩)
    · exact .inl ⟨.tmp t, Array.mem_toList_iff.2 h1, rfl⟩
    · refine .inr ?_
      simp [h1]
      simpa [gslot] using h2

theorem putO_looks {fr : Fr} {o oj : Oper} {d : D} (hap : ∀ t, oj.dst = some t → ¬ looks ops o t) : ∀ t, looks ops o t → fr t = putO fr oj.dst d t := by
  intro t ht
  cases hd : oj.dst with
  | none => rfl
  | some u =>
    simp only [putO, put]
    rw [if_neg]
    rintro rfl
    exact hap t hd ht

theorem qAt_put {j : Nat} {oi oj : Oper} {d : D} (hj : ops[j]? = some oj) (hap : oi.apart ops.toArray oj = true) {K : Fr → Prop} {fr : Fr} (hy : quietY P ops oi ⟨fr, h⟩ d) (H : qAt P ops h j K (putO fr oi.dst d)) :
    qAt P ops h j (fun fr' => quietY P ops oi ⟨fr', h⟩ d ∧ K (putO fr' oi.dst d)) fr := by
  obtain ⟨h1, h2, h3⟩ := Oper.apart_spec hap
  unfold qAt at *
  simp only [hj] at *
  obtain ⟨e, g1, g2⟩ := H
  refine ⟨e, quietY_congr (fun t ht => (putO_looks (fun u hu hl => h1 u hu (looks_iff.2 hl)) t ht).symm) g1, quietY_congr (putO_looks (fun u hu hl => h3 u hu (looks_iff.2 hl))) hy, ?_⟩
  rw [← putO_comm fr d e h2]
  exact g2

theorem anyA_first {K : Fr → Prop} {i : Nat} {oi : Oper} {d : D} (hi : ops[i]? = some oi) :
    ∀ (fuel : Nat) (listed : Array Bool) (fr : Fr),
      (∀ j oj, ops[j]? = some oj → j ≠ i → listed.getD j true = false → (∀ e ∈ oj.after, Region.binds .any e = true → e.on ≠ i) → oi.apart ops.toArray oj = true) →
      i ∈ Region.ready .any ops.toArray listed → quietY P ops oi ⟨fr, h⟩ d →
      anyA P ops h K fuel (listed.setIfInBounds i true) (putO fr oi.dst d) → anyA P ops h K (fuel + 1) listed fr := by
  intro fuel
  have hself : ∀ {fr : Fr} {K' : Fr → Prop}, quietY P ops oi ⟨fr, h⟩ d → K' (putO fr oi.dst d) → qAt P ops h i K' fr := fun hy hk => by
    unfold qAt
    simp only [hi]
    exact ⟨d, hy, hk⟩
  induction fuel with
  | zero =>
    intro listed fr _ hr hy H
    refine ⟨fun h => (by rw [h] at hr; cases hr), fun j hj => ?_⟩
    by_cases hji : j = i
    · subst hji; exact hself hy H
    · have := ready_mono hj hji
      rw [H.1] at this
      cases this
  | succ fuel ih =>
    intro listed fr hfree hr hy H
    refine ⟨fun h => (by rw [h] at hr; cases hr), fun j hj => ?_⟩
    by_cases hji : j = i
    · subst hji; exact hself hy H
    · have h1 := H.2 j (ready_mono hj hji)
      obtain ⟨hjun, oj, hoj, hall⟩ := mem_ready.1 hj
      have hoj' : ops[j]? = some oj := by simpa using hoj
      have hnot : ∀ e ∈ oj.after, Region.binds .any e = true → e.on ≠ i := fun e he hb heq => by
        have h1 := hall e he hb
        have h0 := (mem_ready.1 hr).1
        rw [heq] at h1
        rcases Nat.lt_or_ge i listed.size with h' | h'
        · simp [h'] at h0 h1; rw [h0] at h1; cases h1
        · simp [Array.getElem?_eq_none h'] at h1
      have h2 := qAt_put hoj' (hfree j oj hoj' hji hjun hnot) hy h1
      have hfree' : ∀ k ok, ops[k]? = some ok → k ≠ i → (listed.setIfInBounds j true).getD k true = false →
          (∀ e ∈ ok.after, Region.binds .any e = true → e.on ≠ i) → oi.apart ops.toArray ok = true := fun k ok hk hki hun hno => by
        refine hfree k ok hk hki ?_ hno
        by_cases hjk : j = k
        · subst hjk; exact hjun
        · rw [getD_set_ne true hjk] at hun; exact hun
      refine qAt_mono (fun fr' h3 => ih (listed.setIfInBounds j true) fr' hfree' (ready_mono hr (Ne.symm hji)) h3.1 ?_) h2
      rw [Array.setIfInBounds_comm _ _ hji]
      exact h3.2

theorem anyA_lex {K : Fr → Prop} : ∀ (l : List Oper) (k : Nat) (listed : Array Bool) (fr : Fr), (∀ j, l[j]? = ops[k + j]?) →
    Region.lexFrom .any ops.toArray l.length k listed = true → evQs P ops l ⟨fr, h⟩ (fun st => st.h = h → K st.fr) → anyA P ops h K l.length listed fr
  | [], _, _, _, _, hB, H => ⟨by simpa [Region.lexFrom] using hB, H rfl⟩
  | o :: l, k, listed, fr, hl, hB, H => by
    have h0 : ops[k]? = some o := by simpa using (hl 0).symm
    simp only [List.length_cons, Region.lexFrom, Bool.and_eq_true] at hB
    obtain ⟨⟨hr, hf⟩, hB'⟩ := hB
    obtain ⟨d, hy, hK⟩ := quietOp_iff.1 H
    exact anyA_first h0 l.length listed fr (fun j oj hj hne hun hno => Region.free_spec (by simpa using h0) hf j oj (by simpa using hj) hne hun hno) (by simpa using hr) hy
      (anyA_lex l (k + 1) _ _ (fun j => by have := hl (j + 1); simpa [Nat.add_assoc, Nat.add_comm 1 j] using this) hB' hK)
end

section
variable {P : Program} {ops : List Oper} {n : Nat}

theorem quietY_op {o : Oper} {st : St} {d : D} (hy : quietY P ops o st d) : quietOp P ops o st (fun d' => d' = d) := quietOp_iff.2 ⟨d, hy, rfl⟩

theorem any_sound {K : Fr → Prop} {h : Hp} {Q : Exit → Act → World → Prop} (hd : ops.all (dstOk n) = true) : ∀ (fuel : Nat) (listed : Array Bool) (fr : Fr) (w : World) (σ : Sg) (a : Act), Cnc n w σ a ⟨fr, h⟩ → anyA P ops h K fuel listed fr →
    (∀ fr' σ' a' w', K fr' → Cnc n w' σ' a' ⟨fr', h⟩ → Step w σ h w' σ' h → Q .normal a' w') → wpAny P .any ops.toArray Q fuel listed a w
  | 0, listed, fr, w, σ, a, H, hA, hQ => ⟨hA.1, hQ fr σ a w hA.2 H (.refl w σ h)⟩
  | fuel + 1, listed, fr, w, σ, a, H, hA, hQ => by
    refine ⟨fun hr => hQ fr σ a w (hA.1 hr) H (.refl w σ h), fun i hi => ?_⟩
    have hq := hA.2 i hi
    unfold qAt at hq
    unfold wpOp
    simp only [List.getElem?_toArray]
    cases ho : ops[i]? with
    | none =>
      simp only [ho] at hq ⊢
      exact any_sound hd fuel _ fr w σ a H hq hQ
    | some o =>
      simp only [ho] at hq ⊢
      obtain ⟨d, hy, hk⟩ := hq
      obtain ⟨d', rfl, hs⟩ := quiet_sound (quietY_op hy)
      obtain ⟨h3, h4⟩ := hs w σ a H.inv (fun t _ => H.fr t)
      have hdst : ∀ t, o.dst = some t → t < n := by
        intro t e
        have := List.all_eq_true.1 hd o (List.mem_of_getElem? ho)
        simp only [dstOk, e, decide_eq_true_eq] at this
        exact this
      cases hw : Region.wanted o (yielded ops.toArray a.tmps) with
      | true =>
        simp only [if_true]
        exact .inl ((h3 hw).wp fun v w' ⟨σ', q1, q2, q3⟩ => any_sound hd fuel _ _ w' σ' _ (H.put q3 q1 q2 hdst) hk fun fr' σ'' a' w'' r1 r2 r3 => hQ fr' σ'' a' w'' r1 r2 (q3.trans r3))
      | false =>
        simp only [Bool.false_eq_true, if_false]
        exact any_sound hd fuel _ _ w σ _ (H.put (.refl w σ h) H.inv (h4 hw) hdst) hk hQ

theorem inv_drew {w : World} {σ : Sg} {h : Hp} (hi : Inv w σ h) : Inv w.drew σ h ∧ Step w σ h w.drew σ h := inv_same hi (Adds.refl w).drew

/-- A region that draws its order. -/
theorem draw_sound {id : Nat} {st : St} {w : World} {σ : Sg} {a : Act} {K : St → Prop} {Q : Exit → Act → World → Prop} (hm : P.follows .mixedOrders = true) (hd : ops.all (dstOk n) = true) (hB : Region.lexB .any ops.toArray = true)
    (H : Cnc n w σ a st) (hq : evQs P ops ops st K) (hQ : ∀ st' σ' a' w', K st' → Cnc n w' σ' a' st' → Step w σ st.h w' σ' st'.h → Q .normal a' w') : (Code.region id ops.toArray true).wp P Q a w := by
  refine wp_region_any hm ?_
  obtain ⟨g1, g2⟩ := inv_drew H.inv
  have H' : Cnc n w.drew σ a ⟨st.fr, st.h⟩ := ⟨g1, H.defers, H.size, fun t => (H.fr t).step g2⟩
  simp only [Region.lexB, Bool.and_eq_true] at hB
  have hmono : ∀ (l : List Oper) (fr : Fr), evQs P ops l ⟨fr, st.h⟩ K → evQs P ops l ⟨fr, st.h⟩ (fun st' => st'.h = st.h → K ⟨st'.fr, st.h⟩) := by
    intro l
    induction l with
    | nil => intro fr hk _; exact hk
    | cons o l ih =>
      intro fr hk
      obtain ⟨d, h1, h2⟩ := quietOp_iff.1 hk
      exact quietOp_iff.2 ⟨d, h1, ih _ h2⟩
  have hA := anyA_lex (K := fun fr => K ⟨fr, st.h⟩) ops 0 (Array.replicate ops.length false) st.fr (by simp) (by simpa using hB.2) (hmono ops st.fr hq)
  simp only [List.size_toArray]
  exact any_sound hd ops.length _ st.fr w.drew σ a H' hA fun fr' σ' a' w' k1 k2 k3 => hQ ⟨fr', st.h⟩ σ' a' w' k1 k2 (g2.trans k3)
end
end Go.Av

/- Code: sequences, tests, blocks, loops; a function's contract out of its body. -/
namespace Go.Av

def thenE (next : St → Prop) (Q : Exit → St → Prop) : Exit → St → Prop
  | .normal, st => next st
  | e, st => Q e st
def blockE (id : Nat) (Q : Exit → St → Prop) : Exit → St → Prop
  | .exit id', st => if id' = id then Q .normal st else Q (.exit id') st
  | e, st => Q e st

/-- st'' may be seen as st0, whose objects are the first of st'''s; 'st' is a state ahead, of fewer objects or as many, out of which what has not turned is known to be closed. -/
structure Weak (st st'' st0 : St) : Prop where
  le : st.h.length ≤ st0.h.length
  le' : st0.h.length ≤ st''.h.length
  heap : st''.h.take st0.h.length = st0.h
  ob : ∀ (r : Nat) x, st0.h[r]? = some x → st.h[r]? = some x ∨ ObCl st0.h.length x
  fr : ∀ t, (st0.fr t = st.fr t ∧ st''.fr t = st.fr t) ∨ (Wk (st''.fr t) (st0.fr t) ∧ Cl st0.h.length (st0.fr t))

/-- A full slice gets a buffer of its own. -/
def tokSt (st : St) (p : Nat × Nat) : St :=
  match st.fr p.1 with
  | .slice es .full => ⟨put st.fr p.1 (.slice es (.buf st.h.length p.2)), st.h ++ [.buf (es.length * p.2)]⟩
  | _ => st
def tokOk (st : St) (p : Nat × Nat) : Prop :=
  match st.fr p.1 with
  | .slice es .full => AllSz p.2 es
  | _ => True
def tokSts (st : St) : List (Nat × Nat) → St
  | [] => st
  | p :: ps => tokSts (tokSt st p) ps
def tokOks (st : St) : List (Nat × Nat) → Prop
  | [] => True
  | p :: ps => tokOk st p ∧ tokOks (tokSt st p) ps

/-- A round has ended well. -/
def RoundOk (I : Nat → St → Prop) (m : Nat) (st' st'' : St) : Prop := ∃ m' st0, m' < m ∧ I m' st0 ∧ Weak st' st'' st0

def loopGo (body : St → (Exit → St → Prop) → Prop) (Q : Exit → St → Prop) (st : St) : Prop :=
  ∃ (toks : List (Nat × Nat)) (I : Nat → St → Prop), tokOks st toks ∧ (∃ m st0, I m st0 ∧ Weak (tokSts st toks) (tokSts st toks) st0) ∧
    ∀ m st', I m st' → body st' (thenE (RoundOk I m st') Q)

def ev (P : Program) (mu : List Nat) : Code → (Exit → St → Prop) → St → Prop
  | .skip, Q, st => Q .normal st
  | .label _, Q, st => Q .normal st
  | .region _ ops draw, Q, st => if draw then evQs P ops.toList ops.toList st (Q .normal) else evOps P mu ops.toList ops.toList st (Q .normal)
  | .seq a b, Q, st => ev P mu a (thenE (ev P mu b Q) Q) st
  | .cond c a b, Q, st => ok1 st.fr c ∧ isBool (vl st.fr c) ∧ (bof (vl st.fr c) = true → ev P mu a Q st) ∧ (bof (vl st.fr c) = false → ev P mu b Q st)
  | .block id c, Q, st => ev P mu c (blockE id Q) st
  | .exit id, Q, st => Q (.exit id) st
  | .ret, Q, st => Q .ret st
  | .loop c, Q, st => loopGo (fun st' Q' => ev P mu c Q' st') Q st
  | _, _, _ => False

/-- What is asked of the code alone: it writes no slot that is not there, and its regions that draw can be taken in the order of the text. -/
def fits (n : Nat) : Code → Bool
  | .region _ ops draw => ops.toList.all (dstOk n) && (!draw || Region.lexB .any ops)
  | .seq a b => fits n a && fits n b
  | .cond _ a b => fits n a && fits n b
  | .block _ c => fits n c
  | .loop c => fits n c
  | _ => true

section
variable {P : Program} {n : Nat}

theorem tok_sound {w : World} {σ : Sg} {a : Act} {st : St} {p : Nat × Nat} (H : Cnc n w σ a st) (hk : tokOk st p) : ∃ σ', Cnc n w σ' a (tokSt st p) ∧ Step w σ st.h w σ' (tokSt st p).h := by
  unfold tokOk at hk
  unfold tokSt
  split
  · rename_i es he
    simp only [he] at hk
    obtain ⟨g1, g2⟩ := inv_add H.inv (Adds.refl w) none (.buf (es.length * p.2)) (fun b e => by cases e) (fun cs e => by cases e)
    refine ⟨_, ⟨g1, H.defers, H.size, fun t => ?_⟩, g2⟩
    simp only [put]
    split
    · rename_i e
      subst e
      have hr := (H.fr p.1).step g2
      rw [he] at hr
      have hfl := flat_length hk
      generalize a.tmps.getD p.1 undef = v at hr
      cases hr with
      | slice _ _ a cap vs hlen hcap hf htok hc hrr =>
        refine .slice es _ a cap vs hlen hcap (fun e => nomatch e) (fun r sz e => ?_) hc hrr
        cases e
        refine ⟨by simp, hfl, fun m hm => ?_⟩
        rw [List.getElem?_append_right (Nat.le_refl _)] at hm
        simp at hm
        exact ⟨by omega, fun _ => .inl (hf rfl)⟩
    · exact (H.fr t).step g2
  · exact ⟨σ, H, .refl w σ st.h⟩

theorem toks_sound {w : World} {a : Act} : ∀ (ps : List (Nat × Nat)) {σ : Sg} {st : St}, Cnc n w σ a st → tokOks st ps → ∃ σ', Cnc n w σ' a (tokSts st ps) ∧ Step w σ st.h w σ' (tokSts st ps).h
  | [], σ, st, H, _ => ⟨σ, H, .refl w σ st.h⟩
  | p :: ps, σ, st, H, hk => by
    obtain ⟨σ', h1, h2⟩ := tok_sound H hk.1
    obtain ⟨σ'', h3, h4⟩ := toks_sound ps h1 hk.2
    exact ⟨σ'', h3, h2.trans h4⟩

theorem weak_sound {w w'' : World} {σ σ'' : Sg} {a a'' : Act} {st st'' st0 : St} (H : Cnc n w σ a st) (H'' : Cnc n w'' σ'' a'' st'') (W : Weak st st'' st0) : Cnc n w'' (σ''.take st0.h.length) a'' st0 := by
  have hcl : ∀ (r : Nat) x, r < st0.h.length → st''.h[r]? = some x → ObCl st0.h.length x := by
    intro r x hr hx
    have : st0.h[r]? = some x := by rw [← W.heap, getElem?_take_lt hr]; exact hx
    rcases W.ob r x this with q | q
    · have := H.inv.cl q
      cases x with
      | row cs => exact fun d hd => (this d hd).mono W.le
      | dead => trivial
      | buf m => trivial
    · exact q
  have hinv := H''.inv.take W.le' hcl
  rw [W.heap] at hinv
  refine ⟨hinv, H''.defers, H''.size, fun t => ?_⟩
  rcases W.fr t with ⟨e1, e2⟩ | ⟨k1, k2⟩
  · have hc : Cl st0.h.length (st''.fr t) := by rw [e2]; exact ((H.fr t).cl).mono W.le
    have := (H''.fr t).take hc W.le'
    rw [W.heap] at this
    rw [e1, ← e2]
    exact this
  · have h1 := (H''.fr t).wk k1
    have := h1.take k2 W.le'
    rw [W.heap] at this
    exact this

/-- What stands behind a piece of code. -/
def Post (n : Nat) (w : World) (σ : Sg) (h : Hp) (Q : Exit → St → Prop) : Exit → Act → World → Prop :=
  fun e a' w' => ∃ st' σ', Q e st' ∧ Cnc n w' σ' a' st' ∧ Step w σ h w' σ' st'.h

theorem Post.trans {w w1 : World} {σ σ1 : Sg} {h h1 : Hp} {Q : Exit → St → Prop} (hs : Step w σ h w1 σ1 h1) {e : Exit} {a' : Act} {w' : World} (H : Post n w1 σ1 h1 Q e a' w') : Post n w σ h Q e a' w' :=
  let ⟨st', σ', q1, q2, q3⟩ := H
  ⟨st', σ', q1, q2, hs.trans q3⟩

theorem ev_sound (hm : P.follows .mixedOrders = true) {mu : List Nat} : ∀ (c : Code) (Q : Exit → St → Prop) (st : St), fits n c = true → ev P mu c Q st → ∀ w σ a, Cnc n w σ a st → c.wp P (Post n w σ st.h Q) a w := by
  intro c
  induction c with
  | skip => exact fun Q st _ he w σ a H => wp_skip ⟨st, σ, he, H, .refl w σ st.h⟩
  | label l => exact fun Q st _ he w σ a H => wp_label ⟨st, σ, he, H, .refl w σ st.h⟩
  | exit id => exact fun Q st _ he w σ a H => wp_exit ⟨st, σ, he, H, .refl w σ st.h⟩
  | ret => exact fun Q st _ he w σ a H => wp_ret ⟨st, σ, he, H, .refl w σ st.h⟩
  | region id ops draw =>
    intro Q st hf he w σ a H
    simp only [fits, Bool.and_eq_true] at hf
    cases draw with
    | true =>
      simp only [ev, if_true] at he
      have := draw_sound (id := id) hm hf.1 (by simpa using hf.2) H he (Q := Post n w σ st.h Q) (fun st' σ' a' w' k1 k2 k3 => ⟨st', σ', k1, k2, k3⟩)
      simpa using this
    | false =>
      simp only [ev, Bool.false_eq_true, if_false] at he
      refine wp_region_list ?_
      have := ops_sound (Q := Post n w σ st.h Q) ops.toList st _ hf.1 he w σ a H (fun st' σ' a' w' k1 k2 k3 => ⟨st', σ', k1, k2, k3⟩)
      simpa using this
  | seq x y ihx ihy =>
    intro Q st hf he w σ a H
    simp only [fits, Bool.and_eq_true] at hf
    refine wp_seq (wp_mono (ihx _ st hf.1 he w σ a H) ?_)
    rintro e a' w' ⟨st', σ', q1, q2, q3⟩
    cases e with
    | normal => exact wp_mono (ihy Q st' hf.2 q1 w' σ' a' q2) (fun e a'' w'' hp => hp.trans q3)
    | _ => exact ⟨st', σ', q1, q2, q3⟩
  | cond c x y ihx ihy =>
    intro Q st hf he w σ a H
    simp only [fits, Bool.and_eq_true] at hf
    obtain ⟨h1, h2, h3, h4⟩ := he
    have hr := rep_vl (a := a) (fr := st.fr) (x := c) (fun t _ => H.fr t) h1
    rw [isBool_of h2] at hr
    generalize hev : a.eval c = v at hr
    cases hr with
    | bool b => exact wp_cond_split hev (fun hb => ihx Q st hf.1 (h3 hb) w σ a H) (fun hb => ihy Q st hf.2 (h4 hb) w σ a H)
  | block id c ih =>
    intro Q st hf he w σ a H
    refine wp_block (wp_mono (ih _ st hf he w σ a H) ?_)
    rintro e a' w' ⟨st', σ', q1, q2, q3⟩
    cases e with
    | exit id' =>
      simp only [blockE] at q1
      simp only [Exit.inBlock]
      split
      · rename_i e; rw [if_pos e] at q1; exact ⟨st', σ', q1, q2, q3⟩
      · rename_i e; rw [if_neg e] at q1; exact ⟨st', σ', q1, q2, q3⟩
    | _ => exact ⟨st', σ', q1, q2, q3⟩
  | loop c ih =>
    intro Q st hf he w σ a H
    obtain ⟨toks, I, ht, ⟨m, st0, hI, hW⟩, hround⟩ := he
    obtain ⟨σ1, H1, S1⟩ := toks_sound toks H ht
    have H0 := weak_sound H1 H1 hW
    have S0 : Step w σ st.h w (σ1.take st0.h.length) st0.h := by
      have := S1.take (n := st0.h.length) (Nat.le_trans S1.mono.len hW.le) hW.le'
      rw [hW.heap] at this
      exact this
    let J : Nat → Act → World → Prop := fun m a' w' => ∃ st' σ', I m st' ∧ Cnc n w' σ' a' st' ∧ Step w σ st.h w' σ' st'.h
    have hJ : ∃ m, J m a w := ⟨m, st0, _, hI, H0, S0⟩
    let μ : Act → World → Nat := fun a' w' => Classical.epsilon fun m => J m a' w' ∧ ∀ k, J k a' w' → m ≤ k
    have hμ : ∀ a' w', (∃ m, J m a' w') → J (μ a' w') a' w' ∧ ∀ k, J k a' w' → μ a' w' ≤ k := by
      intro a' w' hex
      have : ∃ m, J m a' w' ∧ ∀ k, J k a' w' → m ≤ k := by
        obtain ⟨m, hm⟩ := hex
        induction m using Nat.strongRecOn with
        | _ m ih =>
          by_cases hle : ∀ k, J k a' w' → m ≤ k
          · exact ⟨m, hm, hle⟩
          · have ⟨k, hk⟩ := Classical.not_forall.1 hle
            have ⟨hk1, hk2⟩ := Classical.not_imp.1 hk
            exact ih k (by omega) hk1
      exact Classical.epsilon_spec this
    refine wp_loop (fun a' w' => ∃ m, J m a' w') μ hJ fun a' w' hex => ?_
    obtain ⟨⟨st', σ', g1, g2, g3⟩, _⟩ := hμ a' w' hex
    refine wp_mono (ih _ st' hf (hround _ st' g1) w' σ' a' g2) ?_
    rintro e a'' w'' ⟨st'', σ'', q1, q2, q3⟩
    cases e with
    | normal =>
      obtain ⟨m', st1, k1, k2, k3⟩ := q1
      have hc := weak_sound g2 q2 k3
      have hst := g3.trans q3
      have hs1 : Step w σ st.h w'' (σ''.take st1.h.length) st1.h := by
        have := hst.take (n := st1.h.length) (Nat.le_trans g3.mono.len k3.le) k3.le'
        rw [k3.heap] at this
        exact this
      have hj : J m' a'' w'' := ⟨st1, _, k2, hc, hs1⟩
      exact ⟨⟨m', hj⟩, Nat.lt_of_le_of_lt ((hμ a'' w'' ⟨m', hj⟩).2 m' hj) k1⟩
    | _ => exact ⟨st'', σ'', q1, q2, g3.trans q3⟩
  | rangeFunc f ps as b => exact fun Q st _ he => absurd he id
  | scope b => exact fun Q st _ he => absurd he id
  | goto l => exact fun Q st _ he => absurd he id
  | refuse s => exact fun Q st _ he => absurd he id
end
end Go.Av

/- A function's contract out of its body. -/
namespace Go.Av

def frOf (args : List D) : Fr := fun t => args.getD t .junk

def resV (P : Program) (st : St) : ResultVar → D
  | .tmp t => st.fr t
  | .cell a t => loadD P t st.h (un (st.fr a))
def resOk (P : Program) (st : St) : ResultVar → Prop
  | .tmp _ => True
  | .cell a t => vc (st.fr a) = true ∧ loadOk P t st.h (un (st.fr a))
def resD (P : Program) (rs : List ResultVar) (st : St) : D :=
  match rs with
  | [r] => resV P st r
  | rs => .tup (rs.map (resV P st))

/-- The elements of a row. -/
def chunk (ag : Bool) (sz : Nat) : Nat → List D → List D
  | 0, _ => []
  | n + 1, cs => (if ag then .agg (cs.take sz) else cs.headD .junk) :: chunk ag sz n (cs.drop sz)

def rowPart (h : Hp) (r sz off len : Nat) : List D := ((rowOf (ob h r)).drop (off * sz)).take (len * sz)

/-- d, its rows (from object n on) seen as slices that are no more written -/
inductive Frz (n : Nat) (h : Hp) : D → D → Prop where
  | refl (d : D) : Frz n h d d
  | vec (r : Nat) (ag : Bool) (sz off len : Nat) (h1 : n ≤ r) (h2 : isRow (ob h r)) (h3 : (off + len) * sz ≤ (rowOf (ob h r)).length) (h4 : ∀ d, d ∈ rowPart h r sz off len → Cl 0 d) (h5 : 0 < sz) (h6 : ag = false → sz = 1 ∧ ∀ d, d ∈ rowPart h r sz off len → d.cells = [d]) :
      Frz n h (.vec r ag sz off len) (.slice (chunk ag sz len (rowPart h r sz off len)) .no)
  | agg (cs cs' : List D) (hl : cs'.length = cs.length) (hh : ∀ k (h1 : k < cs.length) (h2 : k < cs'.length), Frz n h (cs[k]) (cs'[k])) : Frz n h (.agg cs) (.agg cs')
  | tup (cs cs' : List D) (hl : cs'.length = cs.length) (hh : ∀ k (h1 : k < cs.length) (h2 : k < cs'.length), Frz n h (cs[k]) (cs'[k])) : Frz n h (.tup cs) (.tup cs')

theorem flat_chunk {ag : Bool} {sz : Nat} (h5 : 0 < sz) : ∀ (n : Nat) (cs : List D), cs.length = n * sz → (ag = false → sz = 1 ∧ ∀ d, d ∈ cs → d.cells = [d]) → flat (chunk ag sz n cs) = cs ∧ AllSz sz (chunk ag sz n cs) ∧ (chunk ag sz n cs).length = n
  | 0, cs, hl, _ => by
    have : cs = [] := List.eq_nil_of_length_eq_zero (by simpa using hl)
    subst this
    exact ⟨rfl, fun e he => by simp [chunk] at he, rfl⟩
  | n + 1, cs, hl, hc => by
    rw [Nat.succ_mul] at hl
    obtain ⟨i1, i2, i3⟩ := flat_chunk h5 n (cs.drop sz) (by simp; omega) (fun e => ⟨(hc e).1, fun d hd => (hc e).2 d (List.mem_of_mem_drop hd)⟩)
    simp only [chunk]
    have hhead : (if ag then D.agg (cs.take sz) else cs.headD .junk).cells = cs.take sz := by
      cases ag with
      | true => rfl
      | false =>
        obtain ⟨rfl, hcc⟩ := hc rfl
        cases cs with
        | nil => simp at hl
        | cons c cs => simpa using hcc c (by simp)
    refine ⟨by rw [flat_cons, hhead, i1, List.take_append_drop], ?_, by simp [i3]⟩
    intro e he
    rcases List.mem_cons.1 he with rfl | he
    · rw [hhead]; simp; omega
    · exact i2 e he

theorem Frz.rep {w : World} {σ : Sg} {h : Hp} (hi : Inv w σ h) {n : Nat} {ow' : Nat → Nat → Prop} (how : ∀ b o, ow' b o → own σ h b o) (hno : ∀ (r b : Nat) cs, n ≤ r → h[r]? = some (.row cs) → σ[r]? = some (some b) → ∀ o, ¬ ow' b o) {d d' : D} (F : Frz n h d d') :
    ∀ {v : Value}, Rep w (own σ h) σ h d v → Rep w ow' σ h d' v := by
  have hm : MonoW w (own σ h) w ow' := ⟨fun _ _ _ _ hc => hc, fun b o _ ho ho' => ho (how b o ho'), fun _ c _ _ hb => ⟨c, hb, rfl⟩⟩
  induction F with
  | refl d => exact fun H => H.mono hm (.refl σ h)
  | vec r ag sz off len h1 h2 h3 h4 h5 h6 =>
    intro v H
    have hrow := ob_row h2
    cases H with
    | vec _ _ _ _ _ a cap hlen hcap hr hb hv =>
      have hpl : (rowPart h r sz off len).length = len * sz := by
        simp only [rowPart, List.length_take, List.length_drop]
        rw [Nat.add_mul] at h3
        omega
      obtain ⟨f1, f2, f3⟩ := flat_chunk (ag := ag) h5 len (rowPart h r sz off len) hpl h6
      have hfin : Rep w ow' σ h (.slice (chunk ag sz len (rowPart h r sz off len)) .no) (.slice a (chunk ag sz len (rowPart h r sz off len)).length cap) := by
        by_cases h0 : len = 0
        · subst h0
          refine .slice _ _ a cap (fun _ => undef) (by simp [chunk]) (by simp [chunk]) (fun e => nomatch e) (fun _ _ e => nomatch e) (fun k hk => ?_) (fun k hk => ?_) <;> (rw [f1] at hk; simp at hpl; simp [hpl] at hk)
        · rcases hv with hv | ⟨b, c, e, fz, rfl, q2, q3, q4⟩
          · omega
          · rcases (hi.live r _ hrow).cells with q | ⟨b', c', e', fz', g1, g2, g3, g4, g5⟩
            · rw [q] at h3
              simp only [List.length_nil] at h3
              have : 0 < (off + len) * sz := Nat.mul_pos (by omega) h5
              omega
            · obtain rfl : b' = b := by rw [q2] at g1; simpa using g1.symm
              have key : ∀ k, ∃ v, k < len * sz → c'[off * sz + k]? = some v ∧ ∀ (hk : k < (rowPart h r sz off len).length), Rep w ow' [] [] ((rowPart h r sz off len)[k]) v := by
                intro k
                by_cases hk : k < len * sz
                · obtain ⟨v, v1, v2⟩ := g5 (off * sz + k) (by rw [Nat.add_mul] at h3; omega)
                  refine ⟨v, fun _ => ⟨v1, fun hk' => ?_⟩⟩
                  have he : (rowPart h r sz off len)[k] = (rowOf (ob h r))[off * sz + k]'(by rw [Nat.add_mul] at h3; omega) := by
                    simp [rowPart]
                  have hcl := h4 _ (List.getElem_mem hk')
                  rw [he] at hcl ⊢
                  exact v2.move (n := 0) how hcl (Nat.zero_le _) (fun r hr => absurd hr (by omega))
                · exact ⟨undef, fun h => absurd h hk⟩
              refine .slice _ _ _ cap (fun k => (key k).choose) (by rw [f3]; exact hlen) (by rw [f3]; exact hcap) (fun e => nomatch e) (fun _ _ e => nomatch e) (fun k hk => ?_) (fun k hk => ?_)
              · rw [f1, hpl] at hk
                exact ⟨b', off * sz, rfl, hno r b' _ h1 hrow g1 _, by rw [cell_mk g2]; exact ((key k).choose_spec hk).1⟩
              · have hk' := hk
                rw [f1, hpl] at hk'
                have := ((key k).choose_spec hk').2 (by rw [hpl]; exact hk')
                simp only [f1]
                exact this
      rw [f3] at hfin
      exact hfin
  | agg cs cs' hl _ ih =>
    intro v H
    cases H with
    | agg _ vs hl' hr => exact .agg cs' vs (by omega) (fun k h1 h2 => ih k (by omega) h1 (hr k (by omega) h2))
  | tup cs cs' hl _ ih =>
    intro v H
    cases H with
    | tup _ vs hl' hr => exact .tup cs' vs (by omega) (fun k h1 h2 => ih k (by omega) h1 (hr k (by omega) h2))

/-- The objects behind a call (h') as the call leaves them: those ahead of it, or turned, or new ones. -/
def Back (h h'' h' : Hp) : Prop := h.length ≤ h'.length ∧ h'.length ≤ h''.length ∧ h''.take h'.length = h' ∧ ∀ (r : Nat) x, h'[r]? = some x → h[r]? = some x ∨ ObCl h'.length x

def finS (P : Program) (rs : List ResultVar) (h : Hp) (Q : D → Hp → Prop) (st : St) : Prop :=
  (∀ r, r ∈ rs → resOk P st r) ∧ ∃ d0 d h', Frz h'.length st.h (resD P rs st) d0 ∧ Wk d0 d ∧ Cl h'.length d ∧ Back h st.h h' ∧ Q d h'

def fin (P : Program) (rs : List ResultVar) (h : Hp) (Q : D → Hp → Prop) : Exit → St → Prop
  | .normal, st => finS P rs h Q st
  | .ret, st => finS P rs h Q st
  | _, _ => False

def flen : D → Prop
  | .str s => s.length ≤ lenMax
  | .slice es _ => es.length ≤ lenMax
  | _ => True
def fitsD : D → Prop
  | .agg cs => ∀ c, c ∈ cs → flen c
  | d => flen d

section
variable {P : Program}

theorem rep_flen {w : World} {ow : Nat → Nat → Prop} {σ : Sg} {h : Hp} {d : D} {v : Value} (H : Rep w ow σ h d v) : flen d := by
  cases H with
  | str s hl => exact hl
  | slice es t a cap vs hlen hcap hfull htok hc hr => exact hlen
  | _ => trivial
theorem rep_fitsD {w : World} {ow : Nat → Nat → Prop} {σ : Sg} {h : Hp} {d : D} {v : Value} (H : Rep w ow σ h d v) : fitsD d := by
  cases H with
  | agg cs vs hl hr =>
    intro c hc
    obtain ⟨k, hk, rfl⟩ := List.mem_iff_getElem.1 hc
    exact rep_flen (hr k hk (by omega))
  | str s hl => exact hl
  | slice es t a cap vs hlen hcap hfull htok hc hr => exact hlen
  | _ => trivial

def resF (tmps : Array Value) : ResultVar → Sem Value
  | .tmp t => pure (tmps.getD t undef)
  | .cell a t => do loadVar t (← asAddr (tmps.getD a undef))
theorem results_eq (fn : Func) (tmps : Array Value) : results fn tmps = (do let vs ← fn.results.mapM (resF tmps); pure (if h : vs.size = 1 then vs[0] else .tuple vs)) := rfl

theorem res_sound {w : World} {σ : Sg} {st : St} {a : Act} {n : Nat} {fn : Func} (H : Cnc n w σ a st) (hok : ∀ r, r ∈ fn.results.toList → resOk P st r) :
    ∃ v, (results fn a.tmps).run P w = .ok v w ∧ Rep w (own σ st.h) σ st.h (resD P fn.results.toList st) v := by
  have hall : ∀ (rs : List ResultVar), (∀ r, r ∈ rs → resOk P st r) → ∃ vs, (rs.mapM (resF a.tmps)).run P w = .ok vs w ∧ RepL w (own σ st.h) σ st.h (rs.map (resV P st)) vs := by
    intro rs
    induction rs with
    | nil => exact fun _ => ⟨[], by simp, RepL.nil⟩
    | cons r rs ih =>
      intro hok
      obtain ⟨vs, g1, g2⟩ := ih (fun x hx => hok x (by simp [hx]))
      have hr : ∃ v, (resF a.tmps r).run P w = .ok v w ∧ Rep w (own σ st.h) σ st.h (resV P st r) v := by
        have hk := hok r (by simp)
        cases r with
        | tmp t => exact ⟨_, rfl, H.fr t⟩
        | cell x t =>
          obtain ⟨v, e1, e2⟩ := load_sound H.inv ((H.fr x).un hk.1) hk.2
          refine ⟨v, ?_, e2⟩
          have hp : ∃ b, a.tmps.getD x undef = .pointer (some b) := by
            have h1 := (H.fr x).un hk.1
            have h2 := hk.2.2.2
            revert h1 h2
            generalize un (st.fr x) = d
            generalize a.tmps.getD x undef = u
            intro h1 h2
            cases h1 with
            | ptr r off b _ _ _ => exact ⟨_, rfl⟩
            | vptr cs b o vs _ _ => exact ⟨_, rfl⟩
            | _ => exact absurd h2 (by simp)
          obtain ⟨b, hb⟩ := hp
          rw [hb] at e1
          simp only [resF, hb, asAddr, Sem.run_bind, Sem.run_pure, Result.andThen_ok]
          simpa [Instr.loadAt, Instr.sureAddr] using e1
      obtain ⟨v, e1, e2⟩ := hr
      refine ⟨v :: vs, ?_, .cons e2 g2⟩
      simp only [List.mapM_cons, Sem.run_bind, e1, g1, Result.andThen_ok, Sem.run_pure]
  obtain ⟨vs, g1, g2⟩ := hall fn.results.toList hok
  have hl := g2.1
  simp only [List.length_map] at hl
  have hrun : (results fn a.tmps).run P w = .ok (if h : vs.toArray.size = 1 then vs.toArray[0] else .tuple vs.toArray) w := by
    rw [results_eq]
    simp only [Array.mapM_eq_mapM_toList, Sem.run_bind, Sem.run_map, g1, Result.andThen_ok, Sem.run_pure]
  refine ⟨_, hrun, ?_⟩
  unfold resD
  split
  · rename_i r hr
    rw [hr] at g2 hl
    simp only [List.map_cons, List.map_nil, List.length_cons, List.length_nil] at g2 hl
    match vs, hl, g2 with
    | [v], _, g2 => simpa using g2.2 0 (by simp) (by simp)
  · rename_i hne
    have hn1 : vs.length ≠ 1 := by
      intro e
      rw [e] at hl
      have : ∃ r, fn.results.toList = [r] := by
        generalize fn.results.toList = l at hl
        match l, hl with
        | [r], _ => exact ⟨r, rfl⟩
      obtain ⟨r, hr⟩ := this
      exact hne r hr
    rw [dif_neg (by simpa using hn1)]
    exact .tup _ _ g2.1 g2.2

theorem meets_of {f : FuncId} {fn : Func} {c : Code} {args : List D} {h : Hp} {Q : D → Hp → Prop} (mu : List Nat) (hm : P.follows .mixedOrders = true) (hf : P.funcs[f]? = some fn) (hb : fn.body = some c) (hname : (fn.name == "runtime.NumGoroutine") = false)
    (hfit : fits fn.ntmps c = true) (hn : args.length ≤ fn.ntmps) (H : (∀ d, d ∈ args → fitsD d) → ev P mu c (fin P fn.results.toList h Q) ⟨frOf args, h ++ []⟩) : Meets P f args h Q := by
  rw [List.append_nil] at H
  refine ⟨fun as w => ?_, fun w σ vs hi hr => ?_⟩
  · have hn' : fn.name ≠ "runtime.NumGoroutine" := by simpa using hname
    simp [callFunc, hf, hn', hb]
  · have hvl : vs.length = args.length := hr.1
    have hcnc : Cnc fn.ntmps w σ { tmps := vs.toArray ++ Array.replicate (fn.ntmps - vs.toArray.size) undef, defers := [] } ⟨frOf args, h⟩ := by
      refine ⟨hi, rfl, by simp; omega, fun t => ?_⟩
      simp only [frOf, List.getD_eq_getElem?_getD]
      by_cases ht : t < args.length
      · rw [List.getElem?_eq_getElem ht]
        have : (vs.toArray ++ Array.replicate (fn.ntmps - vs.toArray.size) undef).getD t undef = vs[t]'(by omega) := by
          rw [Array.getD_eq_getD_getElem?, Array.getElem?_append_left (by simp; omega)]
          simp [show t < vs.length by omega]
        rw [this]
        exact hr.2 t ht (by omega)
      · rw [List.getElem?_eq_none (by omega)]
        exact .junk _
    have hfl : ∀ d, d ∈ args → fitsD d := fun d hd => by
      obtain ⟨k, hk, rfl⟩ := List.mem_iff_getElem.1 hd
      exact rep_fitsD (hr.2 k hk (by omega))
    have hwp := ev_sound hm c _ _ hfit (H hfl) w σ _ hcnc
    refine calls_of_wp hf hb (wp_mono hwp ?_)
    have key : ∀ (a' : Act) (w' : World) st' σ', finS P fn.results.toList h Q st' → Cnc fn.ntmps w' σ' a' st' → Step w σ h w' σ' st'.h →
        a'.defers = [] ∧ ∃ v, (results fn a'.tmps).run P w' = .ok v w' ∧ ∃ v', Ending.returned v = .returned v' ∧ ∃ d h' σ', Q d h' ∧ Inv w' σ' h' ∧ Rep w' (own σ' h') σ' h' d v' ∧ Step w σ h w' σ' h' := by
      rintro a' w' st' σ' ⟨k1, d0, d, h', k0, k2, k3, ⟨b1, b2, b3, b4⟩, k5⟩ q2 q3
      obtain ⟨v, e1, e2⟩ := res_sound q2 k1
      refine ⟨q2.defers, v, e1, v, rfl, d, h', σ'.take h'.length, k5, ?_, ?_, ?_⟩
      · have := q2.inv.take b2 (fun r x hr hx => by
          have hx' : h'[r]? = some x := by rw [← b3, getElem?_take_lt hr]; exact hx
          rcases b4 r x hx' with q | q
          · have := hi.cl q
            cases x with
            | row cs => exact fun d hd => (this d hd).mono b1
            | dead => trivial
            | buf m => trivial
          · exact q)
        rw [b3] at this
        exact this
      · have hr0 := (k0.rep q2.inv (ow' := own (σ'.take h'.length) (st'.h.take h'.length)) (fun b o => own_take) (fun r b cs hr hrow hb o ho => by
          obtain ⟨k, g1, g2⟩ := ho
          rw [List.getElem?_take] at g1 g2
          split at g1
          · rename_i hk
            rw [if_pos hk] at g2
            have hd : st'.h[k]? ≠ some .dead := by rcases g2 with ⟨_, e⟩ | ⟨_, e, _⟩ <;> rw [e] <;> simp
            have := q2.inv.inj k r b g1 hb hd (by rw [hrow]; simp)
            omega
          · cases g1) e2).wk k2
        have := hr0.move (σ' := σ'.take h'.length) (h' := st'.h.take h'.length) (fun _ _ q => q) k3 (by simp; omega) (fun r hr => ⟨getElem?_take_lt hr, fun hb k => by rw [getElem?_take_lt hr]; exact hb k, fun k => by rw [getElem?_take_lt hr]; exact id⟩)
        rw [b3] at this
        exact this
      · have := q3.take b1 b2
        rw [b3] at this
        exact this
    rintro e a' w' ⟨st', σ', q1, q2, q3⟩
    cases e with
    | normal => exact key a' w' st' σ' q1 q2 q3
    | ret => exact key a' w' st' σ' q1 q2 q3
    | _ => exact absurd q1 id
end
end Go.Av

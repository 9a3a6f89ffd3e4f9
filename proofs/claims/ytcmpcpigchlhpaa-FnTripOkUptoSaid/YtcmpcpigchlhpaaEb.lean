/- That the model's reading operations do what 'pureD' says, all of them. -/
import Derived.Test.YtcmpcpigchlhpaaEa
import Derived.Laws.BytesArg
import Derived.Lib.ConvBytes

namespace Go.Av
set_option linter.unusedSectionVars false
variable [Start]

section
variable {P : Program} {w : World} {σ : Sg} {st : St} {a : Act}

omit [Start] in
theorem value_run {s : Sem Value} {v : Value} (h : s.run P w = .ok v w) : (do pure (Next.value (← s)) : Sem Next).run P w = .ok (.value v) w := by
  simp only [Sem.run_bind, h, Result.andThen_ok, Sem.run_pure]

omit [Start] in
theorem repO_of {ow : Nat → Nat → Prop} {h : Hp} {fr : Fr} (x : Option Operand) (hf : ∀ t, x = some (.tmp t) → Rep w ow σ h (fr t) (a.tmps.getD t undef)) (hk : okO fr x) : RepO w ow σ h (x.map (vl fr)) (x.map a.eval) := by
  cases x with
  | none => trivial
  | some x => exact rep_vl (fun t e => hf t (by rw [e])) hk

omit [Start] in
theorem conv_sound {src dst : TypeId} {x : D} {vx : Value} {ow : Nat → Nat → Prop} {h : Hp} (hx : Rep w ow σ h x vx) (hok : convOk P src dst x) :
    ∃ u, (convert src dst vx).run P w = .ok u w ∧ Rep w ow σ h (convD P dst x) u := by
  obtain ⟨h1, h2⟩ := hok
  obtain ⟨i, d, e1, e2, e3⟩ := ti_has h1
  cases hx with
  | int k n =>
    have hk : ∃ k', (ti P dst).kind = .int k' := by revert h2; cases (ti P dst).kind <;> simp [isIntK]
    obtain ⟨k', hk⟩ := hk
    refine ⟨.int k' (k'.wrap n), by simp [convert, run_underlying e2, run_underlying (ti_int hk), Conv.intToInt], ?_⟩
    simp only [convD, hk, kindInt]
    exact .int _ _
  | str s hl =>
    have hu := ti_str (P := P) (t := dst) (str_of h2)
    exact ⟨.string ⟨s.toArray⟩, by simp [convert, run_underlying e2, run_underlying hu], .str s hl⟩
  | _ => exact absurd h2 (by simp)

omit [Start] in
theorem u8_of {k : TK} (h : isU8 k) : k = .int .u8 := by
  cases k with
  | int k => cases k <;> first | rfl | exact h.elim
  | _ => exact h.elim
omit [Start] in
theorem isByte_of {d : D} (h : isByte d) : d = .int .u8 (iof d) := by
  cases d with
  | int k n => cases k <;> first | rfl | exact h.elim
  | _ => exact h.elim
omit [Start] in
theorem flat_bytes {es : List D} (h : ∀ d, d ∈ es → isByte d) : flat es = es := by
  induction es with
  | nil => rfl
  | cons e es ih =>
    rw [flat_cons, ih (fun d hd => h d (List.mem_cons_of_mem _ hd)), isByte_of (h e List.mem_cons_self)]
    rfl
omit [Start] in
theorem strOf_bytes (es : List D) : strOfNums (es.map iof) = ⟨(es.map byteOf).toArray⟩ := by
  rw [strOfNums, List.map_map]
  rfl
omit [Start] in
theorem run_conv_none {src dst : TypeId} (hs : isSliceK (ti P src).kind) (he : isU8 (ti P (ti P src).elem).kind) (hd : isStrK (ti P dst).kind) (a : Option Addr) (cap : Nat) : (convert src dst (.slice a 0 cap)).run P w = .ok (.string ⟨#[]⟩) w := by
  cases a with
  | none => exact run_convert_bytes_nil (P := P) w src _ (ti_slice (slice_of hs)) (ti_int (u8_of he)) 0 cap dst (ti_str (str_of hd))
  | some a =>
    rw [run_convert_bytes_string w src dst _ _ 0 cap (ti_slice (slice_of hs)) (ti_int (u8_of he)) (ti_str (str_of hd)), run_bytesToString w a 0 cap [] (by simp [loadCells, loadCellsFrom])]
    rfl
omit [Start] in
/-- bytes that lie in memory, as a text -/
theorem bytes_sound {src dst : TypeId} {ow : Nat → Nat → Prop} {h : Hp} (hs : isSliceK (ti P src).kind) (he : isU8 (ti P (ti P src).elem).kind) (hd : isStrK (ti P dst).kind) {es : List D} (hb : ∀ d, d ∈ es → isByte d) (hlen : es.length ≤ lenMax) {b o cap : Nat} {vs : Nat → Value}
    (hc : ∀ k, k < es.length → w.cell? ⟨b, o + k, none⟩ = some (vs k)) (hr : ∀ k (hk : k < es.length), ∃ σ' h' ow', Rep w ow' σ' h' (es[k]) (vs k)) :
    ∃ u, (convert src dst (.slice (some ⟨b, o, none⟩) es.length cap)).run P w = .ok u w ∧ Rep w ow σ h (.str (es.map byteOf)) u := by
  refine ⟨_, run_convert_bytes_arg (P := P) w src _ (ti_slice (slice_of hs)) (ti_int (u8_of he)) b o es.length cap (es.map iof) (by simp) (fun i hi => ?_) dst (ti_str (str_of hd)), ?_⟩
  · rw [hc i hi]
    obtain ⟨σ', h', ow', hv⟩ := hr i hi
    have e := isByte_of (hb _ (List.getElem_mem hi))
    rw [e] at hv
    generalize vs i = v at hv
    rw [List.getD_eq_getElem?_getD, List.getElem?_map, List.getElem?_eq_getElem hi]
    simp only [Option.map_some, Option.getD_some]
    generalize iof es[i] = m at hv ⊢
    cases hv
    rfl
  · rw [strOf_bytes]
    exact .str _ (by simpa using hlen)
theorem convH_sound {src dst : TypeId} {x : D} {vx : Value} {h : Hp} (hi : Inv w σ h) (hx : Rep w (own σ h) σ h x vx) (hok : convHOk P h src dst x) :
    ∃ u, (convert src dst vx).run P w = .ok u w ∧ Rep w (own σ h) σ h (convH P h dst x) u := by
  cases x with
  | slice es t =>
    obtain ⟨k1, k2, k3, k4⟩ := hok
    have hfl := flat_bytes k4
    cases hx with
    | slice _ _ a cap vs hlen hcap hfull htok hc hr =>
      cases hes : es with
      | nil =>
        exact ⟨_, run_conv_none k1 k2 k3 a cap, .str [] (Nat.zero_le _)⟩
      | cons e0 es0 =>
        rw [← hes]
        have hpos : 0 < (flat es).length := by rw [hfl, hes]; simp
        obtain ⟨b, o, ea, _, _⟩ := hc 0 hpos
        subst ea
        refine bytes_sound k1 k2 k3 k4 hlen (vs := vs) (fun k hk => ?_) (fun k hk => ?_)
        · obtain ⟨b', o', ea, _, q⟩ := hc k (by rw [hfl]; exact hk)
          cases ea
          exact q
        · have := hr k (by rw [hfl]; exact hk)
          simp only [hfl] at this
          exact ⟨_, _, _, this⟩
  | vec r ag sz off len cp =>
    obtain ⟨k1, k2, k3, rfl, k5, k6, k7⟩ := hok
    cases hx with
    | vec _ _ _ _ _ _ a cap hlen hcap hr hb hv =>
      have hel : ((((rowOf (ob h r)).drop off).take len)).length = len := by rw [List.length_take, List.length_drop]; omega
      by_cases hz : len = 0
      · subst hz
        refine ⟨_, run_conv_none k1 k2 k3 a cap, ?_⟩
        show Rep _ _ _ _ (.str ((((rowOf (ob h r)).drop off).take 0).map byteOf)) _
        rw [List.take_zero]
        exact .str [] (Nat.zero_le _)
      · rcases hv with hv | ⟨b, c, e, fz, rfl, q2, q3, q4⟩
        · omega
        · rcases (hi.live r _ (ob_row k5)).cells with ⟨q, _⟩ | ⟨b', c', e', fz', g1, g2, g3, g4, g5⟩
          · rw [q] at k6; simp at k6; omega
          · obtain rfl : b' = b := by rw [q2] at g1; simpa using g1.symm
            have := bytes_sound (P := P) (w := w) (σ := σ) (ow := own σ h) (h := h) (src := src) (dst := dst) k1 k2 k3 k7 (by rw [hel]; omega) (b := b') (o := off * 1) (cap := cap) (vs := fun k => (c'[off + k]?).getD undef) (fun k hk => ?_) (fun k hk => ?_)
            · rw [hel] at this
              exact this
            · rw [hel] at hk
              obtain ⟨v, v1, _⟩ := g5 (off + k) (by omega)
              rw [cell_mk g2, Nat.mul_one, v1]
              rfl
            · have hk' := hk
              rw [hel] at hk'
              obtain ⟨v, v1, v2⟩ := g5 (off + k) (by omega)
              refine ⟨σ, h, own σ h, ?_⟩
              rw [v1, List.getElem_take, List.getElem_drop]
              exact v2
  | _ => exact conv_sound hx hok

theorem pure_sound {o : Oper} (hi : Inv w σ st.h) (hf : ∀ t, looksTo o.op t → Rep w (own σ st.h) σ st.h (st.fr t) (a.tmps.getD t undef)) (hok : pureOk P st o.op) :
    ∃ v, (execOp a.eval o).run P w = .ok (.value v) w ∧ Rep w (own σ st.h) σ st.h (pureD P st o.op) v := by
  obtain ⟨dst, op, ty, pos, af, gd⟩ := o
  have V : ∀ x, x ∈ op.operands → ok1 st.fr x → Rep w (own σ st.h) σ st.h (vl st.fr x) (a.eval x) := fun x hx hk => rep_vl (fun t e => hf t (by show Operand.tmp t ∈ op.operands; rw [← e]; exact hx)) hk
  cases op with
  | move x => exact ⟨_, rfl, rep_opd' (fun t e => hf t (by simp [looksTo, Op.operands, e]))⟩
  | assign x => exact ⟨_, rfl, rep_opd' (fun t e => hf t (by simp [looksTo, Op.operands, e]))⟩
  | pick c x y =>
    obtain ⟨h1, h2, h3, h4⟩ := hok
    have hc := V c (by simp [Op.operands]) h1
    rw [isBool_of h2] at hc
    generalize hev : a.eval c = vc' at hc
    cases hc with
    | bool b =>
      simp only [pureD]
      cases hb : bof (vl st.fr c) with
      | true =>
        obtain ⟨k1, k2⟩ := h3 hb
        have hx := V x (by simp [Op.operands]) k1
        rw [isBool_of k2] at hx
        exact ⟨_, by simp [execOp, hev, hb, asBool]; rfl, by simpa using hx⟩
      | false =>
        obtain ⟨k1, k2⟩ := h4 hb
        have hx := V y (by simp [Op.operands]) k1
        rw [isBool_of k2] at hx
        exact ⟨_, by simp [execOp, hev, hb, asBool]; rfl, by simpa using hx⟩
  | load t x =>
    obtain ⟨u, h1, h2⟩ := load_sound hi (V x (by simp [Op.operands]) hok.1) hok.2
    exact ⟨u, value_run h1, h2⟩
  | fieldAddr s x f =>
    obtain ⟨u, h1, h2⟩ := field_sound (V x (by simp [Op.operands]) hok.1) hok.2
    exact ⟨u, value_run h1, h2⟩
  | indexAddr t x i =>
    obtain ⟨u, h1, h2⟩ := idx_sound (V x (by simp [Op.operands]) hok.1) (V i (by simp [Op.operands]) hok.2.1) hok.2.2
    exact ⟨u, value_run h1, h2⟩
  | index t x i =>
    obtain ⟨u, h1, h2⟩ := index_sound (V x (by simp [Op.operands]) hok.1) (V i (by simp [Op.operands]) hok.2.1) hok.2.2
    exact ⟨u, value_run h1, h2⟩
  | binOp op t x y ty =>
    obtain ⟨u, h1, h2⟩ := bin_sound (ox := x) (oy := y) (V x (by simp [Op.operands]) hok.1) (V y (by simp [Op.operands]) hok.2.1) hok.2.2.1 hok.2.2.2
    exact ⟨u, value_run h1, h2⟩
  | unOp op t x =>
    obtain ⟨u, h1, h2⟩ := un_sound (V x (by simp [Op.operands]) hok.1) hok.2
    exact ⟨u, value_run h1, h2⟩
  | extract x i =>
    obtain ⟨u, h1, h2⟩ := ext_sound (V x (by simp [Op.operands]) hok.1) hok.2
    exact ⟨u, value_run h1, h2⟩
  | slice t x lo hi' mx =>
    obtain ⟨k1, k2, k3, k4, k5⟩ := hok
    obtain ⟨u, h1, h2⟩ := slice_sound (V x (by simp [Op.operands]) k1) (repO_of lo (fun t e => hf t (by simp [looksTo, Op.operands, e])) k2) (repO_of hi' (fun t e => hf t (by simp [looksTo, Op.operands, e])) k3)
      (repO_of mx (fun t e => hf t (by simp [looksTo, Op.operands, e])) k4) k5
    exact ⟨u, value_run h1, h2⟩
  | nilCheck x =>
    obtain ⟨k1, k2⟩ := hok
    have hx := V x (by simp [Op.operands]) k1
    simp only [pureD]
    revert hx k2
    generalize vl st.fr x = d
    generalize hev : a.eval x = v
    intro k2 hx
    cases hx with
    | ptr r off b hr hb hs => exact ⟨_, by simp [execOp, hev], .ptr r off b hr hb hs⟩
    | vptr cs b o vs hc hr => exact ⟨_, by simp [execOp, hev], .vptr cs b o vs hc hr⟩
    | _ => exact absurd k2 (by simp [isPtr'])
  | makeFunc fn first caps =>
    obtain ⟨k1, k2, k3⟩ := hok
    subst k1
    cases fn with
    | func f =>
      refine ⟨.func (.func f) #[] (caps.map a.eval), by simp [execOp, Instr.makeFunc], ?_⟩
      have := Rep.fn (w := w) (ow := own σ st.h) (σ := σ) (h := st.h) f (caps.toList.map (vl st.fr)) (caps.toList.map a.eval) (by simp) (fun k h1 h2 => by
        simp only [List.getElem_map]
        have hm : caps.toList[k]'(by simpa using h1) ∈ caps.toList := List.getElem_mem _
        exact V _ (by simp [Op.operands] at hm ⊢) (k3 _ hm))
      rw [show caps.map a.eval = (caps.toList.map a.eval).toArray from by apply Array.ext'; simp]
      exact this
    | _ => exact absurd k2 (by simp)
  | build t parts =>
    obtain ⟨k1, k2, k3, k4, k5⟩ := hok
    obtain ⟨u, h1, h2⟩ := build_sound (P := P) (w := w) (ow := own σ st.h) (σ := σ) (h := st.h) (t := t) (ps := parts.toList.map fun p => (p.1, vl st.fr p.2)) (vs := parts.map fun p => (p.1, a.eval p.2)) (by simp)
      (fun k h1 h2 => by
        simp only [Array.toList_map, List.getElem_map]
        refine ⟨trivial, ?_⟩
        have hm : parts.toList[k]'(by simpa using h1) ∈ parts.toList := List.getElem_mem _
        exact V _ (by simp only [Op.operands, List.mem_toArray]; exact List.mem_map.2 ⟨_, hm, rfl⟩) (k4 _ (List.mem_map.2 ⟨_, hm, rfl⟩))) k1 k2 k3 k5
    exact ⟨u, value_run h1, h2⟩
  | convert src dst x =>
    obtain ⟨u, h1, h2⟩ := convH_sound hi (V x (by simp [Op.operands]) hok.1) hok.2
    exact ⟨u, value_run h1, h2⟩
  | call c =>
    obtain ⟨callee, args, ts⟩ := c
    cases callee with
    | builtin b =>
      simp only [pureOk, builtinOk] at hok
      have hargs : ∀ x, x ∈ args → x ∈ Op.operands (.call ⟨.builtin b, args, ts⟩) := fun x hx => by simp [Op.operands, Call.operands, hx]
      cases b with
      | len =>
        obtain ⟨args⟩ := args
        obtain ⟨ts⟩ := ts
        match args, ts, hok with
        | [x], [t], hok =>
          obtain ⟨u, h1, h2⟩ := len_sound (ty := ty) (V x (hargs x (by simp)) hok.1) hok.2
          refine ⟨u, ?_, h2⟩
          simp [execOp, resolve, invoke, builtin, h1]
      | cap =>
        obtain ⟨args⟩ := args
        obtain ⟨ts⟩ := ts
        match args, ts, hok with
        | [x], [t], hok =>
          obtain ⟨u, h1, h2⟩ := cap_sound (ty := ty) (V x (hargs x (by simp)) hok.1) hok.2
          refine ⟨u, ?_, h2⟩
          simp [execOp, resolve, invoke, builtin, h1]
      | min =>
        obtain ⟨args⟩ := args
        obtain ⟨ts⟩ := ts
        match args, hok with
        | [x, y], hok =>
          obtain ⟨u, h1, h2⟩ := min_sound (P := P) (ts := ts.toArray) (ty := ty) (V x (hargs x (by simp)) hok.1) (V y (hargs y (by simp)) hok.2.1) hok.2.2.1 hok.2.2.2
          refine ⟨u, ?_, h2⟩
          simp [execOp, resolve, invoke, builtin, h1]
      | max =>
        obtain ⟨args⟩ := args
        obtain ⟨ts⟩ := ts
        match args, hok with
        | [x, y], hok =>
          obtain ⟨u, h1, h2⟩ := max_sound (P := P) (ts := ts.toArray) (ty := ty) (V x (hargs x (by simp)) hok.1) (V y (hargs y (by simp)) hok.2.1) hok.2.2.1 hok.2.2.2
          refine ⟨u, ?_, h2⟩
          simp [execOp, resolve, invoke, builtin, h1]
      | _ => exact absurd hok (by simp)
    | _ => exact absurd hok (by simp [pureOk])
  | _ => exact absurd hok (by simp [pureOk])
end
end Go.Av

/- New blocks and stores: what becomes of the world and of the objects. -/
namespace Go.Av
set_option linter.unusedSectionVars false
variable [Start]

section
variable {w : World} {σ : Sg} {h : Hp}

theorem inv_lt (hi : Inv w σ h) {b o : Nat} (ho : own σ h b o) : b < w.heap.size := by
  obtain ⟨r, h1, _⟩ := ho
  exact hi.lt r b h1

omit [Start] in
theorem heap_alloc_lt (w : World) (o : Obj) {k : Nat} (hk : k < w.heap.size) : (w.alloc o).heap[k]? = w.heap[k]? := by
  show (w.heap.push o)[k]? = _
  rw [Array.getElem?_push, if_neg (by omega)]
omit [Start] in
theorem heap_alloc_new (w : World) (o : Obj) : (w.alloc o).heap[w.heap.size]? = some o := by
  show (w.heap.push o)[w.heap.size]? = _
  simp

omit [Start] in
theorem cell_of_heap {w w' : World} {b o : Nat} (h : w'.heap[b]? = w.heap[b]?) : w'.cell? ⟨b, o, none⟩ = w.cell? ⟨b, o, none⟩ := by simp [World.cell?, h]

/-- A step that only adds blocks to the world: the objects stay, or new ones come behind them that lie in new blocks (or nowhere). -/
structure Adds (w : World) (w' : World) : Prop where
  os : w'.os = w.os
  tape : w'.tape = w.tape
  output : w'.output = w.output
  size : w.heap.size ≤ w'.heap.size
  block : ∀ b : Nat, b < w.heap.size → w'.heap[b]? = w.heap[b]?

omit [Start] in
theorem Adds.refl (w : World) : Adds w w := ⟨rfl, rfl, rfl, Nat.le_refl _, fun _ _ => rfl⟩
omit [Start] in
theorem Adds.alloc {w0 w : World} (H : Adds w0 w) (o : Obj) : Adds w0 (w.alloc o) :=
  ⟨H.os, H.tape, H.output, by simp; have := H.size; omega, fun b hb => by rw [heap_alloc_lt _ _ (by have := H.size; omega)]; exact H.block b hb⟩
omit [Start] in
theorem Adds.drew {w0 w : World} (H : Adds w0 w) : Adds w0 w.drew := ⟨H.os, H.tape, H.output, H.size, H.block⟩

omit [Start] in
theorem own_app {σ' : Sg} {h' : Hp} (hl : σ.length = h.length) {b o : Nat} (ho : own (σ ++ σ') (h ++ h') b o) : own σ h b o ∨ own σ' h' b o := by
  obtain ⟨r, h1, h2⟩ := ho
  by_cases hr : r < h.length
  · rw [List.getElem?_append_left (by omega)] at h1
    rw [List.getElem?_append_left hr] at h2
    exact .inl ⟨r, h1, h2⟩
  · rw [List.getElem?_append_right (by omega)] at h1
    rw [List.getElem?_append_right (by omega)] at h2
    rw [hl] at h1
    exact .inr ⟨r - h.length, h1, h2⟩

omit [Start] in
theorem MonoH.app (hl : σ.length = h.length) (σ' : Sg) (h' : Hp) : MonoH σ h (σ ++ σ') (h ++ h') := by
  refine ⟨by simp, fun r hr hb => ⟨by rw [List.getElem?_append_left (by omega)], fun n => by rw [List.getElem?_append_left hr]; exact hb n⟩, fun r n hr hn => .inl ⟨by rwa [List.getElem?_append_left hr] at hn, by rw [List.getElem?_append_left (by omega)]⟩⟩

/-- New objects, each in a new block of its own or nowhere. -/
theorem step_adds {w' : World} (hi : Inv w σ h) (ha : Adds w w') (σ' : Sg) (h' : Hp) (hnew : ∀ b o, own σ' h' b o → w.heap.size ≤ b) : Step w σ h w' (σ ++ σ') (h ++ h') := by
  refine ⟨ha.os, ha.tape, ha.output, ha.size, fun b hb _ => ha.block b hb, fun b o v _ hc => ?_, fun b o ho => ?_, fun b c e fz hb => ⟨c, ?_, rfl⟩, MonoH.app hi.len σ' h'⟩
  · rw [cell_of_heap (ha.block b (lt_of_cell hc))]; exact hc
  · exact (own_app hi.len ho).imp id (hnew b o)
  · have hlt : b < w.heap.size := by
      apply Decidable.byContradiction
      intro hn
      rw [Array.getElem?_eq_none (by omega)] at hb
      cases hb
    rw [ha.block b hlt]; exact hb

omit [Start] in
theorem Live.step {w' : World} {σ' : Sg} {h' : Hp} {r : Nat} {cs : List D} (H : Live w σ h r cs) (K : Step w σ h w' σ' h') (hr : r < h.length) (hb : notBuf h r) (hsame : ∀ (b : Nat) c e fz, σ[r]? = some (some b) → w.heap[b]? = some (.cells c e fz) → w'.heap[b]? = some (.cells c e fz)) : Live w' σ' h' r cs := by
  refine ⟨H.cells.imp (fun q => ⟨q.1, fun b => by rw [(K.mono.sig r hr hb).1]; exact q.2 b⟩) ?_⟩
  rintro ⟨b, c, e, fz, q1, q2, q3, q4, q5⟩
  refine ⟨b, c, e, fz, (K.mono.sig r hr hb).1 ▸ q1, hsame b c e fz q1 q2, q3, q4, fun i hi => ?_⟩
  obtain ⟨v, v1, v2⟩ := q5 i hi
  exact ⟨v, v1, v2.step K⟩

/-- The same for the invariant: one new object. -/
theorem inv_add {w' : World} (hi : Inv w σ h) (ha : Adds w w') (s : Option Nat) (x : Ob) (hs : ∀ b, s = some b → w.heap.size ≤ b ∧ b < w'.heap.size)
    (hlive : ∀ cs, x = .row cs → Step w σ h w' (σ ++ [s]) (h ++ [x]) → Live w' (σ ++ [s]) (h ++ [x]) h.length cs) :
    Inv w' (σ ++ [s]) (h ++ [x]) ∧ Step w σ h w' (σ ++ [s]) (h ++ [x]) := by
  have hst : Step w σ h w' (σ ++ [s]) (h ++ [x]) := step_adds hi ha [s] [x] (fun b o ⟨r, h1, _⟩ => by
    have : r = 0 ∨ 0 < r := by omega
    rcases this with rfl | hr
    · simp at h1; exact (hs b h1).1
    · rw [List.getElem?_eq_none (by simp; omega)] at h1; cases h1)
  have hlt : ∀ (r b : Nat), (σ ++ [s])[r]? = some (some b) → (r < h.length ∧ σ[r]? = some (some b)) ∨ (r = h.length ∧ s = some b) := by
    intro r b hr
    by_cases hk : r < h.length
    · rw [List.getElem?_append_left (by rw [hi.len]; omega)] at hr; exact .inl ⟨hk, hr⟩
    · rw [List.getElem?_append_right (by rw [hi.len]; omega)] at hr
      have hz : r - σ.length = 0 := by
        apply Decidable.byContradiction
        intro hn
        rw [List.getElem?_eq_none (by simp; omega)] at hr; cases hr
      rw [hz] at hr
      simp at hr
      exact .inr ⟨by have := hi.len; omega, hr⟩
  refine ⟨⟨hi.kept.step hst, by simp [hi.len], fun r b hr => ?_, fun r cs hr => ?_, fun r r' b h1 h2 h3 h4 => ?_⟩, hst⟩
  · rcases hlt r b hr with ⟨_, q⟩ | ⟨_, q⟩
    · have := hi.lt r b q; have := ha.size; omega
    · exact (hs b q).2
  · by_cases hk : r < h.length
    · rw [List.getElem?_append_left hk] at hr
      exact (hi.live r cs hr).step hst hk (fun n hn => by rw [hr] at hn; cases hn) (fun b c e fz q1 q2 => by rw [ha.block b (hi.lt r b q1)]; exact q2)
    · rw [List.getElem?_append_right (by omega)] at hr
      have hz : r - h.length = 0 := by
        apply Decidable.byContradiction
        intro hn
        rw [List.getElem?_eq_none (by simp; omega)] at hr; cases hr
      rw [hz] at hr
      simp at hr
      have : r = h.length := by omega
      subst this
      exact hlive cs hr hst
  · have key : ∀ (q : Nat), q < h.length → (h ++ [x])[q]? ≠ some Ob.dead → h[q]? ≠ some Ob.dead := fun q hq hh => by rwa [List.getElem?_append_left hq] at hh
    rcases hlt r b h1 with ⟨a1, a2⟩ | ⟨a1, a2⟩ <;> rcases hlt r' b h2 with ⟨b1, b2⟩ | ⟨b1, b2⟩
    · exact hi.inj r r' b a2 b2 (key r a1 h3) (key r' b1 h4)
    · have := hi.lt r b a2; have := (hs b b2).1; omega
    · have := hi.lt r' b b2; have := (hs b a2).1; omega
    · omega

/-- New blocks, no new object. -/
theorem inv_same {w' : World} (hi : Inv w σ h) (ha : Adds w w') : Inv w' σ h ∧ Step w σ h w' σ h := by
  have hst : Step w σ h w' σ h := by
    have := step_adds hi ha [] [] (fun b o ⟨r, h1, _⟩ => by simp at h1)
    simpa using this
  refine ⟨⟨hi.kept.step hst, hi.len, fun r b hr => Nat.lt_of_lt_of_le (hi.lt r b hr) ha.size, fun r cs hr => ?_, hi.inj⟩, hst⟩
  have hk : r < h.length := by
    apply Decidable.byContradiction
    intro hn
    rw [List.getElem?_eq_none (by omega)] at hr; cases hr
  exact (hi.live r cs hr).step hst hk (fun n hn => by rw [hr] at hn; cases hn) (fun b c e fz q1 q2 => by rw [ha.block b (hi.lt r b q1)]; exact q2)

omit [Start] in
theorem thawed0 (i : Nat) : thawed (0, 0) i := by simp [thawed]

/-- A new row. -/
theorem alloc_row (hi : Inv w σ h) {cs : List D} {cells rest : Array Value} {e : TypeId} (hr : RepL w (own σ h) σ h cs cells.toList) :
    Inv (w.alloc (.cells (cells ++ rest) e)) (σ ++ [some w.heap.size]) (h ++ [.row cs]) ∧ Step w σ h (w.alloc (.cells (cells ++ rest) e)) (σ ++ [some w.heap.size]) (h ++ [.row cs]) := by
  refine inv_add hi ((Adds.refl w).alloc _) _ _ (fun b hb => by cases hb; simp) (fun cs' he hst => ⟨.inr ?_⟩)
  cases he
  refine ⟨w.heap.size, cells ++ rest, e, (0, 0), by rw [List.getElem?_append_right (by rw [hi.len]; omega), hi.len]; simp, heap_alloc_new _ _, ?_, fun i _ => thawed0 i, fun i hi' => ?_⟩
  · have := hr.1; simp only [Array.length_toList] at this; simp; omega
  · have hl := hr.1
    simp only [Array.length_toList] at hl
    refine ⟨cells.toList[i]'(by simp; omega), ?_, ?_⟩
    · rw [Array.getElem?_append_left (by omega)]; simp
    · exact (hr.2 i hi' (by simp; omega)).step hst
end
end Go.Av

/- Stores into rows and into the free end of a buffer. -/
namespace Go.Av
set_option linter.unusedSectionVars false
variable [Start]

/-- Storing values one behind the other. -/
def World.puts (w : World) (b o : Nat) : List Value → World
  | [] => w
  | v :: vs => World.puts (w.setCell ⟨b, o, none⟩ v) b (o + 1) vs

section
variable {P : Program} {w : World} {σ : Sg} {h : Hp}

omit [Start] in
theorem heap_setCell_ne (w : World) (b o : Nat) (v : Value) {k : Nat} (hk : k ≠ b) : (w.setCell ⟨b, o, none⟩ v).heap[k]? = w.heap[k]? := by
  simp only [World.setCell, Array.getElem?_modify]
  rw [if_neg (by omega)]
omit [Start] in
theorem heap_setCell_eq {w : World} {b : Nat} {c : Array Value} {e : TypeId} {fz : Nat × Nat} (hb : w.heap[b]? = some (.cells c e fz)) (o : Nat) (v : Value) :
    (w.setCell ⟨b, o, none⟩ v).heap[b]? = some (.cells (c.setIfInBounds o v) e fz) := by
  simp [World.setCell, Array.getElem?_modify, hb]

omit [Start] in
theorem puts_spec : ∀ (vs : List Value) (w : World) (b o : Nat) (c : Array Value) (e : TypeId) (fz : Nat × Nat), w.heap[b]? = some (.cells c e fz) →
    (World.puts w b o vs).os = w.os ∧ (World.puts w b o vs).tape = w.tape ∧ (World.puts w b o vs).output = w.output ∧ (World.puts w b o vs).heap.size = w.heap.size ∧
    (∀ k, k ≠ b → (World.puts w b o vs).heap[k]? = w.heap[k]?) ∧
    ∃ c', (World.puts w b o vs).heap[b]? = some (.cells c' e fz) ∧ c'.size = c.size ∧ ∀ i, c'[i]? = if o ≤ i ∧ i < o + vs.length ∧ i < c.size then vs[i - o]? else c[i]?
  | [], w, b, o, c, e, fz, hb => ⟨rfl, rfl, rfl, rfl, fun _ _ => rfl, c, hb, rfl, fun i => by rw [if_neg (by simp; omega)]⟩
  | v :: vs, w, b, o, c, e, fz, hb => by
    obtain ⟨h1, h2, h3, h4, h5, c', h6, h7, h8⟩ := puts_spec vs (w.setCell ⟨b, o, none⟩ v) b (o + 1) _ e fz (heap_setCell_eq hb o v)
    refine ⟨h1, h2, h3, by rw [World.puts, h4]; simp [World.setCell], fun k hk => by rw [World.puts, h5 k hk, heap_setCell_ne _ _ _ _ hk], c', h6, by simpa using h7, fun i => ?_⟩
    rw [h8 i]
    simp only [Array.size_setIfInBounds, Array.getElem?_setIfInBounds, List.length_cons]
    by_cases e1 : i = o
    · subst e1
      rw [if_neg (by omega), if_pos rfl]
      by_cases e2 : i < c.size
      · rw [if_pos e2, if_pos (by omega)]; simp
      · rw [if_neg e2, if_neg (by omega), Array.getElem?_eq_none (by omega)]
    · by_cases e2 : o + 1 ≤ i ∧ i < o + 1 + vs.length ∧ i < c.size
      · rw [if_pos e2, if_pos (by omega), show i - o = (i - (o + 1)) + 1 by omega, List.getElem?_cons_succ]
      · rw [if_neg e2, if_neg (by omega), if_neg (by omega)]

omit [Start] in
theorem oneCell_of_ne {v : Value} (h : ∀ cs, v ≠ .agg cs) (h' : ∀ vs, v ≠ .tuple vs) : v.oneCell' = true := by
  cases v with
  | agg cs => exact absurd rfl (h cs)
  | tuple vs => exact absurd rfl (h' vs)
  | _ => rfl

omit [Start] in
theorem run_puts : ∀ (vs : List Value) (w : World) (b o i : Nat) (c : Array Value) (e : TypeId) (fz : Nat × Nat), w.heap[b]? = some (.cells c e fz) → o + i + vs.length ≤ c.size →
    (∀ j, o + i ≤ j → j < o + i + vs.length → thawed fz j) → (∀ v, v ∈ vs → v.oneCell' = true) → (storeCells ⟨b, o, none⟩ vs i).run P w = .ok () (World.puts w b (o + i) vs)
  | [], _, _, _, _, _, _, _, _, _, _, _ => by simp [storeCells, World.puts]
  | v :: vs, w, b, o, i, c, e, fz, hb, hl, hf, h1 => by
    simp only [List.length_cons] at hl
    have hcell : w.cell? ⟨b, o + i, none⟩ = some (c[o + i]'(by omega)) := by rw [cell_mk hb]; simp
    have hfz : w.frozen? ⟨b, o + i, none⟩ = false := by
      simp only [World.frozen?, hb]
      exact hf (o + i) (by omega) (by simp)
    have ih := run_puts vs (w.setCell ⟨b, o + i, none⟩ v) b o (i + 1) _ e fz (heap_setCell_eq hb (o + i) v) (by simp; omega) (fun j j1 j2 => hf j (by omega) (by simp; omega)) (fun u hu => h1 u (by simp [hu]))
    simp only [storeCells, Sem.run_bind, add_mk, run_store P w _ v _ (h1 v (by simp)), hcell, hfz, Bool.false_eq_true, if_false, Result.andThen_ok, ih, World.puts]
    rw [show o + i + 1 = o + (i + 1) by omega]

def cell1 : D → Prop
  | .agg _ | .tup _ | .junk | .when _ _ => False
  | _ => True

omit [Start] in
/-- Data that fill one cell each. -/
theorem one_of_rep {ow : Nat → Nat → Prop} {d : D} {v : Value} (H : Rep w ow σ h d v) (hd : cell1 d) : v.oneCell' = true := by
  cases H with
  | agg cs vs hl hr => exact absurd hd (by simp [cell1])
  | tup cs vs hl hr => exact absurd hd (by simp [cell1])
  | junk v => exact absurd hd (by simp [cell1])
  | off d => exact absurd hd (by simp [cell1])
  | on d v hr => exact absurd hd (by simp [cell1])
  | _ => rfl

omit [Start] in
theorem ones_of_rep {ow : Nat → Nat → Prop} {ds : List D} {vs : List Value} (H : RepL w ow σ h ds vs) (hd : ∀ d, d ∈ ds → cell1 d) : ∀ v, v ∈ vs → v.oneCell' = true := by
  intro v hv
  obtain ⟨k, hk, rfl⟩ := List.mem_iff_getElem.1 hv
  have hk' : k < ds.length := by rw [← H.1]; exact hk
  exact one_of_rep (H.2 k hk' hk) (hd _ (List.getElem_mem hk'))

omit [Start] in
theorem ob_set (h : Hp) (r k : Nat) (x : Ob) : (h.set r x)[k]? = if k = r ∧ r < h.length then some x else h[k]? := by
  rw [List.getElem?_set]
  by_cases e : k = r
  · subst e
    by_cases hk : k < h.length
    · simp [hk]
    · simp [hk]
  · simp [e, Ne.symm e]

/-- A store into a row. -/
theorem store_row (hi : Inv w σ h) {r off : Nat} {cs ds : List D} {vs : List Value} (hrow : h[r]? = some (.row cs)) (hl : off + ds.length ≤ cs.length) (hpos : 0 < ds.length) (hr : RepL w (own σ h) σ h ds vs) (h1 : ∀ d, d ∈ ds → cell1 d) {b : Nat} (hb : σ[r]? = some (some b)) :
    (storeCells ⟨b, off, none⟩ vs).run P w = .ok () (World.puts w b off vs) ∧ Inv (World.puts w b off vs) σ (h.set r (.row (splice cs off ds))) ∧ Step w σ h (World.puts w b off vs) σ (h.set r (.row (splice cs off ds))) := by
  have hrl : r < h.length := by
    apply Decidable.byContradiction
    intro hn
    rw [List.getElem?_eq_none (Nat.le_of_not_lt hn)] at hrow; cases hrow
  have hvl : vs.length = ds.length := hr.1
  rcases (hi.live r cs hrow).cells with ⟨q, _⟩ | ⟨b', c, e, fz, q1, q2, q3, q4, q5⟩
  · rw [q] at hl; simp only [List.length_nil] at hl; omega
  · obtain rfl : b' = b := by rw [hb] at q1; simpa using q1.symm
    have hrun := run_puts (P := P) vs w b' off 0 c e fz q2 (by omega) (fun j _ j2 => q4 j (by omega)) (ones_of_rep hr h1)
    obtain ⟨p1, p2, p3, p4, p5, c', p6, p7, p8⟩ := puts_spec vs w b' off c e fz q2
    have hown : ∀ b o, own σ (h.set r (.row (splice cs off ds))) b o ↔ own σ h b o := by
      intro b o
      constructor
      · rintro ⟨k, k1, k2⟩
        refine ⟨k, k1, ?_⟩
        rw [ob_set] at k2
        split at k2
        · rename_i hk; rw [hk.1]; exact .inl ⟨cs, hrow⟩
        · exact k2
      · rintro ⟨k, k1, k2⟩
        refine ⟨k, k1, ?_⟩
        rw [ob_set]
        split
        · exact .inl ⟨_, rfl⟩
        · exact k2
    have hob : ∀ o, own σ h b' o := fun o => ⟨r, hb, .inl ⟨cs, hrow⟩⟩
    have hst : Step w σ h (World.puts w b' off vs) σ (h.set r (.row (splice cs off ds))) := by
      refine ⟨p1, p2, p3, by rw [p4]; exact Nat.le_refl _, fun k hk ho => p5 k (fun e => ho 0 (e ▸ hob 0)), fun k o v ho hc => ?_, fun k o ho => .inl ((hown k o).1 ho), fun k ck ek fk hk => ?_, ⟨by simp, fun k hk hn => ⟨rfl, fun n => ?_⟩, fun k n hk hn => .inl ⟨?_, rfl⟩⟩⟩
      · rw [cell_of_heap (p5 k (fun e => ho (e ▸ hob o)))]; exact hc
      · by_cases e1 : k = b'
        · subst e1
          rw [q2] at hk
          cases hk
          exact ⟨c', p6, p7⟩
        · exact ⟨ck, by rw [p5 k e1]; exact hk, rfl⟩
      · rw [ob_set]
        split
        · simp
        · exact hn n
      · rw [ob_set] at hn
        split at hn
        · cases hn
        · exact hn
    refine ⟨by simpa using hrun, ⟨hi.kept.step hst, by simp [hi.len], fun k b hk => by rw [p4]; exact hi.lt k b hk, fun k cs' hk => ?_, fun k k' b h1 h2 h3 h4 => hi.inj k k' b h1 h2 ?_ ?_⟩, hst⟩
    · rw [ob_set] at hk
      split at hk
      · rename_i hkr
        cases hk
        rw [hkr.1]
        refine ⟨.inr ⟨b', c', e, fz, hb, p6, by rw [size_splice hl, p7]; exact q3, by rw [p7]; exact q4, fun i hi' => ?_⟩⟩
        rw [size_splice hl] at hi'
        rw [p8 i]
        simp only [splice]
        by_cases c1 : off ≤ i ∧ i < off + vs.length
        · rw [if_pos ⟨c1.1, c1.2, by omega⟩]
          refine ⟨vs[i - off]'(by omega), by rw [List.getElem?_eq_getElem (by omega)], ?_⟩
          have := (hr.2 (i - off) (by omega) (by omega)).step hst
          have he : (cs.take off ++ ds ++ cs.drop (off + ds.length))[i]'(by simp; omega) = ds[i - off]'(by omega) := by
            rw [List.getElem_append_left (by simp; omega), List.getElem_append_right (by simp; omega)]
            simp [show min off cs.length = off by omega]
          rw [he]
          exact this
        · rw [if_neg (by omega)]
          obtain ⟨v, v1, v2⟩ := q5 i hi'
          refine ⟨v, v1, ?_⟩
          have he : (cs.take off ++ ds ++ cs.drop (off + ds.length))[i]'(by simp; omega) = cs[i] := by
            by_cases c2 : i < off
            · rw [List.getElem_append_left (by simp; omega), List.getElem_append_left (by simp; omega)]
              simp
            · rw [List.getElem_append_right (by simp; omega)]
              simp only [List.getElem_drop, List.length_append, List.length_take]
              congr 1
              omega
          rw [he]
          exact v2.step hst
      · rename_i hkr
        have hkl : k < h.length := by
          apply Decidable.byContradiction
          intro hn
          rw [List.getElem?_eq_none (Nat.le_of_not_lt hn)] at hk; cases hk
        refine (hi.live k cs' hk).step hst hkl (fun n hn => by rw [hk] at hn; cases hn) (fun b2 c2 e2 f2 g1 g2 => ?_)
        have hne : b2 ≠ b' := by
          rintro rfl
          exact hkr ⟨hi.inj k r b2 g1 hb (by rw [hk]; simp) (by rw [hrow]; simp), hrl⟩
        rw [p5 b2 hne]; exact g2
    · rw [ob_set] at h3
      split at h3
      · rename_i e1; rw [e1.1, hrow]; simp
      · exact h3
    · rw [ob_set] at h4
      split at h4
      · rename_i e1; rw [e1.1, hrow]; simp
      · exact h4
end
end Go.Av

/- append -/
namespace Go.Av
set_option linter.unusedSectionVars false
variable [Start]

section
variable {P : Program} {w : World} {σ : Sg} {h : Hp}

omit [Start] in
/-- The cells of a slice that is not written. -/
theorem run_cells {ow : Nat → Nat → Prop} {es : List D} {t : Tok} {v : Value} {sz : Nat} (hs : Rep w ow σ h (.slice es t) v) (ha : AllSz sz es) :
    ∃ a cap vals, v = .slice a es.length cap ∧ es.length ≤ cap ∧ (∀ w' : World, (∀ x, w'.cell? x = w.cell? x) → (Builtin.firstCells sz es.length v).run P w' = .ok vals w') ∧ RepL w ow [] [] (flat es) vals.toList ∧
      ∀ b o, a = some ⟨b, o, none⟩ → ∀ k, k < (flat es).length → w.cell? ⟨b, o + k, none⟩ = vals.toList[k]? := by
  cases hs with
  | slice _ _ a cap vs hlen hcap hfull htok hc hr =>
    have hl := flat_length ha
    cases a with
    | none =>
      have h0 : (flat es).length = 0 := by
        apply Decidable.byContradiction
        intro hn
        obtain ⟨b, o, e, _⟩ := hc 0 (by omega)
        cases e
      exact ⟨none, cap, #[], rfl, hcap, fun _ _ => rfl, ⟨by simp [h0], fun k h1 => absurd h1 (by omega)⟩, fun _ _ e => nomatch e⟩
    | some a =>
      by_cases h0 : (flat es).length = 0
      · refine ⟨some a, cap, #[], rfl, hcap, fun w' _ => ?_, ⟨by simp [h0], fun k h1 => absurd h1 (by omega)⟩, fun _ _ _ k hk => absurd hk (by omega)⟩
        rw [hl] at h0
        simp only [Builtin.firstCells, h0, loadCells, loadCellsFrom, Sem.run_pure]
      · obtain ⟨b, o, e, _, _⟩ := hc 0 (by omega)
        cases e
        refine ⟨_, cap, ((List.range (es.length * sz)).map vs).toArray, rfl, hcap, fun w' hw' => ?_, ⟨by simp [hl], fun k h1 h2 => ?_⟩, fun b' o' e k hk => ?_⟩
        · simp only [Builtin.firstCells]
          refine run_loadCells w' _ _ vs fun j hj => ?_
          obtain ⟨b', o', e, _, q⟩ := hc j (by omega)
          cases e
          rw [add_mk, hw']; exact q
        · simp only [List.getElem_map, List.getElem_range]
          exact hr k h1
        · cases e
          obtain ⟨b', o', e, _, q⟩ := hc k hk
          cases e
          rw [q]
          rw [hl] at hk
          simp [List.getElem?_map, List.getElem?_range hk]

/-- What append asks of types and sizes. -/
structure AppOk (P : Program) (t : TypeId) (es news : List D) : Prop where
  k1 : isSliceK (ti P t).kind
  k3 : (ti P (ti P t).elem).has = true
  k3' : 0 < (ti P (ti P t).elem).sz
  k3'' : (ti P (ti P t).elem).zero.length = (ti P (ti P t).elem).sz
  k4 : AllSz (ti P (ti P t).elem).sz es
  k5 : AllSz (ti P (ti P t).elem).sz news
  k6 : es.length + news.length ≤ lenMax
  k7 : (es.length + news.length) * (ti P (ti P t).elem).bs ≤ 140737488355328

omit [Start] in
theorem zero_of {t : TypeId} (hh : (ti P t).has = true) (hp : 0 < (ti P t).sz) (hz : (ti P t).zero.length = (ti P t).sz) : ∃ i z, P.info? t = some i ∧ i.size = (ti P t).sz ∧ i.bytes = (ti P t).bs ∧ i.zero = some z ∧ z.cells.size = (ti P t).sz := by
  obtain ⟨i, d, e1, e2, e3⟩ := ti_has hh
  rw [e3] at hp hz ⊢
  simp only at hp hz ⊢
  cases hi : i.zero with
  | none => simp only [zeroOf, hi, List.length_nil] at hz; omega
  | some z => exact ⟨i, z, e1, rfl, rfl, hi, by simpa [zeroOf, hi] using hz⟩

omit [Start] in
/-- The run where there is room. -/
theorem run_app_fits {t ty : TypeId} {es news : List D} (hk : AppOk P t es news) {a a2 : Option Addr} {cap c2 : Nat} {vals : Array Value}
    (hv : (Builtin.firstCells (ti P (ti P t).elem).sz news.length (.slice a2 news.length c2)).run P w = .ok vals w) (hfit : es.length + news.length ≤ cap) {w' : World}
    (hst : ∀ x, a = some x → (storeCells (x.add (es.length * (ti P (ti P t).elem).sz)) vals.toList).run P w = .ok () w') (hn : a = none → w' = w) :
    (Builtin.append_ #[t, t] ty #[.slice a es.length cap, .slice a2 news.length c2]).run P w = .ok (.slice a (es.length + news.length) cap) w' := by
  obtain ⟨i, z, e1, e2, e3, e4, e5⟩ := zero_of hk.k3 hk.k3' hk.k3''
  have ht := ti_slice (slice_of hk.k1)
  rw [← e2] at hv hst
  cases a with
  | none => simp [Builtin.append_, run_underlying ht, sizeOf, typeInfo, e1, Builtin.lenOf, hfit, hv, hn]
  | some x => simp [Builtin.append_, run_underlying ht, sizeOf, typeInfo, e1, Builtin.lenOf, hfit, hv, hst x rfl]

omit [Start] in
theorem size_zeroCells' (z : Array Value) (n : Nat) : (Builtin.zeroCells z n).size = n * z.size := by simp [Builtin.zeroCells]

omit [Start] in
/-- The run where a new array is made. -/
theorem run_app_grow {t ty : TypeId} {es news : List D} (hk : AppOk P t es news) {a a2 : Option Addr} {cap c2 : Nat} {olds vals : Array Value}
    (ho : (Builtin.firstCells (ti P (ti P t).elem).sz es.length (.slice a es.length cap)).run P w.drew = .ok olds w.drew)
    (hv : (Builtin.firstCells (ti P (ti P t).elem).sz news.length (.slice a2 news.length c2)).run P w.drew = .ok vals w.drew) (hfit : cap < es.length + news.length) :
    ∃ newCap rest, es.length + news.length ≤ newCap ∧ rest.size = (newCap - (es.length + news.length)) * (ti P (ti P t).elem).sz ∧
      (Builtin.append_ #[t, t] ty #[.slice a es.length cap, .slice a2 news.length c2]).run P w = .ok (.slice (some ⟨w.heap.size, 0, none⟩) (es.length + news.length) newCap) (w.drew.alloc (.cells (olds ++ vals ++ rest) (ti P t).elem)) := by
  obtain ⟨i, z, e1, e2, e3, e4, e5⟩ := zero_of hk.k3 hk.k3' hk.k3''
  have ht := ti_slice (slice_of hk.k1)
  have h7 := hk.k7
  have h6 := hk.k6
  have hp := hk.k3'
  generalize (ti P t).elem = e at *
  refine ⟨grownCap w (es.length + news.length) cap e, Builtin.zeroCells z.cells (grownCap w (es.length + news.length) cap e - (es.length + news.length)), ?_, by rw [size_zeroCells', e5], ?_⟩
  · unfold grownCap; simp only [Question.cut]; omega
  · rw [← e2] at ho hv
    rw [← e3] at h7
    have hn : ¬ (es.length + news.length ≤ cap) := by omega
    have h63' : ¬ (9223372036854775807 < ((es.length : Int) + (news.length : Int))) := by simp only [lenMax] at h6; omega
    have h48' : ¬ (281474976710656 < Builtin.nextslicecap (es.length + news.length) cap * i.bytes) := by have := growslice_fits hfit h7; omega
    simp [Builtin.append_, run_underlying ht, sizeOf, typeInfo, zeroValue, e1, e4, Builtin.lenOf, hn, h63', h48', Question.forced, ho, hv, newRow, grownCap]

omit [Start] in
/-- A reading of pure data in whatever objects. -/
theorem Rep.pure {ow : Nat → Nat → Prop} {d : D} {v : Value} (H : Rep w ow [] [] d v) (σ : Sg) (h : Hp) : Rep w ow σ h d v :=
  H.mono ⟨fun _ _ _ _ q => q, fun _ _ _ q => q, fun _ c _ _ q => ⟨c, q, rfl⟩⟩ ⟨Nat.zero_le _, fun r hr => absurd hr (by simp), fun r n hr => absurd hr (by simp)⟩
omit [Start] in
theorem Rep.pureW {w' : World} {ow ow' : Nat → Nat → Prop} {d : D} {v : Value} (H : Rep w ow [] [] d v) (hm : MonoW w ow w' ow') : Rep w' ow' [] [] d v := H.mono hm MonoH.nil

omit [Start] in
/-- What a slice over a row of pure cells in one block reads as. -/
theorem rep_slice_mk {w' : World} {ow' : Nat → Nat → Prop} {σ' : Sg} {h' : Hp} {es : List D} {t : Tok} {b cap : Nat} {c : Array Value} {e : TypeId} {fz : Nat × Nat} (hb : w'.heap[b]? = some (.cells c e fz)) {vals : List Value}
    (hlen : es.length ≤ lenMax) (hcap : es.length ≤ cap) (hfull : CapOk t es.length cap) (htok : ∀ r sz, t = .buf r sz → TokOk w' σ' h' r sz (flat es).length es.length (some ⟨b, 0, none⟩) cap)
    (hown : ∀ k, k < (flat es).length → ¬ ow' b k) (hr : RepL w' ow' [] [] (flat es) vals) (hc : ∀ k, k < vals.length → c[k]? = vals[k]?) : Rep w' ow' σ' h' (.slice es t) (.slice (some ⟨b, 0, none⟩) es.length cap) := by
  refine .slice es t _ cap (fun k => vals.getD k undef) hlen hcap hfull htok (fun k hk => ⟨b, 0, rfl, by rw [Nat.zero_add]; exact hown k hk, ?_⟩) (fun k hk => ?_)
  · have := hr.1
    rw [Nat.zero_add, cell_mk hb, hc k (by omega), List.getD_eq_getElem?_getD, List.getElem?_eq_getElem (by omega)]
    rfl
  · have := hr.1
    rw [List.getD_eq_getElem?_getD, List.getElem?_eq_getElem (by omega)]
    exact hr.2 k hk (by omega)

omit [Start] in
theorem adds_grow (w : World) (o : Obj) : Adds w (w.drew.alloc o) := ((Adds.refl w).drew).alloc o

/-- append to a full slice: a buffer of its own. -/
theorem app_full (hi : Inv w σ h) {t ty : TypeId} {es news : List D} {t2 : Tok} {v vx : Value} (hs : Rep w (own σ h) σ h (.slice es .full) v) (hx : Rep w (own σ h) σ h (.slice news t2) vx) (hk : AppOk P t es news) :
    ∃ u w' s, (Builtin.append_ #[t, t] ty #[v, vx]).run P w = .ok u w' ∧ Inv w' (σ ++ [s]) (h ++ [.buf ((es.length + news.length) * (ti P (ti P t).elem).sz)]) ∧
      Step w σ h w' (σ ++ [s]) (h ++ [.buf ((es.length + news.length) * (ti P (ti P t).elem).sz)]) ∧
      Rep w' (own (σ ++ [s]) (h ++ [.buf ((es.length + news.length) * (ti P (ti P t).elem).sz)])) (σ ++ [s]) (h ++ [.buf ((es.length + news.length) * (ti P (ti P t).elem).sz)]) (.slice (es ++ news) (.buf h.length (ti P (ti P t).elem).sz)) u := by
  have hfl : (flat (es ++ news)).length = (es.length + news.length) * (ti P (ti P t).elem).sz := by rw [flat_append, List.length_append, flat_length hk.k4, flat_length hk.k5, Nat.add_mul]
  obtain ⟨a, cap, olds, rfl, hcap, holds, hro, _⟩ := run_cells (P := P) hs hk.k4
  have hfull : cap = es.length := by cases hs with | slice _ _ _ _ vs _ _ hf _ _ _ => exact hf
  obtain ⟨a2, c2, vals, rfl, hcap2, hvals, hrv, _⟩ := run_cells (P := P) hx hk.k5
  by_cases hn : news = []
  · subst hn
    have hv0 : vals = #[] := by have := hrv.1; simp [flat] at this; exact this
    subst hv0
    have hrun := run_app_fits (P := P) (ty := ty) (w := w) hk (a := a) (cap := cap) (hvals w (fun _ => rfl)) (by simp; omega) (w' := w) (fun x _ => by simp [storeCells]) (fun _ => rfl)
    obtain ⟨g1, g2⟩ := inv_add hi (Adds.refl w) none (.buf ((es.length + ([] : List D).length) * (ti P (ti P t).elem).sz)) (fun b e => by cases e) (fun cs e => by cases e)
    refine ⟨_, w, none, hrun, g1, g2, ?_⟩
    have hs' := hs.step g2
    simp only [List.append_nil, List.length_nil, Nat.add_zero] at *
    cases hs' with
    | slice _ _ _ _ vs hlen hcap' hf htok hc hr =>
      refine .slice es _ a cap vs hlen hcap' trivial (fun r sz e => ?_) hc hr
      cases e
      exact ⟨by simp, hfl, fun n hn => by
        rw [List.getElem?_append_right (Nat.le_refl _)] at hn
        simp at hn
        exact ⟨by omega, fun _ => .inl ((show cap = es.length from hf))⟩⟩
  · have hn0 : 0 < news.length := List.length_pos_iff.2 hn
    obtain ⟨newCap, rest, g1, g2, g3⟩ := run_app_grow (P := P) (ty := ty) hk (holds w.drew (fun _ => rfl)) (hvals w.drew (fun _ => rfl)) (by omega)
    have ha := adds_grow w (.cells (olds ++ vals ++ rest) (ti P t).elem)
    obtain ⟨i1, i2⟩ := inv_add hi ha (some w.heap.size) (.buf ((es.length + news.length) * (ti P (ti P t).elem).sz)) (fun b e => by cases e; simp) (fun cs e => by cases e)
    refine ⟨_, _, _, g3, i1, i2, ?_⟩
    have hl0 : olds.size = es.length * (ti P (ti P t).elem).sz := by have := hro.1; rw [flat_length hk.k4] at this; simpa using this
    have hl1 : vals.size = news.length * (ti P (ti P t).elem).sz := by have := hrv.1; rw [flat_length hk.k5] at this; simpa using this
    have hm := i2.monoW
    have hrep : RepL (w.drew.alloc (.cells (olds ++ vals ++ rest) (ti P t).elem)) (own (σ ++ [some w.heap.size]) (h ++ [.buf ((es.length + news.length) * (ti P (ti P t).elem).sz)])) [] [] (flat (es ++ news)) (olds ++ vals).toList := by
      rw [flat_append, Array.toList_append]
      exact RepL.append ⟨hro.1, fun k h1 h2 => (hro.2 k h1 h2).pureW hm⟩ ⟨hrv.1, fun k h1 h2 => (hrv.2 k h1 h2).pureW hm⟩
    rw [show Value.slice (some ⟨w.heap.size, 0, none⟩) (es.length + news.length) newCap = Value.slice (some ⟨w.heap.size, 0, none⟩) (es ++ news).length newCap by simp]
    refine rep_slice_mk (c := olds ++ vals ++ rest) (e := (ti P t).elem) (fz := (0, 0)) (heap_alloc_new w.drew _) (by simpa using hk.k6) (by simpa using g1) trivial (fun r sz e => ?_) (fun k hk' => ?_) hrep (fun k hk' => ?_)
    · cases e
      refine ⟨by simp, by rw [hfl]; simp, fun n hn => ?_⟩
      rw [List.getElem?_append_right (Nat.le_refl _)] at hn
      simp at hn
      refine ⟨by omega, fun _ => .inr ⟨w.heap.size, _, _, _, rfl, by rw [List.getElem?_append_right (by rw [hi.len]; omega), hi.len]; simp, heap_alloc_new w.drew _, ?_, fun i _ => thawed0 i⟩⟩
      simp only [Array.size_append, hl0, hl1, g2]
      rw [← Nat.add_mul, ← Nat.add_mul]
      exact Nat.mul_le_mul_right _ (by omega)
    · rintro ⟨r, h1, h2⟩
      by_cases hr : r < h.length
      · rw [List.getElem?_append_left (by rw [hi.len]; omega)] at h1
        have := hi.lt r _ h1
        omega
      · rw [List.getElem?_append_right (by omega)] at h2
        have hz : r - h.length = 0 := by
          apply Decidable.byContradiction
          intro hn
          rw [List.getElem?_eq_none (by simp; omega)] at h2
          rcases h2 with ⟨_, e⟩ | ⟨_, e, _⟩ <;> cases e
        rw [hz] at h2
        simp at h2
        omega
    · simp only [Array.length_toList, Array.size_append] at hk'
      rw [Array.getElem?_append_left (by simp; omega), ← Array.getElem?_toList]
end
end Go.Av

/- append to a slice that ends where its buffer's used part ends -/
namespace Go.Av
set_option linter.unusedSectionVars false
variable [Start]

section
variable {P : Program} {w : World} {σ : Sg} {h : Hp}

omit [Start] in
theorem set_same {h : Hp} {r : Nat} {x : Ob} (hr : h[r]? = some x) : h.set r x = h := by
  apply List.ext_getElem?
  intro k
  rw [ob_set]
  split
  · rename_i e; rw [e.1, hr]
  · rfl

/-- Of another object of the heap nothing has turned. -/
theorem inv_set_buf (hi : Inv w σ h) {r m n : Nat} (hob : h[r]? = some (.buf m)) (hmn : m < n) {w' : World} {s : Option Nat} {σ' : Sg} (hσ : ∀ k : Nat, σ'[k]? = if k = r then some s else σ[k]?) (hσl : σ'.length = σ.length)
    (hos : w'.os = w.os) (htape : w'.tape = w.tape) (hout : w'.output = w.output) (hsize : w.heap.size ≤ w'.heap.size)
    (hblock : ∀ b : Nat, b < w.heap.size → (∀ o, ¬ own σ h b o) → w'.heap[b]? = w.heap[b]?) (hcell : ∀ b o v, ¬ own σ h b o → w.cell? ⟨b, o, none⟩ = some v → w'.cell? ⟨b, o, none⟩ = some v)
    (hshape : ∀ (b : Nat) c e fz, w.heap[b]? = some (.cells c e fz) → ∃ c', w'.heap[b]? = some (.cells c' e fz) ∧ c'.size = c.size)
    (hrows : ∀ (k b : Nat), k ≠ r → σ[k]? = some (some b) → h[k]? ≠ some .dead → w'.heap[b]? = w.heap[b]?)
    (hs : ∀ b, s = some b → b < w'.heap.size ∧ (σ[r]? = some (some b) ∨ w.heap.size ≤ b)) :
    Inv w' σ' (h.set r (.buf n)) ∧ Step w σ h w' σ' (h.set r (.buf n)) := by
  have hrl : r < h.length := by
    apply Decidable.byContradiction
    intro hn
    rw [List.getElem?_eq_none (Nat.le_of_not_lt hn)] at hob; cases hob
  have hne : ∀ k, k ≠ r → (h.set r (.buf n))[k]? = h[k]? := fun k hk => by rw [ob_set, if_neg (fun e => hk e.1)]
  have heq : (h.set r (.buf n))[r]? = some (.buf n) := by rw [ob_set, if_pos ⟨rfl, hrl⟩]
  have hσne : ∀ k, k ≠ r → σ'[k]? = σ[k]? := fun k hk => by rw [hσ, if_neg hk]
  have hσeq : σ'[r]? = some s := by rw [hσ, if_pos rfl]
  have hmono : MonoH σ h σ' (h.set r (.buf n)) := by
    refine ⟨by simp, fun k hk hb => ?_, fun k j hk hj => ?_⟩
    · have hkr : k ≠ r := fun e => hb m (e ▸ hob)
      exact ⟨hσne k hkr, fun j => by rw [hne k hkr]; exact hb j⟩
    · by_cases e : k = r
      · subst e
        rw [heq] at hj
        cases hj
        exact .inr ⟨m, hmn, hob⟩
      · rw [hne k e] at hj
        exact .inl ⟨hj, hσne k e⟩
  have howns : ∀ b o, own σ' (h.set r (.buf n)) b o → own σ h b o ∨ w.heap.size ≤ b := by
    rintro b o ⟨k, k1, k2⟩
    by_cases e : k = r
    · subst e
      rw [hσeq] at k1
      rw [heq] at k2
      rcases (hs b (by simpa using k1)).2 with q | q
      · refine .inl ⟨k, q, .inr ⟨m, hob, ?_⟩⟩
        rcases k2 with ⟨_, e⟩ | ⟨j, e, hj⟩
        · cases e
        · cases e; omega
      · exact .inr q
    · rw [hσne k e] at k1
      rw [hne k e] at k2
      exact .inl ⟨k, k1, k2⟩
  have hst : Step w σ h w' σ' (h.set r (.buf n)) := ⟨hos, htape, hout, hsize, hblock, hcell, howns, hshape, hmono⟩
  refine ⟨⟨hi.kept.step hst, by simp [hσl, hi.len], fun k b hk => ?_, fun k cs hk => ?_, fun k k' b h1 h2 h3 h4 => ?_⟩, hst⟩
  · by_cases e : k = r
    · rw [e, hσeq] at hk
      exact (hs b (by simpa using hk)).1
    · rw [hσne k e] at hk
      have := hi.lt k b hk; omega
  · have e : k ≠ r := by rintro rfl; rw [heq] at hk; cases hk
    rw [hne k e] at hk
    have hkl : k < h.length := by
      apply Decidable.byContradiction
      intro hn
      rw [List.getElem?_eq_none (Nat.le_of_not_lt hn)] at hk; cases hk
    exact (hi.live k cs hk).step hst hkl (fun j hj => by rw [hk] at hj; cases hj) (fun b c e2 fz g1 g2 => by rw [hrows k b e g1 (by rw [hk]; simp)]; exact g2)
  · have key : ∀ k, k ≠ r → (h.set r (.buf n))[k]? ≠ some .dead → h[k]? ≠ some .dead := fun k hk hh => by rwa [hne k hk] at hh
    by_cases e1 : k = r
    · by_cases e2 : k' = r
      · rw [e1, e2]
      · exfalso
        rw [e1, hσeq] at h1
        rw [hσne k' e2] at h2
        rcases (hs b (by simpa using h1)).2 with q | q
        · exact e2 (hi.inj k' r b h2 q (key k' e2 h4) (by rw [hob]; simp))
        · have := hi.lt k' b h2; omega
    · by_cases e2 : k' = r
      · exfalso
        rw [e2, hσeq] at h2
        rw [hσne k e1] at h1
        rcases (hs b (by simpa using h2)).2 with q | q
        · exact e1 (hi.inj k r b h1 q (key k e1 h3) (by rw [hob]; simp))
        · have := hi.lt k b h1; omega
      · rw [hσne k e1] at h1
        rw [hσne k' e2] at h2
        exact hi.inj k k' b h1 h2 (key k e1 h3) (key k' e2 h4)

theorem app_buf (hi : Inv w σ h) {t ty : TypeId} {es news : List D} {t2 : Tok} {r : Nat} {v vx : Value} (hs : Rep w (own σ h) σ h (.slice es (.buf r (ti P (ti P t).elem).sz)) v) (hx : Rep w (own σ h) σ h (.slice news t2) vx) (hk : AppOk P t es news)
    (h1 : ∀ d, d ∈ flat news → cell1 d) (hob : h[r]? = some (.buf (es.length * (ti P (ti P t).elem).sz))) :
    ∃ u w' σ', (Builtin.append_ #[t, t] ty #[v, vx]).run P w = .ok u w' ∧ Inv w' σ' (h.set r (.buf ((es.length + news.length) * (ti P (ti P t).elem).sz))) ∧
      Step w σ h w' σ' (h.set r (.buf ((es.length + news.length) * (ti P (ti P t).elem).sz))) ∧
      Rep w' (own σ' (h.set r (.buf ((es.length + news.length) * (ti P (ti P t).elem).sz)))) σ' (h.set r (.buf ((es.length + news.length) * (ti P (ti P t).elem).sz))) (.slice (es ++ news) (.buf r (ti P (ti P t).elem).sz)) u := by
  have hfl : (flat (es ++ news)).length = (es.length + news.length) * (ti P (ti P t).elem).sz := by rw [flat_append, List.length_append, flat_length hk.k4, flat_length hk.k5, Nat.add_mul]
  obtain ⟨a, cap, olds, rfl, hcap, holds, hro, hmem⟩ := run_cells (P := P) hs hk.k4
  obtain ⟨a2, c2, vals, rfl, hcap2, hvals, hrv, _⟩ := run_cells (P := P) hx hk.k5
  have hrl : r < h.length := by
    apply Decidable.byContradiction
    intro hn
    rw [List.getElem?_eq_none (Nat.le_of_not_lt hn)] at hob; cases hob
  have heq : (h.set r (.buf ((es.length + news.length) * (ti P (ti P t).elem).sz)))[r]? = some (.buf ((es.length + news.length) * (ti P (ti P t).elem).sz)) := by rw [ob_set, if_pos ⟨rfl, hrl⟩]
  have hl0 : olds.size = es.length * (ti P (ti P t).elem).sz := by have := hro.1; rw [flat_length hk.k4] at this; simpa using this
  have hl1 : vals.size = news.length * (ti P (ti P t).elem).sz := by have := hrv.1; rw [flat_length hk.k5] at this; simpa using this
  have hl1' : vals.toList.length = news.length * (ti P (ti P t).elem).sz := by simpa using hl1
  have hp := hk.k3'
  by_cases hn : news = []
  · subst hn
    have hv0 : vals = #[] := by have := hrv.1; simp [flat] at this; exact this
    subst hv0
    have hrun := run_app_fits (P := P) (ty := ty) (w := w) hk (a := a) (cap := cap) (hvals w (fun _ => rfl)) (by simp; omega) (w' := w) (fun x _ => by simp [storeCells]) (fun _ => rfl)
    simp only [List.length_nil, Nat.add_zero, List.append_nil] at *
    rw [set_same hob]
    exact ⟨_, w, σ, hrun, hi, .refl w σ h, hs⟩
  · have hn0 : 0 < news.length := List.length_pos_iff.2 hn
    have hlt : es.length * (ti P (ti P t).elem).sz < (es.length + news.length) * (ti P (ti P t).elem).sz := Nat.mul_lt_mul_of_pos_right (by omega) hp
    by_cases hfit : es.length + news.length ≤ cap
    · have htok : TokOk w σ h r (ti P (ti P t).elem).sz (flat es).length es.length a cap := by cases hs with | slice _ _ _ _ vs _ _ _ ht _ _ => exact ht _ _ rfl
      obtain ⟨q1, q2, q3⟩ := htok
      rcases (q3 _ hob).2 q2 with q | ⟨b, c, e, fz, rfl, g2, g3, g4, g5⟩
      · omega
      · have hroom : es.length * (ti P (ti P t).elem).sz + vals.toList.length ≤ c.size := by
          rw [hl1', ← Nat.add_mul]
          exact Nat.le_trans (Nat.mul_le_mul_right _ hfit) g4
        have hput := run_puts (P := P) vals.toList w b (es.length * (ti P (ti P t).elem).sz) 0 c e fz g3 (by omega) (fun j _ j2 => g5 j (by
            rw [Nat.add_zero, hl1', ← Nat.add_mul] at j2
            exact Nat.lt_of_lt_of_le j2 (Nat.mul_le_mul_right _ hfit)))
          (ones_of_rep (w := w) (ow := own σ h) (σ := []) (h := []) hrv h1)
        have hrun := run_app_fits (P := P) (ty := ty) (w := w) hk (a := some ⟨b, 0, none⟩) (cap := cap) (hvals w (fun _ => rfl)) hfit (w' := World.puts w b (es.length * (ti P (ti P t).elem).sz) vals.toList)
          (fun x hx => by cases hx; rw [add_mk, Nat.zero_add]; simpa using hput) (fun e => nomatch e)
        obtain ⟨p1, p2, p3, p4, p5, c', p6, p7, p8⟩ := puts_spec vals.toList w b (es.length * (ti P (ti P t).elem).sz) c e fz g3
        have hownb : ∀ o, es.length * (ti P (ti P t).elem).sz ≤ o → own σ h b o := fun o ho => ⟨r, g2, .inr ⟨_, hob, ho⟩⟩
        obtain ⟨i1, i2⟩ := inv_set_buf (w' := World.puts w b (es.length * (ti P (ti P t).elem).sz) vals.toList) (s := some b) (σ' := σ) hi hob hlt (fun k => by split <;> simp_all) rfl p1 p2 p3 (by rw [p4]; exact Nat.le_refl _)
          (fun b' hb' ho => p5 b' (fun e => ho _ (e ▸ hownb _ (Nat.le_refl _))))
          (fun b' o v' ho hc => by
            by_cases e1 : b' = b
            · subst e1
              rw [cell_mk g3] at hc
              rw [cell_mk p6, p8 o, if_neg (fun e => ho (hownb o e.1))]
              exact hc
            · rw [cell_of_heap (p5 b' e1)]; exact hc)
          (fun b' c0 e0 f0 hb' => by
            by_cases e1 : b' = b
            · subst e1
              rw [g3] at hb'
              cases hb'
              exact ⟨c', p6, p7⟩
            · exact ⟨c0, by rw [p5 b' e1]; exact hb', rfl⟩)
          (fun k b' hkr hk1 hk2 => p5 b' (fun e => hkr (hi.inj k r b (e ▸ hk1) g2 hk2 (by rw [hob]; simp))))
          (fun b' hb' => by cases hb'; exact ⟨by rw [p4]; exact hi.lt r b g2, .inl g2⟩)
        refine ⟨_, _, σ, hrun, i1, i2, ?_⟩
        have hm := i2.monoW
        have hrep : RepL (World.puts w b (es.length * (ti P (ti P t).elem).sz) vals.toList) (own σ (h.set r (.buf ((es.length + news.length) * (ti P (ti P t).elem).sz)))) [] [] (flat (es ++ news)) (olds ++ vals).toList := by
          rw [flat_append, Array.toList_append]
          exact RepL.append ⟨hro.1, fun k h1 h2 => (hro.2 k h1 h2).pureW hm⟩ ⟨hrv.1, fun k h1 h2 => (hrv.2 k h1 h2).pureW hm⟩
        rw [show Value.slice (some ⟨b, 0, none⟩) (es.length + news.length) cap = Value.slice (some ⟨b, 0, none⟩) (es ++ news).length cap by simp]
        refine rep_slice_mk (c := c') (e := e) (fz := fz) p6 (by simpa using hk.k6) (by simpa using hfit) trivial (fun r' sz' e' => ?_) (fun k hk' => ?_) hrep (fun k hk' => ?_)
        · cases e'
          refine ⟨by simpa using hrl, by rw [hfl]; simp, fun n hn => ?_⟩
          rw [heq] at hn
          cases hn
          exact ⟨by omega, fun _ => .inr ⟨b, c', e, fz, rfl, g2, p6, by rw [p7]; exact g4, g5⟩⟩
        · rintro ⟨k', k1, k2⟩
          by_cases e1 : k' = r
          · rw [e1, heq] at k2
            rcases k2 with ⟨_, e⟩ | ⟨j, e, hj⟩
            · cases e
            · cases e; omega
          · rw [ob_set, if_neg (fun e => e1 e.1)] at k2
            have hd : h[k']? ≠ some .dead := by rcases k2 with ⟨_, e⟩ | ⟨_, e, _⟩ <;> rw [e] <;> simp
            exact e1 (hi.inj k' r b k1 g2 hd (by rw [hob]; simp))
        · rw [Array.toList_append, List.length_append, hl1', show olds.toList.length = es.length * (ti P (ti P t).elem).sz by simpa using hl0] at hk'
          rw [p8 k, Array.toList_append]
          by_cases e1 : k < es.length * (ti P (ti P t).elem).sz
          · rw [if_neg (by omega), List.getElem?_append_left (by simpa [hl0] using e1)]
            have q := hmem b 0 rfl k (by rw [q2]; exact e1)
            rw [Nat.zero_add, cell_mk g3] at q
            exact q
          · rw [if_pos (by omega), List.getElem?_append_right (by simp [hl0]; omega)]
            simp [hl0]
    · obtain ⟨newCap, rest, g1, g2, g3⟩ := run_app_grow (P := P) (ty := ty) hk (holds w.drew (fun _ => rfl)) (hvals w.drew (fun _ => rfl)) (by omega)
      have ha := adds_grow w (.cells (olds ++ vals ++ rest) (ti P t).elem)
      have hnew := heap_alloc_new w.drew (.cells (olds ++ vals ++ rest) (ti P t).elem)
      have hrl' : r < σ.length := by rw [hi.len]; exact hrl
      obtain ⟨i1, i2⟩ := inv_set_buf (w' := w.drew.alloc (.cells (olds ++ vals ++ rest) (ti P t).elem)) (s := some w.heap.size) (σ' := σ.set r (some w.heap.size)) hi hob hlt
        (fun k => by
          rw [List.getElem?_set]
          by_cases e : k = r
          · subst e; simp [hrl']
          · simp [e, Ne.symm e]) (by simp) ha.os ha.tape ha.output ha.size (fun b hb _ => ha.block b hb) (fun b o v' _ hc => by rw [cell_of_heap (ha.block b (lt_of_cell hc))]; exact hc)
        (fun b c e fz hb => ⟨c, by
          have hltb : b < w.heap.size := by
            apply Decidable.byContradiction
            intro hn
            rw [Array.getElem?_eq_none (by omega)] at hb
            cases hb
          rw [ha.block b hltb]; exact hb, rfl⟩)
        (fun k b _ hk1 _ => ha.block b (hi.lt k b hk1)) (fun b hb => by cases hb; exact ⟨by simp, .inr (Nat.le_refl _)⟩)
      refine ⟨_, _, _, g3, i1, i2, ?_⟩
      have hm := i2.monoW
      have hrep : RepL (w.drew.alloc (.cells (olds ++ vals ++ rest) (ti P t).elem)) (own (σ.set r (some w.heap.size)) (h.set r (.buf ((es.length + news.length) * (ti P (ti P t).elem).sz)))) [] [] (flat (es ++ news)) (olds ++ vals).toList := by
        rw [flat_append, Array.toList_append]
        exact RepL.append ⟨hro.1, fun k h1 h2 => (hro.2 k h1 h2).pureW hm⟩ ⟨hrv.1, fun k h1 h2 => (hrv.2 k h1 h2).pureW hm⟩
      rw [show Value.slice (some ⟨w.heap.size, 0, none⟩) (es.length + news.length) newCap = Value.slice (some ⟨w.heap.size, 0, none⟩) (es ++ news).length newCap by simp]
      have hσr : (σ.set r (some w.heap.size))[r]? = some (some w.heap.size) := by rw [List.getElem?_set]; simp [hrl']
      refine rep_slice_mk (c := olds ++ vals ++ rest) (e := (ti P t).elem) (fz := (0, 0)) hnew (by simpa using hk.k6) (by simpa using g1) trivial (fun r' sz' e' => ?_) (fun k hk' => ?_) hrep (fun k hk' => ?_)
      · cases e'
        refine ⟨by simpa using hrl, by rw [hfl]; simp, fun n hn => ?_⟩
        rw [heq] at hn
        cases hn
        refine ⟨by omega, fun _ => .inr ⟨w.heap.size, _, _, _, rfl, hσr, hnew, ?_, fun i _ => thawed0 i⟩⟩
        simp only [Array.size_append, hl0, hl1, g2]
        rw [← Nat.add_mul, ← Nat.add_mul]
        exact Nat.mul_le_mul_right _ (by omega)
      · rintro ⟨k', k1, k2⟩
        by_cases e1 : k' = r
        · rw [e1, heq] at k2
          rcases k2 with ⟨_, e⟩ | ⟨j, e, hj⟩
          · cases e
          · cases e; omega
        · rw [List.getElem?_set, if_neg (Ne.symm e1)] at k1
          have := hi.lt k' _ k1
          omega
      · simp only [Array.length_toList, Array.size_append] at hk'
        rw [Array.getElem?_append_left (by simp; omega), ← Array.getElem?_toList]
end
end Go.Av

/- Variables, stores, slice literals, as operations. -/
namespace Go.Av
set_option linter.unusedSectionVars false
variable [Start]

section
variable {P : Program} {w : World} {σ : Sg} {h : Hp}

theorem alloc_sound (hi : Inv w σ h) {t : TypeId} (hz : (ti P t).zero.isEmpty = false) :
    ∃ v w' s, (Instr.alloc t true (.tuple #[])).run P w = .ok v w' ∧ Inv w' (σ ++ [s]) (h ++ [.row (ti P t).zero]) ∧ Step w σ h w' (σ ++ [s]) (h ++ [.row (ti P t).zero]) ∧
      Rep w' (own (σ ++ [s]) (h ++ [.row (ti P t).zero])) (σ ++ [s]) (h ++ [.row (ti P t).zero]) (.ptr h.length 0) v := by
  have hh : (ti P t).has = true := by
    unfold ti at *
    split
    · rfl
    · rename_i hn; split at hz
      · rename_i i d h1 h2; exact absurd h2 (hn i d h1)
      · simp at hz
  obtain ⟨i, d, e1, e2, e3⟩ := ti_has hh
  rw [e3] at hz ⊢
  simp only at hz ⊢
  cases hzz : i.zero with
  | none => simp [zeroOf, hzz] at hz
  | some z =>
    obtain ⟨g1, g2⟩ := alloc_row hi (cells := z.cells) (rest := #[]) (e := t) (rep_zero (w := w) (ow := own σ h) (σ := σ) (h := h) hzz)
    simp only [Array.append_empty] at g1 g2
    refine ⟨.pointer (some ⟨w.heap.size, 0, none⟩), _, _, by simp [Instr.alloc, zeroValue, typeInfo, e1, hzz, newVar, newRow], g1, g2, ?_⟩
    exact .ptr h.length 0 w.heap.size (by simp) (fun n hn => by rw [List.getElem?_append_right (Nat.le_refl _)] at hn; simp at hn) (by rw [List.getElem?_append_right (by rw [hi.len]; omega), hi.len]; simp)

theorem box_sound (hi : Inv w σ h) {t : TypeId} {d : D} {v : Value} (hd : Rep w (own σ h) σ h d v) (hs : solid d) :
    ∃ u w' s, (Instr.box t v).run P w = .ok u w' ∧ Inv w' (σ ++ [s]) (h ++ [.row d.cells]) ∧ Step w σ h w' (σ ++ [s]) (h ++ [.row d.cells]) ∧
      Rep w' (own (σ ++ [s]) (h ++ [.row d.cells])) (σ ++ [s]) (h ++ [.row d.cells]) (.ptr h.length 0) u := by
  obtain ⟨g1, g2⟩ := alloc_row hi (cells := v.cells) (rest := #[]) (e := t) (rep_cells hd hs)
  simp only [Array.append_empty] at g1 g2
  refine ⟨.pointer (some ⟨w.heap.size, 0, none⟩), _, _, by simp [Instr.box, newVar, newRow], g1, g2, ?_⟩
  exact .ptr h.length 0 w.heap.size (by simp) (fun n hn => by rw [List.getElem?_append_right (Nat.le_refl _)] at hn; simp at hn) (by rw [List.getElem?_append_right (by rw [hi.len]; omega), hi.len]; simp)

def ptrOf : D → Nat × Nat
  | .ptr r off => (r, off)
  | _ => (0, 0)
def isRef : D → Prop
  | .ptr _ _ => True
  | _ => False

def storeOk (P : Program) (t : TypeId) (h : Hp) (a x : D) : Prop :=
  isRef a ∧ solid x ∧ (ti P t).has = true ∧ x.cells.length = (ti P t).sz ∧ 0 < (ti P t).sz ∧ isRow (ob h (ptrOf a).1) ∧ (ptrOf a).2 + x.cells.length ≤ (rowOf (ob h (ptrOf a).1)).length ∧ ∀ d, d ∈ x.cells → cell1 d
def storeH (h : Hp) (a x : D) : Hp := h.set (ptrOf a).1 (.row (splice (rowOf (ob h (ptrOf a).1)) (ptrOf a).2 x.cells))

theorem store_sound (hi : Inv w σ h) {t : TypeId} {a x : D} {va vx : Value} (ha : Rep w (own σ h) σ h a va) (hx : Rep w (own σ h) σ h x vx) (hok : storeOk P t h a x) :
    ∃ w', (Instr.storeAt t va vx).run P w = .ok () w' ∧ Inv w' σ (storeH h a x) ∧ Step w σ h w' σ (storeH h a x) := by
  obtain ⟨h1, h2, h3, h4, h5, h6, h7, h8⟩ := hok
  cases ha with
  | ptr r off b hr hb hs =>
    simp only [ptrOf] at *
    have hcell := rep_cells hx h2
    obtain ⟨g1, g2, g3⟩ := store_row (P := P) hi (ob_row h6) h7 (by omega) hcell h8 hs
    refine ⟨_, ?_, g2, g3⟩
    have hsz : vx.cells.size = (ti P t).sz := by have := hcell.1; simp only [Array.length_toList] at this; omega
    simp [Instr.storeAt, Instr.sureAddr, storeVar, run_size w h3, hsz, g1]
  | _ => exact absurd h1 (by simp [isRef])

/-! ### Slice literals -/

omit [Start] in
theorem fill_all {sz : Nat} : ∀ (vs : List (Nat × Value)) (i : Nat) (cells : Array Value) (pre : List Value), (∀ (k : Nat) (hk : k < vs.length), (vs[k]).1 = i + k ∧ (vs[k]).2.cells.size = sz) →
    pre.length = i * sz → cells.toList.take (i * sz) = pre → cells.size = i * sz + vs.length * sz → ∃ cells', Instr.fill (fun j => some (j * sz, sz)) cells vs = some cells' ∧ cells'.toList = pre ++ vs.flatMap fun p => p.2.cells.toList
  | [], i, cells, pre, _, hp, ht, hs => ⟨cells, rfl, by
      simp only [List.flatMap_nil, List.append_nil, List.length_nil, Nat.zero_mul, Nat.add_zero] at *
      rw [← ht, List.take_of_length_le (by simp; omega)]⟩
  | (j, v) :: vs, i, cells, pre, hv, hp, ht, hs => by
    obtain ⟨e1, e2⟩ := hv 0 (by simp)
    simp only [List.getElem_cons_zero, Nat.add_zero] at e1 e2
    subst e1
    simp only [List.length_cons, Nat.succ_mul] at hs
    have hfo : (v.cells.zipIdx.foldl (fun cs (c, k) => cs.setIfInBounds (j * sz + k) c) cells) = (cells.toList.take (j * sz) ++ v.cells.toList ++ cells.toList.drop (j * sz + v.cells.toList.length)).toArray := by
      have := foldl_fill v.cells.toList (j * sz) 0 cells (by simp; omega)
      simp only [Nat.add_zero] at this
      rw [← this, ← Array.foldl_toList]
      simp
    have hlen : (cells.toList.take (j * sz) ++ v.cells.toList ++ cells.toList.drop (j * sz + v.cells.toList.length)).length = (j + 1) * sz + vs.length * sz := by
      simp only [List.length_append, List.length_take, List.length_drop, Array.length_toList, Nat.succ_mul]
      omega
    obtain ⟨cells', f1, f2⟩ := fill_all vs (j + 1) (cells.toList.take (j * sz) ++ v.cells.toList ++ cells.toList.drop (j * sz + v.cells.toList.length)).toArray (pre ++ v.cells.toList)
      (fun k hk => by
        obtain ⟨a1, a2⟩ := hv (k + 1) (by simpa using hk)
        simp only [List.getElem_cons_succ] at a1 a2
        exact ⟨by omega, a2⟩)
      (by simp only [List.length_append, Array.length_toList, Nat.succ_mul]; omega)
      (by
        rw [ht, List.take_append_of_le_length (by simp only [List.length_append, Array.length_toList, Nat.succ_mul]; omega), List.take_of_length_le (by simp only [List.length_append, Array.length_toList, Nat.succ_mul]; omega)])
      (by simpa using hlen)
    refine ⟨cells', ?_, by rw [f2]; simp⟩
    simp only [Instr.fill]
    rw [if_neg (by simp; omega), hfo]
    exact f1

def bsOk (P : Program) (t : TypeId) (n : Nat) (idx : List Nat) (es : List D) : Prop :=
  isSliceK (ti P t).kind ∧ (ti P (ti P t).elem).has = true ∧ 0 < (ti P (ti P t).elem).sz ∧ (ti P (ti P t).elem).zero.length = (ti P (ti P t).elem).sz ∧ idx = List.range n ∧ n * (ti P (ti P t).elem).sz ≤ 16777216 ∧
    AllSz (ti P (ti P t).elem).sz es ∧ (∀ e, e ∈ es → solid e) ∧ n ≤ lenMax

omit [Start] in
theorem run_bs {t : TypeId} {n : Nat} {vs : Array (Nat × Value)} {es : List D} {ow : Nat → Nat → Prop} (hok : bsOk P t n (vs.toList.map (·.1)) es) (hl : vs.toList.length = es.length) (hr : ∀ (k : Nat) (h1 : k < es.length) (h2 : k < vs.toList.length), Rep w ow σ h (es[k]) (vs.toList[k]).2) :
    ∃ cells : Array Value, (Instr.buildSlice t n vs).run P w = .ok (.slice (some ⟨w.heap.size, 0, none⟩) n n) (w.alloc (.cells cells (ti P t).elem)) ∧ RepL w ow σ h (flat es) cells.toList ∧ es.length = n := by
  obtain ⟨h1, h2, h3, h4, h5, h6, h7, h8, h9⟩ := hok
  have ht := ti_slice (slice_of h1)
  obtain ⟨i, z, e1, e2, e3, e4, e5⟩ := zero_of h2 h3 h4
  have hn : es.length = n := by
    have := congrArg List.length h5
    simp only [List.length_map, List.length_range] at this
    omega
  have hsz : ∀ (k : Nat) (hk : k < vs.toList.length), (vs.toList[k]).1 = 0 + k ∧ (vs.toList[k]).2.cells.size = (ti P (ti P t).elem).sz := by
    intro k hk
    refine ⟨?_, ?_⟩
    · have : (vs.toList.map (·.1))[k]? = some k := by rw [h5, List.getElem?_range (by omega)]
      rw [List.getElem?_map, List.getElem?_eq_getElem hk] at this
      simp at this
      simpa using this
    · have hk' : k < es.length := by omega
      have := (rep_cells (hr k hk' hk) (h8 _ (List.getElem_mem _))).1
      rw [h7 _ (List.getElem_mem _)] at this
      simpa using this
  have hzz : ∃ zero : Array Value, (n * (ti P (ti P t).elem).sz = 0 ∧ zero = #[]) ∨ (n * (ti P (ti P t).elem).sz ≠ 0 ∧ zero = z.cells) := by
    by_cases hz : n * (ti P (ti P t).elem).sz = 0
    · exact ⟨#[], .inl ⟨hz, rfl⟩⟩
    · exact ⟨z.cells, .inr ⟨hz, rfl⟩⟩
  obtain ⟨zero, hzz⟩ := hzz
  obtain ⟨cells', f1, f2⟩ := fill_all (sz := (ti P (ti P t).elem).sz) vs.toList 0 ((Array.range (n * (ti P (ti P t).elem).sz)).map (zero[· % zero.size]!)) [] hsz (by simp) (by simp) (by simp; rw [← hn, ← hl]; simp)
  refine ⟨cells', ?_, ?_, hn⟩
  · have hlt : ¬ (n * (ti P (ti P t).elem).sz > 2 ^ 24) := by omega
    have hzv : (zeroValue (ti P t).elem).run P w = .ok z w := by simp [zeroValue, typeInfo, e1, e4]
    rcases hzz with ⟨q1, q2⟩ | ⟨q1, q2⟩
    · simp only [Instr.buildSlice, Sem.run_bind, run_underlying ht, Result.andThen_ok, run_size w h2, hlt, if_false]
      rw [q2, q1] at f1
      simp only [q1, if_true, Sem.run_bind, Result.andThen_ok, Sem.run_pure, f1, newRow, Sem.run_bind, run_newObj, Result.andThen_ok, Sem.run_pure]
      rfl
    · simp only [Instr.buildSlice, Sem.run_bind, run_underlying ht, Result.andThen_ok, run_size w h2, hlt, if_false, q1, Sem.run_pure, hzv]
      rw [q2] at f1
      simp only [f1, newRow, Sem.run_bind, run_newObj, Result.andThen_ok, Sem.run_pure]
      rfl
  · rw [f2]
    simp only [List.nil_append]
    clear f1 f2 hzz h5 h6 h9 hsz hn
    generalize vs.toList = l at *
    revert l
    induction es with
    | nil => intro l hl _; cases l with | nil => exact RepL.nil | cons x l => simp at hl
    | cons e es ih =>
      intro l hl hr
      cases l with
      | nil => simp at hl
      | cons x l =>
        rw [flat_cons, List.flatMap_cons]
        refine RepL.append (rep_cells (hr 0 (by simp) (by simp)) (h8 e (by simp))) (ih (fun x hx => h7 x (by simp [hx])) (fun x hx => h8 x (by simp [hx])) l (by simpa using hl) (fun k k1 k2 => hr (k + 1) (by simpa using k1) (by simpa using k2)))

theorem bs_pure (hi : Inv w σ h) {t : TypeId} {n : Nat} {vs : Array (Nat × Value)} {es : List D} (hok : bsOk P t n (vs.toList.map (·.1)) es) (hl : vs.toList.length = es.length) (hr : ∀ (k : Nat) (h1 : k < es.length) (h2 : k < vs.toList.length), Rep w (own σ h) σ h (es[k]) (vs.toList[k]).2)
    (hp : ∀ e, e ∈ es → Cl 0 e) : ∃ v w', (Instr.buildSlice t n vs).run P w = .ok v w' ∧ Inv w' σ h ∧ Step w σ h w' σ h ∧ Rep w' (own σ h) σ h (.slice es .full) v := by
  have hpure : ∀ (k : Nat) (h1 : k < es.length) (h2 : k < vs.toList.length), Rep w (own σ h) [] [] (es[k]) (vs.toList[k]).2 := fun k h1 h2 =>
    (hr k h1 h2).move (n := 0) (fun _ _ q => q) (hp _ (List.getElem_mem _)) (Nat.zero_le _) (fun r hr => absurd hr (by omega))
  obtain ⟨cells, g1, g2, g3⟩ := run_bs (P := P) hok hl hpure
  obtain ⟨i1, i2⟩ := inv_same hi ((Adds.refl w).alloc (.cells cells (ti P t).elem))
  refine ⟨_, _, g1, i1, i2, ?_⟩
  have hm := i2.monoW
  rw [show Value.slice (some ⟨w.heap.size, 0, none⟩) n n = Value.slice (some ⟨w.heap.size, 0, none⟩) es.length n by rw [g3]]
  exact rep_slice_mk (heap_alloc_new w _) (by have := hok.2.2.2.2.2.2.2.2; omega) (by omega) (show n = es.length by omega) (fun r sz e => nomatch e) (fun k _ ho => by have := inv_lt hi ho; omega)
    ⟨g2.1, fun k h1 h2 => (g2.2 k h1 h2).pureW hm⟩ (fun k hk => by simp)

theorem bs_row (hi : Inv w σ h) {t : TypeId} {n : Nat} {vs : Array (Nat × Value)} {es : List D} (hok : bsOk P t n (vs.toList.map (·.1)) es) (hl : vs.toList.length = es.length) (hr : ∀ (k : Nat) (h1 : k < es.length) (h2 : k < vs.toList.length), Rep w (own σ h) σ h (es[k]) (vs.toList[k]).2) (ag : Bool) :
    ∃ v w' s, (Instr.buildSlice t n vs).run P w = .ok v w' ∧ Inv w' (σ ++ [s]) (h ++ [.row (flat es)]) ∧ Step w σ h w' (σ ++ [s]) (h ++ [.row (flat es)]) ∧
      Rep w' (own (σ ++ [s]) (h ++ [.row (flat es)])) (σ ++ [s]) (h ++ [.row (flat es)]) (.vec h.length ag (ti P (ti P t).elem).sz 0 n n) v := by
  obtain ⟨cells, g1, g2, g3⟩ := run_bs (P := P) hok hl hr
  obtain ⟨i1, i2⟩ := alloc_row hi (cells := cells) (rest := #[]) (e := (ti P t).elem) g2
  simp only [Array.append_empty] at i1 i2
  refine ⟨_, _, _, g1, i1, i2, ?_⟩
  have hcs : cells.size = n * (ti P (ti P t).elem).sz := by
    have := g2.1
    rw [flat_length hok.2.2.2.2.2.2.1, g3] at this
    simpa using this
  exact .vec h.length ag _ 0 n n _ n hok.2.2.2.2.2.2.2.2 ⟨Nat.le_refl _, Nat.le_refl _⟩ (by simp) (fun k hk => by rw [List.getElem?_append_right (Nat.le_refl _)] at hk; simp at hk)
    (.inr ⟨w.heap.size, cells, _, (0, 0), by simp, by rw [List.getElem?_append_right (by rw [hi.len]; omega), hi.len]; simp, heap_alloc_new w _, by rw [hcs]; simp⟩)

/-! ### make -/

def mkOk (P : Program) (t : TypeId) (n c : D) : Prop :=
  isSliceK (ti P t).kind ∧ (ti P (ti P t).elem).has = true ∧ 0 < (ti P (ti P t).elem).sz ∧ (ti P (ti P t).elem).zero.length = (ti P (ti P t).elem).sz ∧ isInt n ∧ isInt c ∧ iof c = iof n ∧ 0 ≤ iof n ∧ iof n ≤ lenMax ∧
    (iof n).toNat * (ti P (ti P t).elem).bs ≤ 140737488355328
def zeros (z : List D) (n : Nat) : List D := (List.replicate n z).flatten

omit [Start] in
theorem map_zeros (z : Array Value) (hz : 0 < z.size) : ∀ n, ((Array.range (n * z.size)).map fun i => z[i % z.size]!).toList = (List.replicate n z.toList).flatten := by
  intro n
  apply List.ext_getElem?
  intro k
  simp only [Array.toList_map, Array.toList_range, List.getElem?_map]
  have hfl : ∀ (n k : Nat), ((List.replicate n z.toList).flatten)[k]? = if k < n * z.size then z.toList[k % z.size]? else none := by
    intro n
    induction n with
    | zero => intro k; simp
    | succ n ih =>
      intro k
      rw [List.replicate_succ, List.flatten_cons, List.getElem?_append, Array.length_toList]
      by_cases hk : k < z.size
      · rw [if_pos hk, if_pos (by rw [Nat.succ_mul]; omega), Nat.mod_eq_of_lt hk]
      · rw [if_neg hk, ih, Nat.succ_mul]
        by_cases hk2 : k - z.size < n * z.size
        · rw [if_pos hk2, if_pos (by omega)]
          congr 1
          rw [Nat.mod_eq_sub_mod (a := k) (b := z.size) (by omega)]
        · rw [if_neg hk2, if_neg (by omega)]
  rw [hfl]
  by_cases hk : k < n * z.size
  · rw [if_pos hk, List.getElem?_range hk]
    have hm := Nat.mod_lt k hz
    simp [hm]
  · rw [if_neg hk, List.getElem?_eq_none (by simp; omega)]
    rfl

omit [Start] in
theorem repL_zeros {ow : Nat → Nat → Prop} {z : List D} {v : List Value} (hz : RepL w ow σ h z v) : ∀ n, RepL w ow σ h (zeros z n) ((List.replicate n v).flatten)
  | 0 => RepL.nil
  | n + 1 => by
    simp only [zeros, List.replicate_succ, List.flatten_cons]
    exact hz.append (repL_zeros hz n)

theorem make_sound (hi : Inv w σ h) {t : TypeId} {n c : D} {vn vcap : Value} (hn : Rep w (own σ h) σ h n vn) (hc : Rep w (own σ h) σ h c vcap) (hok : mkOk P t n c) (ag : Bool) :
    ∃ v w' s, (Instr.makeSlice t vn vcap).run P w = .ok v w' ∧ Inv w' (σ ++ [s]) (h ++ [.row (zeros (ti P (ti P t).elem).zero (iof n).toNat)]) ∧ Step w σ h w' (σ ++ [s]) (h ++ [.row (zeros (ti P (ti P t).elem).zero (iof n).toNat)]) ∧
      Rep w' (own (σ ++ [s]) (h ++ [.row (zeros (ti P (ti P t).elem).zero (iof n).toNat)])) (σ ++ [s]) (h ++ [.row (zeros (ti P (ti P t).elem).zero (iof n).toNat)]) (.vec h.length ag (ti P (ti P t).elem).sz 0 (iof n).toNat (iof n).toNat) v := by
  obtain ⟨h1, h2, h3, h4, h5, h6, h7, h8, h9, h10⟩ := hok
  have ht := ti_slice (slice_of h1)
  obtain ⟨i, z, e1, e2, e3, e4, e5⟩ := zero_of h2 h3 h4
  obtain ⟨i', d', k1, k2, k3⟩ := ti_has h2
  have hii : i' = i := by rw [e1] at k1; exact (Option.some.inj k1).symm
  subst hii
  have hzr : RepL w (own σ h) σ h (ti P (ti P t).elem).zero z.cells.toList := by rw [k3]; exact rep_zero e4
  cases hn with
  | int kn m =>
    cases hc with
    | int kc m' =>
      simp only [iof] at *
      subst h7
      obtain ⟨m, rfl⟩ := Int.eq_ofNat_of_zero_le h8
      simp only [Int.toNat_natCast] at *
      have hm : m ≤ 1073741824 := by simp only [lenMax] at h9; omega
      have hw : IntKind.i64.wrap (m : Int) = m := by rw [IntKind.wrap_i64]; omega
      have hb : ¬ ((i'.bytes : Int) * (m : Int) > 281474976710656) := by
        have : i'.bytes * m ≤ 140737488355328 := by rw [e3, Nat.mul_comm]; exact h10
        have h2 : ((i'.bytes * m : Nat) : Int) ≤ 140737488355328 := by omega
        rw [Int.natCast_mul] at h2
        omega
      obtain ⟨g1, g2⟩ := alloc_row hi (cells := (((Array.range (m * (ti P (ti P t).elem).sz)).map fun i => z.cells[i % z.cells.size]!))) (rest := #[]) (e := (ti P t).elem) (cs := zeros (ti P (ti P t).elem).zero m) (by
        have := map_zeros z.cells (by omega) m
        rw [e5] at this
        rw [e5, this]
        exact repL_zeros hzr m)
      simp only [Array.append_empty] at g1 g2
      refine ⟨.slice (some ⟨w.heap.size, 0, none⟩) m m, _, _, ?_, g1, g2, ?_⟩
      · have hrun := run_make (P := P) w t _ i' z ht e1 e4 kn kc (m : Int) (m : Int) (by omega) (Int.le_refl _) (by omega) (by omega)
        rw [Int.toNat_natCast, e2] at hrun
        exact hrun
      · refine .vec h.length ag _ 0 m m _ m (by simp only [lenMax]; omega) ⟨Nat.le_refl _, Nat.le_refl _⟩ (by simp) (fun k hk => by rw [List.getElem?_append_right (Nat.le_refl _)] at hk; simp at hk)
          (.inr ⟨w.heap.size, _, _, (0, 0), by simp, by rw [List.getElem?_append_right (by rw [hi.len]; omega), hi.len]; simp, heap_alloc_new w _, by simp⟩)
    | _ => exact absurd h6 (by simp [isInt])
  | _ => exact absurd h5 (by simp [isInt])
end
end Go.Av

/- Rows seen as slices; calls over a frozen heap; append, copy and clear on rows. -/
namespace Go.Av
set_option linter.unusedSectionVars false
variable [Start]

/-- The elements of a row. -/
def chunk (ag : Bool) (sz : Nat) : Nat → List D → List D
  | 0, _ => []
  | n + 1, cs => (if ag then .agg (cs.take sz) else cs.headD .junk) :: chunk ag sz n (cs.drop sz)

def rowPart (h : Hp) (r sz off len : Nat) : List D := ((rowOf (ob h r)).drop (off * sz)).take (len * sz)

/-- d, its rows (from object n on) seen as slices that are no more written -/
inductive Frz (n : Nat) (h : Hp) : D → D → Prop where
  | refl (d : D) : Frz n h d d
  | vec (r : Nat) (ag : Bool) (sz off len cp : Nat) (h1 : n ≤ r) (h2 : isRow (ob h r)) (h3 : (off + len) * sz ≤ (rowOf (ob h r)).length) (h4 : ∀ d, d ∈ rowPart h r sz off len → Cl 0 d) (h5 : 0 < sz) (h6 : ag = false → sz = 1 ∧ ∀ d, d ∈ rowPart h r sz off len → d.cells = [d]) :
      Frz n h (.vec r ag sz off len cp) (.slice (chunk ag sz len (rowPart h r sz off len)) .no)
  | agg (cs cs' : List D) (hl : cs'.length = cs.length) (hh : ∀ k (h1 : k < cs.length) (h2 : k < cs'.length), Frz n h (cs[k]) (cs'[k])) : Frz n h (.agg cs) (.agg cs')
  | tup (cs cs' : List D) (hl : cs'.length = cs.length) (hh : ∀ k (h1 : k < cs.length) (h2 : k < cs'.length), Frz n h (cs[k]) (cs'[k])) : Frz n h (.tup cs) (.tup cs')

omit [Start] in
theorem flat_chunk {ag : Bool} {sz : Nat} (h5 : 0 < sz) : ∀ (n : Nat) (cs : List D), cs.length = n * sz → (ag = false → sz = 1 ∧ ∀ d, d ∈ cs → d.cells = [d]) → flat (chunk ag sz n cs) = cs ∧ AllSz sz (chunk ag sz n cs) ∧ (chunk ag sz n cs).length = n
  | 0, cs, hl, _ => by
    have : cs = [] := List.eq_nil_of_length_eq_zero (by simpa using hl)
    subst this
    exact ⟨rfl, fun e he => by simp [chunk] at he, rfl⟩
  | n + 1, cs, hl, hc => by
    rw [Nat.succ_mul] at hl
    obtain ⟨i1, i2, i3⟩ := flat_chunk h5 n (cs.drop sz) (by simp; omega) (fun e => ⟨(hc e).1, fun d hd => (hc e).2 d (List.mem_of_mem_drop hd)⟩)
    simp only [chunk]
    have hhead : (if ag then D.agg (cs.take sz) else cs.headD .junk).cells = cs.take sz := by
      cases ag with
      | true => rfl
      | false =>
        obtain ⟨rfl, hcc⟩ := hc rfl
        cases cs with
        | nil => simp at hl
        | cons c cs => simpa using hcc c (by simp)
    refine ⟨by rw [flat_cons, hhead, i1, List.take_append_drop], ?_, by simp [i3]⟩
    intro e he
    rcases List.mem_cons.1 he with rfl | he
    · rw [hhead]; simp; omega
    · exact i2 e he

theorem Frz.rep {w : World} {σ : Sg} {h : Hp} (hi : Inv w σ h) {n : Nat} {ow' : Nat → Nat → Prop} (how : ∀ b o, ow' b o → own σ h b o) (hno : ∀ (r b : Nat) cs, n ≤ r → h[r]? = some (.row cs) → σ[r]? = some (some b) → ∀ o, ¬ ow' b o) {d d' : D} (F : Frz n h d d') :
    ∀ {v : Value}, Rep w (own σ h) σ h d v → Rep w ow' σ h d' v := by
  have hm : MonoW w (own σ h) w ow' := ⟨fun _ _ _ _ hc => hc, fun b o _ ho ho' => ho (how b o ho'), fun _ c _ _ hb => ⟨c, hb, rfl⟩⟩
  induction F with
  | refl d => exact fun H => H.mono hm (.refl σ h)
  | vec r ag sz off len cp h1 h2 h3 h4 h5 h6 =>
    intro v H
    have hrow := ob_row h2
    cases H with
    | vec _ _ _ _ _ _ a cap hlen hcap hr hb hv =>
      have hpl : (rowPart h r sz off len).length = len * sz := by
        simp only [rowPart, List.length_take, List.length_drop]
        rw [Nat.add_mul] at h3
        omega
      obtain ⟨f1, f2, f3⟩ := flat_chunk (ag := ag) h5 len (rowPart h r sz off len) hpl h6
      have hfin : Rep w ow' σ h (.slice (chunk ag sz len (rowPart h r sz off len)) .no) (.slice a (chunk ag sz len (rowPart h r sz off len)).length cap) := by
        by_cases h0 : len = 0
        · subst h0
          refine .slice _ _ a cap (fun _ => undef) (by simp [chunk]) (by simp [chunk]) trivial (fun _ _ e => nomatch e) (fun k hk => ?_) (fun k hk => ?_) <;> (rw [f1] at hk; simp at hpl; simp [hpl] at hk)
        · rcases hv with hv | ⟨b, c, e, fz, rfl, q2, q3, q4⟩
          · omega
          · rcases (hi.live r _ hrow).cells with ⟨q, _⟩ | ⟨b', c', e', fz', g1, g2, g3, g4, g5⟩
            · rw [q] at h3
              simp only [List.length_nil] at h3
              have : 0 < (off + len) * sz := Nat.mul_pos (by omega) h5
              omega
            · obtain rfl : b' = b := by rw [q2] at g1; simpa using g1.symm
              have key : ∀ k, ∃ v, k < len * sz → c'[off * sz + k]? = some v ∧ ∀ (hk : k < (rowPart h r sz off len).length), Rep w ow' [] [] ((rowPart h r sz off len)[k]) v := by
                intro k
                by_cases hk : k < len * sz
                · obtain ⟨v, v1, v2⟩ := g5 (off * sz + k) (by rw [Nat.add_mul] at h3; omega)
                  refine ⟨v, fun _ => ⟨v1, fun hk' => ?_⟩⟩
                  have he : (rowPart h r sz off len)[k] = (rowOf (ob h r))[off * sz + k]'(by rw [Nat.add_mul] at h3; omega) := by
                    simp [rowPart]
                  have hcl := h4 _ (List.getElem_mem hk')
                  rw [he] at hcl ⊢
                  exact v2.move (n := 0) how hcl (Nat.zero_le _) (fun r hr => absurd hr (by omega))
                · exact ⟨undef, fun h => absurd h hk⟩
              refine .slice _ _ _ cap (fun k => (key k).choose) (by rw [f3]; omega) (by rw [f3]; omega) trivial (fun _ _ e => nomatch e) (fun k hk => ?_) (fun k hk => ?_)
              · rw [f1, hpl] at hk
                exact ⟨b', off * sz, rfl, hno r b' _ h1 hrow g1 _, by rw [cell_mk g2]; exact ((key k).choose_spec hk).1⟩
              · have hk' := hk
                rw [f1, hpl] at hk'
                have := ((key k).choose_spec hk').2 (by rw [hpl]; exact hk')
                simp only [f1]
                exact this
      rw [f3] at hfin
      exact hfin
  | agg cs cs' hl _ ih =>
    intro v H
    cases H with
    | agg _ vs hl' hr => exact .agg cs' vs (by omega) (fun k h1 h2 => ih k (by omega) h1 (hr k (by omega) h2))
  | tup cs cs' hl _ ih =>
    intro v H
    cases H with
    | tup _ vs hl' hr => exact .tup cs' vs (by omega) (fun k h1 h2 => ih k (by omega) h1 (hr k (by omega) h2))


/-! ### A frozen heap -/

def deadOf (h : Hp) : Hp := List.replicate h.length .dead

omit [Start] in
theorem deadOf_get (h : Hp) (r : Nat) : (deadOf h)[r]? = if r < h.length then some .dead else none := by
  simp only [deadOf, List.getElem?_replicate]

omit [Start] in
theorem own_dead {σ : Sg} {h : Hp} (b o : Nat) : ¬ own σ (deadOf h) b o := by
  rintro ⟨r, _, ⟨cs, e⟩ | ⟨n, e, _⟩⟩ <;> (rw [deadOf_get] at e; split at e <;> cases e)

/-- Data that name no memory but objects from n on. -/
inductive NM (n : Nat) : D → Prop where
  | int (k : IntKind) (i : Int) : NM n (.int k i)
  | bool (b : Bool) : NM n (.bool b)
  | str (s : List UInt8) : NM n (.str s)
  | snil (t : Tok) (ht : ∀ r sz, t ≠ .buf r sz) : NM n (.slice [] t)
  | vec (r : Nat) (ag : Bool) (sz off len cp : Nat) (h : n ≤ r) : NM n (.vec r ag sz off len cp)
  | agg (cs : List D) (h : ∀ c, c ∈ cs → NM n c) : NM n (.agg cs)
  | tup (cs : List D) (h : ∀ c, c ∈ cs → NM n c) : NM n (.tup cs)
  | ptr (r off : Nat) (h : n ≤ r) : NM n (.ptr r off)
  | nilptr : NM n .nilptr
  | nilfn : NM n .nilfn
  | nilif : NM n .nilif
  | junk : NM n .junk

def NMob (n : Nat) : Ob → Prop
  | .row cs => ∀ c, c ∈ cs → NM n c
  | .dead => True
  | .buf _ => False

omit [Start] in
theorem NM.rep {n : Nat} {d : D} (K : NM n d) : ∀ {w : World} {ow ow' : Nat → Nat → Prop} {σ : Sg} {h1 h2 : Hp} {v : Value}, Rep w ow σ h1 d v → h1.length = h2.length → (∀ r : Nat, n ≤ r → h2[r]? = h1[r]?) → Rep w ow' σ h2 d v := by
  induction K with
  | int k i => intro _ _ _ _ _ _ v H _ _; cases H; exact .int _ _
  | bool b => intro _ _ _ _ _ _ v H _ _; cases H; exact .bool _
  | str s => intro _ _ _ _ _ _ v H _ _; cases H with | str _ hl => exact .str _ hl
  | snil t ht =>
    intro _ _ _ _ _ _ v H _ _
    cases H with
    | slice _ _ a cap vs hlen hcap hfull htok hc hr =>
      exact .slice [] t a cap vs hlen hcap hfull (fun r sz e => absurd e (ht r sz)) (fun k hk => by simp [flat] at hk) (fun k hk => by simp [flat] at hk)
  | vec r ag sz off len cp h =>
    intro _ _ _ _ _ _ v H hl hs
    cases H with
    | vec _ _ _ _ _ _ a cap hlen hcap hr hb hv => exact .vec r ag sz off len cp a cap hlen hcap (by omega) (fun k => by rw [hs r h]; exact hb k) hv
  | agg cs h ih =>
    intro _ _ _ _ _ _ v H hl hs
    cases H with
    | agg _ vs hvl hr => exact .agg cs vs hvl (fun k k1 k2 => ih _ (List.getElem_mem k1) (hr k k1 k2) hl hs)
  | tup cs h ih =>
    intro _ _ _ _ _ _ v H hl hs
    cases H with
    | tup _ vs hvl hr => exact .tup cs vs hvl (fun k k1 k2 => ih _ (List.getElem_mem k1) (hr k k1 k2) hl hs)
  | ptr r off h =>
    intro _ _ _ _ _ _ v H hl hs
    cases H with
    | ptr _ _ b hr hb hs' => exact .ptr r off b (by omega) (fun k => by rw [hs r h]; exact hb k) hs'
  | nilptr => intro _ _ _ _ _ _ v H _ _; cases H; exact .nilptr
  | nilfn => intro _ _ _ _ _ _ v H _ _; cases H; exact .nilfn
  | nilif => intro _ _ _ _ _ _ v H _ _; cases H; exact .nilif
  | junk => exact fun _ _ _ => .junk _

theorem Inv.frozen {w : World} {σ : Sg} {h : Hp} (hi : Inv w σ h) : Inv w σ (deadOf h) := by
  refine ⟨hi.kept.sub fun b o ho => absurd ho (own_dead b o), by simp [deadOf, hi.len], hi.lt, fun r cs e => ?_, fun r r' b h1 h2 h3 h4 => ?_⟩
  · rw [deadOf_get] at e; split at e <;> cases e
  · exfalso
    have : r < σ.length := by
      apply Decidable.byContradiction
      intro hn
      rw [List.getElem?_eq_none (by omega)] at h1; cases h1
    rw [deadOf_get, if_pos (by have := hi.len; omega)] at h3
    exact h3 rfl

/-- What a frozen call leaves is what the heap was, and new rows. -/
theorem thaw {w w' : World} {σ σ' : Sg} {h rows : Hp} (hi : Inv w σ h) (hi' : Inv w' σ' (deadOf h ++ rows)) (hst : Step w σ (deadOf h) w' σ' (deadOf h ++ rows)) (hnm : ∀ x, x ∈ rows → NMob h.length x) :
    Inv w' σ' (h ++ rows) ∧ Step w σ h w' σ' (h ++ rows) := by
  have hdl : (deadOf h).length = h.length := by simp [deadOf]
  have hlo : ∀ r : Nat, r < h.length → (h ++ rows)[r]? = h[r]? := fun r hr => List.getElem?_append_left hr
  have hhi : ∀ r : Nat, h.length ≤ r → (h ++ rows)[r]? = (deadOf h ++ rows)[r]? := fun r hr => by rw [List.getElem?_append_right hr, List.getElem?_append_right (by omega), hdl]
  have hσ : ∀ r : Nat, r < h.length → σ'[r]? = σ[r]? := fun r hr => (hst.mono.sig r (by omega) (fun n e => by rw [deadOf_get, if_pos hr] at e; cases e)).1
  have hblock : ∀ b : Nat, b < w.heap.size → w'.heap[b]? = w.heap[b]? := fun b hb => hst.block b hb (own_dead b)
  have hnew : ∀ (r b o : Nat), h.length ≤ r → σ'[r]? = some (some b) → ((∃ cs, (h ++ rows)[r]? = some (Ob.row cs)) ∨ ∃ n, (h ++ rows)[r]? = some (Ob.buf n) ∧ n ≤ o) → w.heap.size ≤ b := by
    intro r b o hr h1 h2
    rw [hhi r hr] at h2
    rcases hst.owns b o ⟨r, h1, h2⟩ with q | q
    · exact absurd q (own_dead b o)
    · exact q
  have hs : Step w σ h w' σ' (h ++ rows) := by
    refine ⟨hst.os, hst.tape, hst.output, hst.size, fun b hb _ => hblock b hb, fun b o v _ hc => by rw [cell_of_heap (hblock b (lt_of_cell hc))]; exact hc, fun b o ho => ?_, fun b c e fz hb => ⟨c, ?_, rfl⟩, ⟨by simp, fun r hr hb => ⟨hσ r hr, fun n => by rw [hlo r hr]; exact hb n⟩, fun r n hr hn => .inl ⟨by rwa [hlo r hr] at hn, hσ r hr⟩⟩⟩
    · obtain ⟨r, h1, h2⟩ := ho
      by_cases hr : r < h.length
      · rw [hlo r hr] at h2
        rw [hσ r hr] at h1
        exact .inl ⟨r, h1, h2⟩
      · exact .inr (hnew r b o (by omega) h1 h2)
    · have hlt : b < w.heap.size := by
        apply Decidable.byContradiction
        intro hn
        rw [Array.getElem?_eq_none (by omega)] at hb
        cases hb
      rw [hblock b hlt]; exact hb
  refine ⟨⟨hi.kept.step hs, by have := hi'.len; simp only [List.length_append] at this ⊢; omega, hi'.lt, fun r cs hr => ?_, fun r r' b h1 h2 h3 h4 => ?_⟩, hs⟩
  · by_cases hrl : r < h.length
    · rw [hlo r hrl] at hr
      exact (hi.live r cs hr).step hs hrl (fun n e => by rw [hr] at e; cases e) (fun b c e fz q1 q2 => by rw [hblock b (hi.lt r b q1)]; exact q2)
    · have hr' := hr
      rw [hhi r (by omega)] at hr
      refine ⟨(hi'.live r cs hr).cells.imp id ?_⟩
      rintro ⟨b, c, e, fz, q1, q2, q3, q4, q5⟩
      refine ⟨b, c, e, fz, q1, q2, q3, q4, fun i hi2 => ?_⟩
      obtain ⟨v, v1, v2⟩ := q5 i hi2
      refine ⟨v, v1, ?_⟩
      have hx : NMob h.length (.row cs) := hnm _ (by rw [List.getElem?_append_right (by omega)] at hr'; exact List.mem_of_getElem? hr')
      exact (hx _ (List.getElem_mem hi2)).rep v2 (by simp [deadOf]) (fun r hr => hhi r hr)
  · have hbig : ∀ (q b : Nat), h.length ≤ q → σ'[q]? = some (some b) → (h ++ rows)[q]? ≠ some .dead → w.heap.size ≤ b := by
      intro q b hq e1 e2
      have hql : q < σ'.length := by
        apply Decidable.byContradiction
        intro hn
        rw [List.getElem?_eq_none (by omega)] at e1; cases e1
      have hq2 : q < (h ++ rows).length := by have := hi'.len; simp only [List.length_append] at this ⊢; omega
      have hm : (h ++ rows)[q]? = some ((h ++ rows)[q]) := List.getElem?_eq_getElem hq2
      cases hx : (h ++ rows)[q] with
      | dead => rw [hm, hx] at e2; exact absurd rfl e2
      | row cs => exact hnew q b 0 hq e1 (.inl ⟨cs, by rw [hm, hx]⟩)
      | buf n =>
        have : NMob h.length (.buf n) := hnm _ (by rw [hx, List.getElem?_append_right hq] at hm; exact List.mem_of_getElem? hm)
        exact absurd this id
    by_cases c1 : r < h.length <;> by_cases c2 : r' < h.length
    · rw [hσ r c1] at h1
      rw [hσ r' c2] at h2
      rw [hlo r c1] at h3
      rw [hlo r' c2] at h4
      exact hi.inj r r' b h1 h2 h3 h4
    · rw [hσ r c1] at h1
      have := hi.lt r b h1
      have := hbig r' b (by omega) h2 h4
      omega
    · rw [hσ r' c2] at h2
      have := hi.lt r' b h2
      have := hbig r b (by omega) h1 h3
      omega
    · exact hi'.inj r r' b h1 h2 (by rwa [hhi r (by omega)] at h3) (by rwa [hhi r' (by omega)] at h4)

/-- The arguments of a frozen call. -/
def FzArgs (h : Hp) (args as : List D) : Prop := as.length = args.length ∧ ∀ k (h1 : k < args.length) (h2 : k < as.length), ∃ d0, Frz 0 h (args[k]) d0 ∧ Wk d0 (as[k]) ∧ Cl 0 (as[k])

theorem FzArgs.rep {w : World} {σ : Sg} {h : Hp} {args as : List D} {vs : List Value} (hi : Inv w σ h) (F : FzArgs h args as) (H : RepL w (own σ h) σ h args vs) : RepL w (own σ (deadOf h)) σ (deadOf h) as vs := by
  refine ⟨by rw [F.1]; exact H.1, fun k h1 h2 => ?_⟩
  obtain ⟨d0, f1, f2, f3⟩ := F.2 k (by have := F.1; omega) h1
  have g := f1.rep hi (ow' := own σ (deadOf h)) (fun b o ho => absurd ho (own_dead b o)) (fun r b cs _ _ _ o => own_dead b o) (H.2 k (by have := F.1; omega) h2)
  exact (g.wk f2).move (n := 0) (fun _ _ q => q) f3 (Nat.zero_le _) (fun r hr => absurd hr (by omega))
end Go.Av

/- append, copy and clear on rows. -/
namespace Go.Av
set_option linter.unusedSectionVars false
variable [Start]

/-- How many elements a slice has, and their cells. -/
def srcN : D → Nat
  | .slice es _ => es.length
  | .vec _ _ _ _ len _ => len
  | _ => 0
def srcC (h : Hp) : D → List D
  | .slice es _ => flat es
  | .vec r _ sz off len _ => rowPart h r sz off len
  | _ => []
def srcOk (h : Hp) (sz : Nat) : D → Prop
  | .slice es _ => AllSz sz es
  | .vec r _ sz' off len _ => sz' = sz ∧ isRow (ob h r) ∧ (off + len) * sz ≤ (rowOf (ob h r)).length
  | _ => False

section
variable {P : Program} {w : World} {σ : Sg} {h : Hp}

omit [Start] in
theorem rowPart_length {r sz off len : Nat} (h3 : (off + len) * sz ≤ (rowOf (ob h r)).length) : (rowPart h r sz off len).length = len * sz := by
  simp only [rowPart, List.length_take, List.length_drop]
  rw [Nat.add_mul] at h3
  omega
omit [Start] in
theorem srcC_length {sz : Nat} {x : D} (hk : srcOk h sz x) : (srcC h x).length = srcN x * sz := by
  cases x with
  | slice es t => exact flat_length hk
  | vec r ag sz' off len cp => obtain ⟨rfl, _, h3⟩ := hk; exact rowPart_length h3
  | _ => exact absurd hk id

/-- The cells that a slice is read from. -/
theorem src_cells (hi : Inv w σ h) {sz : Nat} {x : D} {vx : Value} (hx : Rep w (own σ h) σ h x vx) (hk : srcOk h sz x) (hp : 0 < sz) :
    ∃ a cap, vx = .slice a (srcN x) cap ∧ ∀ m, m ≤ srcN x → ∃ vals : Array Value, (∀ w' : World, (∀ x, w'.cell? x = w.cell? x) → (Builtin.firstCells sz m vx).run P w' = .ok vals w') ∧ RepL w (own σ h) σ h ((srcC h x).take (m * sz)) vals.toList := by
  cases x with
  | slice es t =>
    cases hx with
    | slice _ _ a cap vs hlen hcap hfull htok hc hr =>
      refine ⟨a, cap, rfl, fun m hm => ?_⟩
      simp only [srcN] at hm
      have hm' : (es.take m).length = m := by simp; omega
      have hfl : flat (es.take m) = (flat es).take (m * sz) := flat_take hk m
      have hle : m * sz ≤ (flat es).length := by rw [flat_length hk]; exact Nat.mul_le_mul_right _ hm
      have hr2 : Rep w (own σ h) σ h (.slice (es.take m) .no) (.slice a (es.take m).length cap) := by
        refine .slice _ .no a cap vs (by omega) (by omega) trivial (fun _ _ e => nomatch e) (fun k hk' => ?_) (fun k hk' => ?_)
        · rw [hfl, List.length_take] at hk'
          exact hc k (by omega)
        · have hk2 := hk'
          rw [hfl, List.length_take] at hk2
          have he : (flat (es.take m))[k] = (flat es)[k]'(by omega) := by simp only [hfl, List.getElem_take]
          rw [he]
          exact hr k _
      obtain ⟨a', cap', vals, e1, _, e3, e4, _⟩ := run_cells (P := P) hr2 (allSz_take hk m)
      rw [hm'] at e1 e3
      cases e1
      refine ⟨vals, fun w' hw' => ?_, ?_⟩
      · have := e3 w' hw'
        cases a <;> exact this
      · have hrl : RepL w (own σ h) [] [] (flat (es.take m)) vals.toList := e4
        rw [hfl] at hrl
        exact ⟨hrl.1, fun k h1 h2 => (hrl.2 k h1 h2).pure σ h⟩
  | vec r ag sz' off len cp =>
    obtain ⟨rfl, h2, h3⟩ := hk
    cases hx with
    | vec _ _ _ _ _ _ a cap hlen hcap hr hb hv =>
      refine ⟨a, cap, rfl, fun m hm => ?_⟩
      simp only [srcN] at hm
      by_cases h0 : m = 0
      · subst h0
        refine ⟨#[], fun w' _ => ?_, ?_⟩
        · cases a with
          | none => rfl
          | some a => simp only [Builtin.firstCells, Nat.zero_mul, loadCells, loadCellsFrom, Sem.run_pure]
        · rw [Nat.zero_mul, List.take_zero]; exact .nil
      · rcases hv with hv | ⟨b, c, e, fz, rfl, q2, q3, q4⟩
        · omega
        · have hrow := ob_row h2
          have hp2 : 0 < (off + len) * sz' := Nat.mul_pos (by omega) hp
          rcases (hi.live r _ hrow).cells with ⟨q, _⟩ | ⟨b', c', e', fz', g1, g2, g3, g4, g5⟩
          · rw [q] at h3; simp at h3; omega
          · obtain rfl : b' = b := by rw [q2] at g1; simpa using g1.symm
            have hml : m * sz' ≤ len * sz' := Nat.mul_le_mul_right _ hm
            rw [Nat.add_mul] at h3
            have hpl := rowPart_length (h := h) (r := r) (sz := sz') (off := off) (len := len) (by rw [Nat.add_mul]; exact h3)
            refine ⟨((List.range (m * sz')).map fun k => c'.getD (off * sz' + k) undef).toArray, fun w' hw' => ?_, ?_, fun k k1 k2 => ?_⟩
            · simp only [Builtin.firstCells]
              refine run_loadCells w' _ _ (fun k => c'.getD (off * sz' + k) undef) fun j hj => ?_
              obtain ⟨v, v1, _⟩ := g5 (off * sz' + j) (by omega)
              rw [add_mk, hw', cell_mk g2, v1, Array.getD_eq_getD_getElem?, v1]
              rfl
            · simp only [srcC, List.length_map, List.length_range, List.length_take, hpl]
              omega
            · simp only [srcC, List.length_take, hpl] at k1
              obtain ⟨v, v1, v2⟩ := g5 (off * sz' + k) (by omega)
              have e1 : ((srcC h (.vec r ag sz' off len cp)).take (m * sz'))[k]'(by simp only [srcC, List.length_take, hpl]; omega) = (rowOf (ob h r))[off * sz' + k]'(by omega) := by
                simp [srcC, rowPart]
              rw [e1]
              simp only [List.getElem_map, List.getElem_range, Array.getD_eq_getD_getElem?, v1]
              exact v2
  | _ => exact absurd hk id

/-- A row's part is written. -/
theorem vec_put (hi : Inv w σ h) {r sz off len cp p : Nat} {ag : Bool} {v : Value} (hv : Rep w (own σ h) σ h (.vec r ag sz off len cp) v) (hrow : isRow (ob h r)) {ds : List D} {vs : List Value} (hr : RepL w (own σ h) σ h ds vs) (h1 : ∀ d, d ∈ ds → cell1 d)
    (hl : (off + p) * sz + ds.length ≤ (rowOf (ob h r)).length) (hn : ds ≠ [] → 0 < cp) :
    ∃ a cap, v = .slice a len cap ∧ ∃ w', (∀ x, a = some x → (storeCells (x.add (p * sz)) vs).run P w = .ok () w') ∧ (a = none → w' = w) ∧ Inv w' σ (h.set r (.row (splice (rowOf (ob h r)) ((off + p) * sz) ds))) ∧
      Step w σ h w' σ (h.set r (.row (splice (rowOf (ob h r)) ((off + p) * sz) ds))) := by
  cases hv with
  | vec _ _ _ _ _ _ a cap hlen hcap hrl hb hvv =>
    refine ⟨a, cap, rfl, ?_⟩
    by_cases hd : ds = []
    · subst hd
      have hv0 : vs = [] := by have := hr.1; simpa using this
      subst hv0
      refine ⟨w, fun x _ => by simp [storeCells], fun _ => rfl, ?_⟩
      have : h.set r (.row (splice (rowOf (ob h r)) ((off + p) * sz) [])) = h := by
        simp only [splice, List.append_nil, List.length_nil, Nat.add_zero, List.take_append_drop]
        exact set_same (ob_row hrow)
      rw [this]
      exact ⟨hi, .refl w σ h⟩
    · have hpos : 0 < ds.length := List.length_pos_iff.2 hd
      rcases hvv with hvv | ⟨b, c, e, fz, rfl, q2, q3, q4⟩
      · have := hn hd; omega
      · obtain ⟨g1, g2, g3⟩ := store_row (P := P) hi (ob_row hrow) hl hpos hr h1 q2
        refine ⟨_, fun x hx => ?_, (fun e => nomatch e), g2, g3⟩
        cases hx
        rw [add_mk, ← Nat.add_mul]
        exact g1

def isVec : D → Prop
  | .vec _ _ _ _ _ _ => True
  | _ => False

/-- append on a row in which there is room -/
def appVok (P : Program) (t : TypeId) (h : Hp) (s x : D) : Prop :=
  match s with
  | .vec r _ sz off len cp => isSliceK (ti P t).kind ∧ (ti P (ti P t).elem).has = true ∧ 0 < (ti P (ti P t).elem).sz ∧ (ti P (ti P t).elem).zero.length = (ti P (ti P t).elem).sz ∧ sz = (ti P (ti P t).elem).sz ∧ srcOk h sz x ∧
      len + srcN x ≤ cp ∧ isRow (ob h r) ∧ (off + len) * sz + (srcC h x).length ≤ (rowOf (ob h r)).length ∧ ∀ d, d ∈ srcC h x → cell1 d
  | _ => False
def appVd (s x : D) : D :=
  match s with
  | .vec r ag sz off len cp => .vec r ag sz off (len + srcN x) cp
  | _ => .junk
def appVh (h : Hp) (s x : D) : Hp :=
  match s with
  | .vec r _ sz off len _ => h.set r (.row (splice (rowOf (ob h r)) ((off + len) * sz) (srcC h x)))
  | _ => h
theorem app_vec (hi : Inv w σ h) {t ty : TypeId} {s x : D} {v vx : Value} (hs : Rep w (own σ h) σ h s v) (hx : Rep w (own σ h) σ h x vx) (hok : appVok P t h s x) :
    ∃ u w', (Builtin.append_ #[t, t] ty #[v, vx]).run P w = .ok u w' ∧ Inv w' σ (appVh h s x) ∧ Step w σ h w' σ (appVh h s x) ∧ Rep w' (own σ (appVh h s x)) σ (appVh h s x) (appVd s x) u := by
  cases s with
  | vec r ag sz off len cp =>
    obtain ⟨k1, k2, k3, k4, rfl, k6, k7, k8, k9, k10⟩ := hok
    obtain ⟨a2, c2, rfl, hsrc⟩ := src_cells (P := P) hi hx k6 k3
    obtain ⟨vals, e1, e2⟩ := hsrc _ (Nat.le_refl _)
    rw [List.take_of_length_le (by rw [srcC_length k6]; exact Nat.le_refl _)] at e2
    have hs0 := hs
    obtain ⟨a, cap, rfl, w', g1, g2, g3, g4⟩ := vec_put (P := P) hi (p := len) hs k8 e2 k10 k9 (fun hne => by
      have : 0 < (srcC h x).length := List.length_pos_iff.2 hne
      rw [srcC_length k6] at this
      have : 0 < srcN x := Nat.pos_of_mul_pos_right this
      omega)
    obtain ⟨i, z, q1, q2, q3, q4, q5⟩ := zero_of k2 k3 k4
    have ht := ti_slice (slice_of k1)
    have hcap : cp ≤ cap := by cases hs with | vec _ _ _ _ _ _ _ _ _ hc _ _ _ => exact hc.2
    have hfit : len + srcN x ≤ cap := by omega
    have hv := e1 w (fun _ => rfl)
    rw [← q2] at hv g1
    refine ⟨.slice a (len + srcN x) cap, w', ?_, g3, g4, ?_⟩
    · cases a with
      | none => simp [Builtin.append_, run_underlying ht, sizeOf, typeInfo, q1, Builtin.lenOf, hfit, hv, g2]
      | some y => simp [Builtin.append_, run_underlying ht, sizeOf, typeInfo, q1, Builtin.lenOf, hfit, hv, g1 y rfl]
    · have h5 := hs0.step g4
      simp only [appVd]
      cases h5 with
      | vec _ _ _ _ _ _ _ _ hlen hc hr hb hv => exact .vec r ag _ off _ cp a cap hlen ⟨k7, hc.2⟩ hr hb hv
  | _ => exact absurd hok (by simp [appVok])

/-- append that makes a row -/
theorem app_new (hi : Inv w σ h) {t ty : TypeId} {es news : List D} {t2 : Tok} {v vx : Value} (hs : Rep w (own σ h) σ h (.slice es .full) v) (hx : Rep w (own σ h) σ h (.slice news t2) vx) (hk : AppOk P t es news) (hne : es = [] ∨ news ≠ []) (ag : Bool) :
    ∃ u w' s, (Builtin.append_ #[t, t] ty #[v, vx]).run P w = .ok u w' ∧ Inv w' (σ ++ [s]) (h ++ [.row (flat es ++ flat news)]) ∧ Step w σ h w' (σ ++ [s]) (h ++ [.row (flat es ++ flat news)]) ∧
      Rep w' (own (σ ++ [s]) (h ++ [.row (flat es ++ flat news)])) (σ ++ [s]) (h ++ [.row (flat es ++ flat news)]) (.vec h.length ag (ti P (ti P t).elem).sz 0 (es.length + news.length) (es.length + news.length)) u := by
  obtain ⟨a, cap, olds, rfl, hcap, holds, hro, _⟩ := run_cells (P := P) hs hk.k4
  have hfull : cap = es.length := by cases hs with | slice _ _ _ _ vs _ _ hf _ _ _ => exact hf
  obtain ⟨a2, c2, vals, rfl, hcap2, hvals, hrv, _⟩ := run_cells (P := P) hx hk.k5
  by_cases hn : news = []
  · subst hn
    have he : es = [] := by rcases hne with h | h; exact h; exact absurd rfl h
    subst he
    have hv0 : vals = #[] := by have := hrv.1; simp [flat] at this; exact this
    subst hv0
    have hrun := run_app_fits (P := P) (ty := ty) (w := w) hk (a := a) (cap := cap) (hvals w (fun _ => rfl)) (by simp) (w' := w) (fun x _ => by simp [storeCells]) (fun _ => rfl)
    obtain ⟨g1, g2⟩ := inv_add hi (Adds.refl w) none (.row []) (fun b e => by cases e) (fun cs e _ => by cases e; exact ⟨.inl ⟨rfl, fun b hb => by rw [List.getElem?_append_right (by rw [hi.len]; exact Nat.le_refl _), hi.len, Nat.sub_self] at hb; cases hb⟩⟩)
    refine ⟨_, w, none, hrun, g1, g2, ?_⟩
    simp only [List.length_nil, Nat.add_zero] at *
    exact .vec h.length ag _ 0 0 0 a cap (Nat.zero_le _) ⟨Nat.le_refl _, Nat.zero_le _⟩ (by simp) (fun k hk => by rw [List.getElem?_append_right (Nat.le_refl _)] at hk; simp at hk) (.inl hfull)
  · have hn0 : 0 < news.length := List.length_pos_iff.2 hn
    obtain ⟨newCap, rest, g1, g2, g3⟩ := run_app_grow (P := P) (ty := ty) hk (holds w.drew (fun _ => rfl)) (hvals w.drew (fun _ => rfl)) (by omega)
    have hl0 : olds.size = es.length * (ti P (ti P t).elem).sz := by have := hro.1; rw [flat_length hk.k4] at this; simpa using this
    have hl1 : vals.size = news.length * (ti P (ti P t).elem).sz := by have := hrv.1; rw [flat_length hk.k5] at this; simpa using this
    obtain ⟨d1, d2⟩ := inv_same hi ((Adds.refl w).drew)
    have hrep : RepL w.drew (own σ h) σ h (flat es ++ flat news) (olds ++ vals).toList := by
      rw [Array.toList_append]
      refine RepL.append ⟨hro.1, fun k h1 h2 => ?_⟩ ⟨hrv.1, fun k h1 h2 => ?_⟩
      · exact ((hro.2 k h1 h2).pure σ h).step d2
      · exact ((hrv.2 k h1 h2).pure σ h).step d2
    obtain ⟨i1, i2⟩ := alloc_row d1 (cells := olds ++ vals) (rest := rest) (e := (ti P t).elem) hrep
    refine ⟨_, _, _, g3, i1, d2.trans i2, ?_⟩
    refine .vec h.length ag _ 0 _ _ _ newCap hk.k6 ⟨Nat.le_refl _, g1⟩ (by simp) (fun k hk => by rw [List.getElem?_append_right (Nat.le_refl _)] at hk; simp at hk) (.inr ⟨w.heap.size, _, _, (0, 0), by simp, by rw [List.getElem?_append_right (by rw [hi.len]; omega), hi.len, Nat.sub_self]; rfl, heap_alloc_new w.drew _, ?_⟩)
    simp only [Array.size_append, hl0, hl1, g2, Nat.zero_add]
    rw [← Nat.add_mul, ← Nat.add_mul]
    exact Nat.mul_le_mul_right _ (by omega)

omit [Start] in
theorem wrap_idN {n : Int} (h1 : -9223372036854775808 ≤ n) (h2 : n ≤ 9223372036854775807) : IntKind.i64.wrap n = n := by
  rw [IntKind.wrap_i64]
  omega
omit [Start] in
/-- The run of append(s, make(..)...), where a new array is made. -/
theorem run_app_growZ {t t' ty : TypeId} {es : List D} {m : Nat} {kk kt : IntKind} {k : Int} (hk : AppOk P t es []) (ht' : P.underlying t' = some (.int kt)) {a : Option Addr} {cap : Nat} {olds : Array Value}
    (ho : (Builtin.firstCells (ti P (ti P t).elem).sz es.length (.slice a es.length cap)).run P w.drew = .ok olds w.drew) (h0 : 0 ≤ k) (hm : k.toNat = m) (hm0 : 0 < m)
    (hfit : cap < es.length + m) (h6 : es.length + m ≤ lenMax) (h7 : (es.length + m) * (ti P (ti P t).elem).bs ≤ 140737488355328) :
    ∃ i z newCap rest, P.info? (ti P t).elem = some i ∧ i.zero = some z ∧ es.length + m ≤ newCap ∧ rest.size = (newCap - (es.length + m)) * (ti P (ti P t).elem).sz ∧
      (Builtin.append_ #[t, t'] ty #[.slice a es.length cap, .int kk k]).run P w = .ok (.slice (some ⟨w.heap.size, 0, none⟩) (es.length + m) newCap) (w.drew.alloc (.cells (olds ++ Builtin.zeroCells z.cells m ++ rest) (ti P t).elem)) := by
  obtain ⟨i, z, e1, e2, e3, e4, e5⟩ := zero_of hk.k3 hk.k3' hk.k3''
  have ht := ti_slice (slice_of hk.k1)
  have hp := hk.k3'
  generalize (ti P t).elem = e at *
  refine ⟨i, z, grownCap w (es.length + m) cap e, Builtin.zeroCells z.cells (grownCap w (es.length + m) cap e - (es.length + m)), e1, e4, ?_, by rw [size_zeroCells', e5], ?_⟩
  · unfold grownCap; simp only [Question.cut]; omega
  · rw [← e2] at ho hp
    rw [← e3] at h7
    have hn : ¬ (es.length + m ≤ cap) := by omega
    simp only [lenMax] at h6
    have hw : IntKind.i64.wrap k = k := wrap_idN (by omega) (by omega)
    have h48' : ¬ (281474976710656 < Builtin.nextslicecap (es.length + m) cap * i.bytes) := by have := growslice_fits hfit h7; omega
    have h63' : ¬ (9223372036854775807 < (es.length : Int) + max k 0) := by omega
    have hneg : ¬ (k < 0) := by omega
    have hmb : m * i.bytes ≤ 140737488355328 := Nat.le_trans (Nat.mul_le_mul_right _ (Nat.le_add_left _ _)) h7
    have h48 : ¬ (281474976710656 < k * (i.bytes : Int)) := by
      rw [show k = (m : Int) by omega, ← Int.natCast_mul]
      omega
    have hz : ¬ (m * i.size = 0) := Nat.ne_of_gt (Nat.mul_pos hm0 hp)
    simp [Builtin.append_, run_underlying ht, run_underlying ht', asInt, asIntOf, sizeOf, typeInfo, zeroValue, e1, e4, Builtin.lenOf, hw, hneg, h48, hm, hn, h63', h48', hz, Question.forced, ho, newRow, grownCap]
/-- append(s, make(..)...) that makes a row -/
theorem app_newZ (hi : Inv w σ h) {t t' ty : TypeId} {es : List D} {c : Nat} {kk kt : IntKind} {k : Int} {v vx : Value} (hs : Rep w (own σ h) σ h (.slice es (.cap c)) v) (hx : Rep w (own σ h) σ h (.int kk k) vx) (hk : AppOk P t es [])
    (ht' : P.underlying t' = some (.int kt)) (h0 : 0 ≤ k) (hc : c < es.length + k.toNat) (h6 : es.length + k.toNat ≤ lenMax) (h7 : (es.length + k.toNat) * (ti P (ti P t).elem).bs ≤ 140737488355328) (ag : Bool) :
    ∃ u w' s, (Builtin.append_ #[t, t'] ty #[v, vx]).run P w = .ok u w' ∧ Inv w' (σ ++ [s]) (h ++ [.row (flat es ++ zeros (ti P (ti P t).elem).zero k.toNat)]) ∧ Step w σ h w' (σ ++ [s]) (h ++ [.row (flat es ++ zeros (ti P (ti P t).elem).zero k.toNat)]) ∧
      Rep w' (own (σ ++ [s]) (h ++ [.row (flat es ++ zeros (ti P (ti P t).elem).zero k.toNat)])) (σ ++ [s]) (h ++ [.row (flat es ++ zeros (ti P (ti P t).elem).zero k.toNat)]) (.vec h.length ag (ti P (ti P t).elem).sz 0 (es.length + k.toNat) (es.length + k.toNat)) u := by
  obtain ⟨a, cap, olds, rfl, hcap, holds, hro, _⟩ := run_cells (P := P) hs hk.k4
  have hfull : cap = c := by cases hs with | slice _ _ _ _ vs _ _ hf _ _ _ => exact hf
  cases hx
  obtain ⟨i, z, newCap, rest, p1, p2, g1, g2, g3⟩ := run_app_growZ (P := P) (ty := ty) (kk := kk) hk ht' (holds w.drew (fun _ => rfl)) h0 rfl (by omega) (by omega) h6 h7
  have hl0 : olds.size = es.length * (ti P (ti P t).elem).sz := by have := hro.1; rw [flat_length hk.k4] at this; simpa using this
  obtain ⟨i', d', q1, q2, q3⟩ := ti_has hk.k3
  have hii : i' = i := by rw [p1] at q1; exact (Option.some.inj q1).symm
  subst hii
  obtain ⟨d1, d2⟩ := inv_same hi ((Adds.refl w).drew)
  have hzr : RepL w.drew (own σ h) σ h (ti P (ti P t).elem).zero z.cells.toList := by rw [q3]; exact rep_zero p2
  have hzs : z.cells.size = (ti P (ti P t).elem).sz := by have := hzr.1; rw [← hk.k3'']; simpa using this
  have hz := repL_zeros hzr k.toNat
  have hcells : (Builtin.zeroCells z.cells k.toNat).toList = (List.replicate k.toNat z.cells.toList).flatten := by
    have := map_zeros z.cells (by have := hk.k3'; omega) k.toNat
    exact this
  have hrep : RepL w.drew (own σ h) σ h (flat es ++ zeros (ti P (ti P t).elem).zero k.toNat) (olds ++ Builtin.zeroCells z.cells k.toNat).toList := by
    rw [Array.toList_append, hcells]
    refine RepL.append ⟨hro.1, fun k h1 h2 => ?_⟩ hz
    exact ((hro.2 k h1 h2).pure σ h).step d2
  obtain ⟨i1, i2⟩ := alloc_row d1 (cells := olds ++ Builtin.zeroCells z.cells k.toNat) (rest := rest) (e := (ti P t).elem) hrep
  refine ⟨_, _, _, g3, i1, d2.trans i2, ?_⟩
  refine .vec h.length ag _ 0 _ _ _ newCap h6 ⟨Nat.le_refl _, g1⟩ (by simp) (fun k hk => by rw [List.getElem?_append_right (Nat.le_refl _)] at hk; simp at hk) (.inr ⟨w.heap.size, _, _, (0, 0), by simp, by rw [List.getElem?_append_right (by rw [hi.len]; omega), hi.len, Nat.sub_self]; rfl, heap_alloc_new w.drew _, ?_⟩)
  simp only [Array.size_append, hl0, size_zeroCells', hzs, g2, Nat.zero_add]
  rw [← Nat.add_mul, ← Nat.add_mul]
  exact Nat.mul_le_mul_right _ (by omega)

/-- copy into a row -/
def copyOk (P : Program) (t : TypeId) (h : Hp) (s x : D) : Prop :=
  match s with
  | .vec r _ sz off len _ => isSliceK (ti P t).kind ∧ (ti P (ti P t).elem).has = true ∧ 0 < (ti P (ti P t).elem).sz ∧ sz = (ti P (ti P t).elem).sz ∧ srcOk h sz x ∧ isRow (ob h r) ∧
      off * sz + ((srcC h x).take (min (srcN x) len * sz)).length ≤ (rowOf (ob h r)).length ∧ ∀ d, d ∈ (srcC h x).take (min (srcN x) len * sz) → cell1 d
  | _ => False
def copyH (h : Hp) (s x : D) : Hp :=
  match s with
  | .vec r _ sz off len _ => h.set r (.row (splice (rowOf (ob h r)) (off * sz) ((srcC h x).take (min (srcN x) len * sz))))
  | _ => h
def copyD (s x : D) : D := .int .i64 (min (srcN x) (srcN s) : Nat)
theorem copy_sound (hi : Inv w σ h) {t t' ty : TypeId} {s x : D} {v vx : Value} (hs : Rep w (own σ h) σ h s v) (hx : Rep w (own σ h) σ h x vx) (hok : copyOk P t h s x) :
    ∃ u w', (Builtin.copy_ #[t, t'] ty #[v, vx]).run P w = .ok u w' ∧ Inv w' σ (copyH h s x) ∧ Step w σ h w' σ (copyH h s x) ∧ Rep w' (own σ (copyH h s x)) σ (copyH h s x) (copyD s x) u := by
  cases s with
  | vec r ag sz off len cp =>
    obtain ⟨k1, k2, k3, rfl, k6, k8, k9, k10⟩ := hok
    obtain ⟨a2, c2, rfl, hsrc⟩ := src_cells (P := P) hi hx k6 k3
    obtain ⟨vals, e1, e2⟩ := hsrc (min (srcN x) len) (Nat.min_le_left _ _)
    obtain ⟨a, cap, rfl, w', g1, g2, g3, g4⟩ := vec_put (P := P) hi (p := 0) hs k8 e2 k10 (by rw [Nat.add_zero]; exact k9) (fun hne => by
      have : 0 < ((srcC h x).take (min (srcN x) len * (ti P (ti P t).elem).sz)).length := List.length_pos_iff.2 hne
      rw [List.length_take] at this
      have : 0 < min (srcN x) len * (ti P (ti P t).elem).sz := by omega
      have := Nat.pos_of_mul_pos_right this
      have hcap : len ≤ cp := by cases hs with | vec _ _ _ _ _ _ _ _ _ hc _ _ _ => exact hc.1
      omega)
    obtain ⟨i, d, q1, q2, q3⟩ := ti_has k2
    have hsz : i.size = (ti P (ti P t).elem).sz := by rw [q3]
    have ht := ti_slice (slice_of k1)
    have hv := e1 w (fun _ => rfl)
    rw [← hsz] at hv g1
    rw [Nat.add_zero] at g3 g4
    refine ⟨.int .i64 (min (srcN x) len : Nat), w', ?_, g3, g4, .int _ _⟩
    cases a with
    | none => simp [Builtin.copy_, run_underlying ht, sizeOf, typeInfo, q1, Builtin.lenOf, hv, g2, goInt]
    | some y =>
      have := g1 y rfl
      rw [Nat.zero_mul, show y.add 0 = y from rfl] at this
      simp [Builtin.copy_, run_underlying ht, sizeOf, typeInfo, q1, Builtin.lenOf, hv, this, goInt]
  | _ => exact absurd hok (by simp [copyOk])

/-- clear of a row -/
def clearOk (P : Program) (t : TypeId) (h : Hp) (s : D) : Prop :=
  match s with
  | .vec r _ sz off len _ => isSliceK (ti P t).kind ∧ (ti P (ti P t).elem).has = true ∧ 0 < (ti P (ti P t).elem).sz ∧ (ti P (ti P t).elem).zero.length = (ti P (ti P t).elem).sz ∧ sz = (ti P (ti P t).elem).sz ∧ isRow (ob h r) ∧
      off * sz + len * sz ≤ (rowOf (ob h r)).length ∧ ∀ d, d ∈ (ti P (ti P t).elem).zero → cell1 d
  | _ => False
def clearH (P : Program) (t : TypeId) (h : Hp) (s : D) : Hp :=
  match s with
  | .vec r _ sz off len _ => h.set r (.row (splice (rowOf (ob h r)) (off * sz) (zeros (ti P (ti P t).elem).zero len)))
  | _ => h
theorem clear_sound (hi : Inv w σ h) {t ty : TypeId} {s : D} {v : Value} (hs : Rep w (own σ h) σ h s v) (hok : clearOk P t h s) :
    ∃ u w', (Builtin.clear_ #[t] ty #[v]).run P w = .ok u w' ∧ Inv w' σ (clearH P t h s) ∧ Step w σ h w' σ (clearH P t h s) := by
  cases s with
  | vec r ag sz off len cp =>
    obtain ⟨k1, k2, k3, k4, rfl, k8, k9, k10⟩ := hok
    obtain ⟨i, z, q1, q2, q3, q4, q5⟩ := zero_of k2 k3 k4
    obtain ⟨i', d', p1, p2, p3⟩ := ti_has k2
    have hii : i' = i := by rw [q1] at p1; exact (Option.some.inj p1).symm
    subst hii
    have hzr : RepL w (own σ h) σ h (ti P (ti P t).elem).zero z.cells.toList := by rw [p3]; exact rep_zero q4
    have hz := repL_zeros hzr len
    have hzl : (zeros (ti P (ti P t).elem).zero len).length = len * (ti P (ti P t).elem).sz := by
      simp [zeros, List.length_flatten, k4]
    have hcells : (Builtin.zeroCells z.cells len).toList = (List.replicate len z.cells.toList).flatten := by
      have := map_zeros z.cells (by omega) len
      exact this
    have h1 : ∀ d, d ∈ zeros (ti P (ti P t).elem).zero len → cell1 d := fun d hd => by
      simp only [zeros, List.mem_flatten, List.mem_replicate] at hd
      obtain ⟨l, ⟨_, rfl⟩, hd⟩ := hd
      exact k10 d hd
    have ht := ti_slice (slice_of k1)
    obtain ⟨a, cap, rfl, w', g1, g2, g3, g4⟩ := vec_put (P := P) hi (p := 0) hs k8 hz h1 (by rw [Nat.add_zero, hzl]; exact k9) (fun hne => by
      have : 0 < (zeros (ti P (ti P t).elem).zero len).length := List.length_pos_iff.2 hne
      rw [hzl] at this
      have := Nat.pos_of_mul_pos_right this
      have hcap : len ≤ cp := by cases hs with | vec _ _ _ _ _ _ _ _ _ hc _ _ _ => exact hc.1
      omega)
    rw [Nat.add_zero] at g3 g4
    by_cases h0 : len = 0
    · subst h0
      have e0 : clearH P t h (.vec r ag (ti P (ti P t).elem).sz off 0 cp) = h := by
        simp only [clearH, zeros, List.replicate_zero, List.flatten_nil, splice, List.append_nil, List.length_nil, Nat.add_zero, List.take_append_drop]
        exact set_same (ob_row k8)
      rw [e0]
      refine ⟨.tuple #[], w, ?_, hi, .refl w σ h⟩
      cases a <;> simp [Builtin.clear_, run_underlying ht]
    · cases a with
      | none =>
        exfalso
        cases hs with
        | vec _ _ _ _ _ _ _ _ _ hc _ _ hv =>
          rcases hv with hv | ⟨_, _, _, _, e, _⟩
          · omega
          · cases e
      | some y =>
        refine ⟨.tuple #[], w', ?_, g3, g4⟩
        have := g1 y rfl
        rw [Nat.zero_mul, show y.add 0 = y from rfl, ← hcells] at this
        obtain ⟨n, rfl⟩ : ∃ n, len = n + 1 := ⟨len - 1, by omega⟩
        simp [Builtin.clear_, run_underlying ht, zeroValue, typeInfo, q1, q4, this]
  | _ => exact absurd hok (by simp [clearOk])

def nilOk (P : Program) (t : TypeId) : D → Prop
  | .slice es _ => isSliceK (ti P t).kind ∧ 0 < (ti P (ti P t).elem).sz ∧ AllSz (ti P (ti P t).elem).sz es
  | .vec _ _ _ _ _ _ => isSliceK (ti P t).kind
  | _ => False
omit [Start] in
theorem run_eq_nil (w : World) {d : Nat} {t e : TypeId} (a : Option Addr) (n cap : Nat) (h : P.underlying t = some (.slice e)) : (Op.equalIn (d + 1) t (.slice a n cap) (.slice none 0 0)).run P w = .ok a.isNone w := by
  cases a <;> simp [Op.equalIn, run_underlying h]
omit [Start] in
/-- Is a slice nil? -/
theorem nil_sound {t : TypeId} {ox oy : Operand} {x : D} {vx : Value} (hx : Rep w (own σ h) σ h x vx) (hk : nilOk P t x) :
    ∃ b : Bool, (do eqGuard .eql t ox oy vx (.slice none 0 0); binOp .eql t vx (.slice none 0 0)).run P w = .ok (.bool b) w ∧ (do eqGuard .neq t ox oy vx (.slice none 0 0); binOp .neq t vx (.slice none 0 0)).run P w = .ok (.bool !b) w ∧ (b = true → srcN x = 0) := by
  have key : ∀ (a : Option Addr) (n cap : Nat), isSliceK (ti P t).kind → vx = .slice a n cap → (a = none → srcN x = 0) → ∃ b : Bool, (do eqGuard .eql t ox oy vx (.slice none 0 0); binOp .eql t vx (.slice none 0 0)).run P w = .ok (.bool b) w ∧ (do eqGuard .neq t ox oy vx (.slice none 0 0); binOp .neq t vx (.slice none 0 0)).run P w = .ok (.bool !b) w ∧ (b = true → srcN x = 0) := by
    rintro a n cap hk rfl ha
    have ht := ti_slice (slice_of hk)
    refine ⟨a.isNone, ?_, ?_, fun e => ha (by simpa using e)⟩
    · have hg : eqGuard .eql t ox oy (.slice a n cap) (.slice none 0 0) = pure () := rfl
      rw [hg]
      simp only [binOp]
      simp [Op.equal, Op.maxDepth, run_eq_nil w a n cap ht]
    · have hg : eqGuard .neq t ox oy (.slice a n cap) (.slice none 0 0) = pure () := rfl
      rw [hg]
      simp only [binOp]
      simp [Op.equal, Op.maxDepth, run_eq_nil w a n cap ht]
  cases hx with
  | slice es tk a cap vs hlen hcap hfull htok hc hr =>
    obtain ⟨k1, k2, k3⟩ := hk
    refine key a _ cap k1 rfl fun e => ?_
    subst e
    simp only [srcN]
    apply Decidable.byContradiction
    intro hn
    have : 0 < (flat es).length := by rw [flat_length k3]; exact Nat.mul_pos (by omega) k2
    obtain ⟨_, _, e, _⟩ := hc 0 this
    cases e
  | vec r ag sz off len cp a cap hlen hcap hr hb hv =>
    refine key a _ cap hk rfl fun e => ?_
    subst e
    simp only [srcN]
    rcases hv with hv | ⟨_, _, _, _, e, _⟩
    · omega
    · cases e
  | _ => exact absurd hk id
end
end Go.Av

/- append on a row whose room is not known: the row's object is gone then, and a new one stands for what it has become. -/
namespace Go.Av
set_option linter.unusedSectionVars false
variable [Start]

section
variable {P : Program} {w : World} {σ : Sg} {h : Hp}

omit [Start] in
theorem own_dead_sub {r b o : Nat} (ho : own σ (h.set r .dead) b o) : own σ h b o := by
  obtain ⟨k, h1, h2⟩ := ho
  refine ⟨k, h1, ?_⟩
  by_cases e : k = r
  · subst e
    rcases h2 with ⟨cs, e⟩ | ⟨n, e, _⟩ <;> (rw [ob_set] at e; split at e; cases e; exact absurd e (by rename_i hh; intro e'; exact hh ⟨rfl, (List.getElem?_eq_some_iff.1 e').1⟩))
  · rw [List.getElem?_set_ne (fun e' => e e'.symm)] at h2
    exact h2

/-- An object is given up. -/
theorem inv_dead (hi : Inv w σ h) (r : Nat) : Inv w σ (h.set r .dead) ∧ Step w σ h w σ (h.set r .dead) := by
  have hget : ∀ (k : Nat) x, (h.set r .dead)[k]? = some x → x ≠ .dead → h[k]? = some x := fun k x hk hx => by
    rw [ob_set] at hk
    split at hk
    · cases hk; exact absurd rfl hx
    · exact hk
  have hm : MonoH σ h σ (h.set r .dead) := ⟨by simp, fun k hk hnb => ⟨rfl, fun n hn => hnb n (hget k _ hn (by simp))⟩, fun k n hk hn => .inl ⟨hget k _ hn (by simp), rfl⟩⟩
  have hst : Step w σ h w σ (h.set r .dead) := ⟨rfl, rfl, rfl, Nat.le_refl _, fun _ _ _ => rfl, fun _ _ _ _ hc => hc, fun b o ho => .inl (own_dead_sub ho), fun _ c _ _ hb => ⟨c, hb, rfl⟩, hm⟩
  refine ⟨⟨hi.kept.step hst, by simp [hi.len], hi.lt, fun k cs hk => ?_, fun k k' b h1 h2 h3 h4 => ?_⟩, hst⟩
  · have hk' := hget k _ hk (by simp)
    exact (hi.live k cs hk').step hst (List.getElem?_eq_some_iff.1 hk').1 (fun n hn => by rw [hk'] at hn; cases hn) (fun b c e fz _ q => q)
  · have key : ∀ (q : Nat), σ[q]? = some (some b) → (h.set r .dead)[q]? ≠ some Ob.dead → h[q]? ≠ some Ob.dead := fun q hq hd => by
      rw [ob_set] at hd
      split at hd
      · exact absurd rfl hd
      · exact hd
    exact hi.inj k k' b h1 h2 (key k h1 h3) (key k' h2 h4)

/-- A row is made longer, as far as its block reaches. -/
theorem inv_pad (hi : Inv w σ h) {r : Nat} {cs : List D} (hr : h[r]? = some (.row cs)) (k : Nat) (hs : k = 0 ∨ ∃ b c e fz, σ[r]? = some (some b) ∧ w.heap[b]? = some (.cells c e fz) ∧ cs.length + k ≤ c.size) :
    Inv w σ (h.set r (.row (cs ++ List.replicate k .junk))) ∧ Step w σ h w σ (h.set r (.row (cs ++ List.replicate k .junk))) := by
  have hrl : r < h.length := (List.getElem?_eq_some_iff.1 hr).1
  have hget : ∀ (q : Nat), q ≠ r → (h.set r (.row (cs ++ List.replicate k .junk)))[q]? = h[q]? := fun q hq => List.getElem?_set_ne (fun e => hq e.symm)
  have hgr : (h.set r (.row (cs ++ List.replicate k .junk)))[r]? = some (.row (cs ++ List.replicate k .junk)) := by rw [ob_set, if_pos ⟨rfl, hrl⟩]
  have hm : MonoH σ h σ (h.set r (.row (cs ++ List.replicate k .junk))) := by
    refine ⟨by simp, fun q hq hnb => ⟨rfl, fun n hn => ?_⟩, fun q n hq hn => ?_⟩
    · by_cases e : q = r
      · subst e; rw [hgr] at hn; cases hn
      · rw [hget q e] at hn; exact hnb n hn
    · by_cases e : q = r
      · subst e; rw [hgr] at hn; cases hn
      · rw [hget q e] at hn; exact .inl ⟨hn, rfl⟩
  have hown : ∀ b o, own σ (h.set r (.row (cs ++ List.replicate k .junk))) b o → own σ h b o := by
    rintro b o ⟨q, h1, h2⟩
    by_cases e : q = r
    · subst e; exact ⟨q, h1, .inl ⟨cs, hr⟩⟩
    · rw [hget q e] at h2; exact ⟨q, h1, h2⟩
  have hst : Step w σ h w σ (h.set r (.row (cs ++ List.replicate k .junk))) := ⟨rfl, rfl, rfl, Nat.le_refl _, fun _ _ _ => rfl, fun _ _ _ _ hc => hc, fun b o ho => .inl (hown b o ho), fun _ c _ _ hb => ⟨c, hb, rfl⟩, hm⟩
  refine ⟨⟨hi.kept.step hst, by simp [hi.len], hi.lt, fun q ds hq => ?_, fun q q' b h1 h2 h3 h4 => ?_⟩, hst⟩
  · by_cases e : q = r
    · subst e
      rw [hgr] at hq
      cases hq
      have hl := (hi.live q cs hr).step hst hrl (fun n hn => by rw [hr] at hn; cases hn) (fun b c e fz _ q => q)
      refine ⟨?_⟩
      by_cases hz : k = 0
      · subst hz
        rw [List.replicate_zero, List.append_nil]
        rw [List.replicate_zero, List.append_nil] at hl
        exact hl.cells
      · obtain ⟨b, c, e, fz, q1, q2, q3⟩ := hs.resolve_left hz
        rcases hl.cells with q | ⟨b', c', e', fz', p1, p2, p3, p4, p5⟩
        · exact absurd q1 (q.2 b)
        · rw [q1] at p1; cases p1; rw [q2] at p2; cases p2
          refine .inr ⟨b, c, e, fz, q1, q2, by simpa using q3, p4, fun i hi2 => ?_⟩
          simp only [List.length_append, List.length_replicate] at hi2
          by_cases hic : i < cs.length
          · obtain ⟨v, v1, v2⟩ := p5 i hic
            exact ⟨v, v1, by rw [List.getElem_append_left hic]; exact v2⟩
          · refine ⟨c[i]'(by omega), Array.getElem?_eq_getElem (by omega), ?_⟩
            rw [List.getElem_append_right (by omega), List.getElem_replicate]
            exact .junk _
    · rw [hget q e] at hq
      exact (hi.live q ds hq).step hst (List.getElem?_eq_some_iff.1 hq).1 (fun n hn => by rw [hq] at hn; cases hn) (fun b c e fz _ q => q)
  · have key : ∀ (q : Nat), (h.set r (.row (cs ++ List.replicate k .junk)))[q]? ≠ some Ob.dead → h[q]? ≠ some Ob.dead := fun q hd => by
      by_cases e : q = r
      · subst e; rw [hr]; simp
      · rwa [hget q e] at hd
    exact hi.inj q q' b h1 h2 (key q h3) (key q' h4)

/-- A row's object is given up, and a new one stands for it. -/
theorem inv_moved (hi : Inv w σ h) {r : Nat} {cs : List D} (hr : h[r]? = some (.row cs)) :
    Inv w (σ ++ [(σ[r]?).join]) (h.set r .dead ++ [.row cs]) ∧ Step w σ h w (σ ++ [(σ[r]?).join]) (h.set r .dead ++ [.row cs]) := by
  have hrl : r < h.length := (List.getElem?_eq_some_iff.1 hr).1
  have hjoin : ∀ b, (σ[r]?).join = some b ↔ σ[r]? = some (some b) := fun b => by
    cases e : σ[r]? with
    | none => simp
    | some x => simp
  have hσ0 : ∀ q : Nat, q < h.length → (σ ++ [(σ[r]?).join])[q]? = σ[q]? := fun q hq => List.getElem?_append_left (by rw [hi.len]; exact hq)
  have hσ1 : (σ ++ [(σ[r]?).join])[h.length]? = some ((σ[r]?).join) := by rw [List.getElem?_append_right (by rw [hi.len]; exact Nat.le_refl _), hi.len, Nat.sub_self]; rfl
  have hσ2 : ∀ q : Nat, h.length < q → (σ ++ [(σ[r]?).join])[q]? = none := fun q hq => List.getElem?_eq_none (by simp [hi.len]; omega)
  have hh0 : ∀ q : Nat, q < h.length → q ≠ r → (h.set r .dead ++ [.row cs])[q]? = h[q]? := fun q hq hne => by rw [List.getElem?_append_left (by simpa using hq), List.getElem?_set_ne (fun e => hne e.symm)]
  have hhr : (h.set r .dead ++ [.row cs])[r]? = some .dead := by rw [List.getElem?_append_left (by simpa using hrl), ob_set, if_pos ⟨rfl, hrl⟩]
  have hh1 : (h.set r .dead ++ [.row cs])[h.length]? = some (.row cs) := by rw [List.getElem?_append_right (by simp)]; simp
  have hh2 : ∀ q : Nat, h.length < q → (h.set r .dead ++ [.row cs])[q]? = none := fun q hq => List.getElem?_eq_none (by simp; omega)
  have hm : MonoH σ h (σ ++ [(σ[r]?).join]) (h.set r .dead ++ [.row cs]) := by
    refine ⟨by simp, fun q hq hnb => ⟨hσ0 q hq, fun n hn => ?_⟩, fun q n hq hn => ?_⟩
    · by_cases e : q = r
      · subst e; rw [hhr] at hn; cases hn
      · rw [hh0 q hq e] at hn; exact hnb n hn
    · by_cases e : q = r
      · subst e; rw [hhr] at hn; cases hn
      · rw [hh0 q hq e] at hn; exact .inl ⟨hn, hσ0 q hq⟩
  have hown : ∀ b o, own (σ ++ [(σ[r]?).join]) (h.set r .dead ++ [.row cs]) b o → own σ h b o := by
    rintro b o ⟨q, h1, h2⟩
    by_cases e : q = h.length
    · subst e
      rw [hσ1] at h1
      exact ⟨r, (hjoin b).1 (Option.some.inj h1), .inl ⟨cs, hr⟩⟩
    · by_cases hq : q < h.length
      · by_cases e : q = r
        · subst e; rw [hhr] at h2; rcases h2 with ⟨_, e⟩ | ⟨_, e, _⟩ <;> cases e
        · rw [hh0 q hq e] at h2; rw [hσ0 q hq] at h1; exact ⟨q, h1, h2⟩
      · rw [hσ2 q (by omega)] at h1; cases h1
  have hst : Step w σ h w (σ ++ [(σ[r]?).join]) (h.set r .dead ++ [.row cs]) := ⟨rfl, rfl, rfl, Nat.le_refl _, fun _ _ _ => rfl, fun _ _ _ _ hc => hc, fun b o ho => .inl (hown b o ho), fun _ c _ _ hb => ⟨c, hb, rfl⟩, hm⟩
  refine ⟨⟨hi.kept.step hst, by simp [hi.len], fun q b hq => ?_, fun q ds hq => ?_, fun q q' b h1 h2 h3 h4 => ?_⟩, hst⟩
  · by_cases e : q = h.length
    · subst e; rw [hσ1] at hq; exact hi.lt r b ((hjoin b).1 (Option.some.inj hq))
    · by_cases hql : q < h.length
      · rw [hσ0 q hql] at hq; exact hi.lt q b hq
      · rw [hσ2 q (by omega)] at hq; cases hq
  · by_cases e : q = h.length
    · subst e
      rw [hh1] at hq
      cases hq
      refine ⟨(hi.live r cs hr).cells.imp (fun q => ⟨q.1, fun b hb => ?_⟩) ?_⟩
      · rw [hσ1] at hb; exact q.2 b ((hjoin b).1 (Option.some.inj hb))
      · rintro ⟨b, c, e, fz, q1, q2, q3, q4, q5⟩
        refine ⟨b, c, e, fz, by rw [hσ1, (hjoin b).2 q1], q2, q3, q4, fun i hi2 => ?_⟩
        obtain ⟨v, v1, v2⟩ := q5 i hi2
        exact ⟨v, v1, v2.step hst⟩
    · by_cases hql : q < h.length
      · by_cases e : q = r
        · subst e; rw [hhr] at hq; cases hq
        · rw [hh0 q hql e] at hq
          exact (hi.live q ds hq).step hst hql (fun n hn => by rw [hq] at hn; cases hn) (fun b c e fz _ q => q)
      · rw [hh2 q (by omega)] at hq; cases hq
  · -- where a live object of the new heap stood
    have key : ∀ q : Nat, (σ ++ [(σ[r]?).join])[q]? = some (some b) → (h.set r .dead ++ [.row cs])[q]? ≠ some Ob.dead → ∃ q0, σ[q0]? = some (some b) ∧ h[q0]? ≠ some Ob.dead ∧ ((q = h.length ∧ q0 = r) ∨ (q ≠ r ∧ q < h.length ∧ q0 = q)) := fun q g1 g2 => by
      by_cases e : q = h.length
      · subst e; rw [hσ1] at g1; exact ⟨r, (hjoin b).1 (Option.some.inj g1), by rw [hr]; simp, .inl ⟨rfl, rfl⟩⟩
      · by_cases hql : q < h.length
        · by_cases e2 : q = r
          · subst e2; exact absurd hhr g2
          · rw [hσ0 q hql] at g1; rw [hh0 q hql e2] at g2; exact ⟨q, g1, g2, .inr ⟨e2, hql, rfl⟩⟩
        · rw [hσ2 q (by omega)] at g1; cases g1
    obtain ⟨a, a1, a2, a3⟩ := key q h1 h3
    obtain ⟨c, c1, c2, c3⟩ := key q' h2 h4
    have := hi.inj a c b a1 c1 a2 c2
    omega

def growOk (P : Program) (t : TypeId) (h : Hp) (s x : D) : Prop :=
  match s with
  | .vec r _ sz off len _ => off = 0 ∧ isSliceK (ti P t).kind ∧ (ti P (ti P t).elem).has = true ∧ 0 < (ti P (ti P t).elem).sz ∧ (ti P (ti P t).elem).zero.length = (ti P (ti P t).elem).sz ∧ sz = (ti P (ti P t).elem).sz ∧ srcOk h sz x ∧
      isRow (ob h r) ∧ (rowOf (ob h r)).length = len * sz ∧ (len + srcN x ≤ lenMax ∧ (len + srcN x) * (ti P (ti P t).elem).bs ≤ 140737488355328) ∧ ∀ d, d ∈ srcC h x → cell1 d
  | _ => False
def growD (h : Hp) (s x : D) : D :=
  match s with
  | .vec _ ag sz _ len _ => .vec h.length ag sz 0 (len + srcN x) (len + srcN x)
  | _ => .junk
def growH (h : Hp) (s x : D) : Hp :=
  match s with
  | .vec r _ _ _ _ _ => h.set r .dead ++ [.row (rowOf (ob h r) ++ srcC h x)]
  | _ => h

theorem app_grow (hi : Inv w σ h) {t ty : TypeId} {s x : D} {v vx : Value} (hs : Rep w (own σ h) σ h s v) (hx : Rep w (own σ h) σ h x vx) (hok : growOk P t h s x) :
    ∃ u w' σ', (Builtin.append_ #[t, t] ty #[v, vx]).run P w = .ok u w' ∧ Inv w' σ' (growH h s x) ∧ Step w σ h w' σ' (growH h s x) ∧ Rep w' (own σ' (growH h s x)) σ' (growH h s x) (growD h s x) u := by
  cases s with
  | vec r ag sz off len cp =>
    obtain ⟨rfl, k1, k2, k3, k4, rfl, k6, k8, k9, k7, k10⟩ := hok
    have hrow := ob_row k8
    have hrl : r < h.length := (List.getElem?_eq_some_iff.1 hrow).1
    obtain ⟨a2, c2, rfl, hsrc⟩ := src_cells (P := P) hi hx k6 k3
    obtain ⟨vals, e1, e2⟩ := hsrc _ (Nat.le_refl _)
    rw [List.take_of_length_le (by rw [srcC_length k6]; exact Nat.le_refl _)] at e2
    obtain ⟨a, cap, rfl, hsrc'⟩ := src_cells (P := P) hi hs (show srcOk h (ti P (ti P t).elem).sz (.vec r ag (ti P (ti P t).elem).sz 0 len cp) from ⟨rfl, k8, by rw [k9, Nat.zero_add]; exact Nat.le_refl _⟩) k3
    have hsn : srcN (D.vec r ag (ti P (ti P t).elem).sz 0 len cp) = len := rfl
    rw [hsn] at hs hsrc'
    obtain ⟨olds, o1, o2⟩ := hsrc' _ (Nat.le_refl _)
    have hpart : srcC h (.vec r ag (ti P (ti P t).elem).sz 0 len cp) = rowOf (ob h r) := by
      show rowPart h r _ 0 len = _
      rw [rowPart, Nat.zero_mul, List.drop_zero, List.take_of_length_le (by rw [k9]; exact Nat.le_refl _)]
    rw [hpart, List.take_of_length_le (by rw [k9]; exact Nat.le_refl _)] at o2
    obtain ⟨i, z, q1, q2, q3, q4, q5⟩ := zero_of k2 k3 k4
    have ht := ti_slice (slice_of k1)
    show ∃ u w' σ', _ ∧ Inv w' σ' (h.set r .dead ++ [.row (rowOf (ob h r) ++ srcC h x)]) ∧ Step w σ h w' σ' (h.set r .dead ++ [.row (rowOf (ob h r) ++ srcC h x)]) ∧ Rep w' (own σ' (h.set r .dead ++ [.row (rowOf (ob h r) ++ srcC h x)])) σ' (h.set r .dead ++ [.row (rowOf (ob h r) ++ srcC h x)]) (.vec h.length ag (ti P (ti P t).elem).sz 0 (len + srcN x) (len + srcN x)) u
    have hnb0 : notBuf (h.set r .dead ++ [.row (rowOf (ob h r) ++ srcC h x)]) h.length := fun n hn => by rw [List.getElem?_append_right (by simp)] at hn; simp at hn
    by_cases hfit : len + srcN x ≤ cap
    · -- in place
      have hblk : srcN x = 0 ∨ ∃ b c e fz, a = some ⟨b, 0, none⟩ ∧ σ[r]? = some (some b) ∧ w.heap[b]? = some (.cells c e fz) ∧ cap * (ti P (ti P t).elem).sz ≤ c.size := by
        cases hs with
        | vec _ _ _ _ _ _ _ _ _ _ _ _ hv =>
          rcases hv with hv | ⟨b, c, e, fz, p1, p2, p3, p4⟩
          · exact .inl (by omega)
          · exact .inr ⟨b, c, e, fz, by simpa using p1, p2, p3, by simpa using p4⟩
      have hbl : srcN x * (ti P (ti P t).elem).sz = 0 ∨ ∃ b c e fz, σ[r]? = some (some b) ∧ w.heap[b]? = some (.cells c e fz) ∧ (rowOf (ob h r)).length + srcN x * (ti P (ti P t).elem).sz ≤ c.size := by
        rcases hblk with e | ⟨b, c, e, fz, _, p2, p3, p4⟩
        · exact .inl (by rw [e, Nat.zero_mul])
        · refine .inr ⟨b, c, e, fz, p2, p3, ?_⟩
          rw [k9, ← Nat.add_mul]
          exact Nat.le_trans (Nat.mul_le_mul_right _ hfit) p4
      obtain ⟨i1, s1⟩ := inv_pad hi hrow (srcN x * (ti P (ti P t).elem).sz) hbl
      generalize hh1 : h.set r (.row (rowOf (ob h r) ++ List.replicate (srcN x * (ti P (ti P t).elem).sz) .junk)) = h1 at i1 s1
      have hob1 : h1[r]? = some (.row (rowOf (ob h r) ++ List.replicate (srcN x * (ti P (ti P t).elem).sz) .junk)) := by rw [← hh1, ob_set, if_pos ⟨rfl, hrl⟩]
      have hob1' : ob h1 r = .row (rowOf (ob h r) ++ List.replicate (srcN x * (ti P (ti P t).elem).sz) .junk) := by rw [ob, List.getD_eq_getElem?_getD, hob1]; rfl
      have hs1 : Rep w (own σ h1) σ h1 (.vec r ag (ti P (ti P t).elem).sz 0 len (len + srcN x)) (.slice a len cap) := by
        have := hs.step s1
        cases this with
        | vec _ _ _ _ _ _ _ _ hlen hc hr hb hv => exact .vec r ag _ 0 len _ a cap k7.1 ⟨by omega, hfit⟩ hr hb hv
      have he2 : RepL w (own σ h1) σ h1 (srcC h x) vals.toList := ⟨e2.1, fun k a1 a2 => (e2.2 k a1 a2).step s1⟩
      obtain ⟨a', cap', hv', w', g1, g2, g3, g4⟩ := vec_put (P := P) i1 (p := len) hs1 (by rw [hob1']; trivial) he2 k10 (by rw [hob1']; show _ ≤ (rowOf (ob h r) ++ List.replicate (srcN x * (ti P (ti P t).elem).sz) D.junk).length; rw [List.length_append, List.length_replicate, k9, Nat.zero_add, srcC_length k6]; exact Nat.le_refl _) (fun hne => by
        have : 0 < (srcC h x).length := List.length_pos_iff.2 hne
        rw [srcC_length k6] at this
        have : 0 < srcN x := Nat.pos_of_mul_pos_right this
        omega)
      cases hv'
      have hsp : splice (rowOf (ob h1 r)) ((0 + len) * (ti P (ti P t).elem).sz) (srcC h x) = rowOf (ob h r) ++ srcC h x := by
        rw [hob1', splice, Nat.zero_add]
        show (rowOf (ob h r) ++ List.replicate (srcN x * (ti P (ti P t).elem).sz) D.junk).take (len * (ti P (ti P t).elem).sz) ++ srcC h x ++ (rowOf (ob h r) ++ List.replicate (srcN x * (ti P (ti P t).elem).sz) D.junk).drop (len * (ti P (ti P t).elem).sz + (srcC h x).length) = _
        rw [← k9, List.take_left', List.drop_eq_nil_of_le (by rw [List.length_append, List.length_replicate, srcC_length k6]; exact Nat.le_refl _), List.append_nil]
        rfl
      rw [hsp] at g3 g4
      have hset : h1.set r (.row (rowOf (ob h r) ++ srcC h x)) = h.set r (.row (rowOf (ob h r) ++ srcC h x)) := by rw [← hh1, List.set_set]
      rw [hset] at g3 g4
      have hobr : (h.set r (.row (rowOf (ob h r) ++ srcC h x)))[r]? = some (.row (rowOf (ob h r) ++ srcC h x)) := by rw [ob_set, if_pos ⟨rfl, hrl⟩]
      obtain ⟨m1, m2⟩ := inv_moved g3 hobr
      rw [List.set_set] at m1 m2
      have hS := s1.trans (g4.trans m2)
      have hv := e1 w (fun _ => rfl)
      rw [← q2] at hv g1
      refine ⟨.slice a (len + srcN x) cap, w', _, ?_, m1, hS, ?_⟩
      · cases a with
        | none => simp [hsn, Builtin.append_, run_underlying ht, sizeOf, typeInfo, q1, Builtin.lenOf, hfit, hv, g2]
        | some y => simp [hsn, Builtin.append_, run_underlying ht, sizeOf, typeInfo, q1, Builtin.lenOf, hfit, hv, g1 y rfl]
      · have hσl : σ.length = h.length := hi.len
        refine .vec h.length ag _ 0 _ _ a cap k7.1 ⟨Nat.le_refl _, hfit⟩ (by simp) hnb0 ?_
        cases hs with
        | vec _ _ _ _ _ _ _ _ _ _ _ _ hv =>
          rcases hv with hv | ⟨b, c, e, fz, p1, p2, p3, p4⟩
          · exact .inl hv
          · obtain ⟨c', p5, p6⟩ := hS.shape b c e fz p3
            refine .inr ⟨b, c', e, fz, p1, ?_, p5, by rw [p6]; exact p4⟩
            rw [List.getElem?_append_right (by omega), hσl, Nat.sub_self, p2]
            rfl
    · -- a new block
      have hL0 : ∀ n, AllSz (ti P (ti P t).elem).sz (List.replicate n (D.agg (List.replicate (ti P (ti P t).elem).sz .junk))) := fun n e he => by
        rw [List.eq_of_mem_replicate he]
        simp [D.cells]
      have hk : AppOk P t (List.replicate len (D.agg (List.replicate (ti P (ti P t).elem).sz .junk))) (List.replicate (srcN x) (D.agg (List.replicate (ti P (ti P t).elem).sz .junk))) :=
        ⟨k1, k2, k3, k4, hL0 _, hL0 _, by simpa using k7.1, by simpa using k7.2⟩
      obtain ⟨newCap, rest, g1, g2, g3⟩ := run_app_grow (P := P) (ty := ty) (w := w) hk (a := a) (a2 := a2) (cap := cap) (c2 := c2) (olds := olds) (vals := vals) (by simpa [srcN] using o1 w.drew (fun _ => rfl)) (by simpa using e1 w.drew (fun _ => rfl)) (by simpa using hfit)
      simp only [List.length_replicate] at g1 g2 g3
      have hl0 : olds.size = len * (ti P (ti P t).elem).sz := by have := o2.1; rw [k9] at this; simpa using this
      have hl1 : vals.size = srcN x * (ti P (ti P t).elem).sz := by have := e2.1; rw [srcC_length k6] at this; simpa using this
      obtain ⟨d1, d2⟩ := inv_same hi ((Adds.refl w).drew)
      obtain ⟨f1, f2⟩ := inv_dead d1 r
      have d3 := d2.trans f2
      have hrep : RepL w.drew (own σ (h.set r .dead)) σ (h.set r .dead) (rowOf (ob h r) ++ srcC h x) (olds ++ vals).toList := by
        rw [Array.toList_append]
        refine RepL.append ⟨o2.1, fun k h1 h2 => (o2.2 k h1 h2).step d3⟩ ⟨e2.1, fun k h1 h2 => (e2.2 k h1 h2).step d3⟩
      obtain ⟨i1, i2⟩ := alloc_row f1 (cells := olds ++ vals) (rest := rest) (e := (ti P t).elem) hrep
      refine ⟨_, _, _, g3, i1, d3.trans i2, ?_⟩
      refine .vec h.length ag _ 0 _ _ _ newCap k7.1 ⟨Nat.le_refl _, g1⟩ (by simp) hnb0 (.inr ⟨w.heap.size, _, _, (0, 0), by simp, by rw [List.getElem?_append_right (by rw [hi.len]; omega), hi.len, Nat.sub_self]; rfl, heap_alloc_new w.drew _, ?_⟩)
      simp only [Array.size_append, hl0, hl1, g2, Nat.zero_add]
      rw [← Nat.add_mul, ← Nat.add_mul]
      exact Nat.mul_le_mul_right _ (by omega)
  | _ => exact absurd hok (by simp [growOk])
end
end Go.Av

/- Bytes made of a text. -/
namespace Go.Av
set_option linter.unusedSectionVars false
variable [Start]

def isSliceKB : TK → Bool
  | .slice => true
  | _ => false
def bytesOk (P : Program) (src dst : TypeId) (x : D) : Prop :=
  match x with
  | .str _ => isStrK (ti P src).kind ∧ isSliceK (ti P dst).kind ∧ isU8 (ti P (ti P dst).elem).kind
  | _ => False
def bytesD : D → List D
  | .str s => s.map fun b => .int .u8 b.toNat
  | _ => []

def isArrKB : TK → Bool
  | .arr => true
  | _ => false
def isSeq : Nat → List Nat → Bool
  | _, [] => true
  | k, x :: r => x == k && isSeq (k + 1) r
def arrbOk (P : Program) (t : TypeId) (idx : List Nat) (es : List D) : Prop :=
  isArrK (ti P t).kind ∧ (ti P (ti P t).elem).has = true ∧ (ti P (ti P t).elem).sz = 1 ∧ es.length = (ti P t).zero.length ∧ (ti P t).zero.isEmpty = false ∧ isSeq 0 idx = true ∧ ∀ e, e ∈ es → cell1 e
/-- a slice over an array that a pointer names -/
def arrOk (P : Program) (t : TypeId) (h : Hp) (x : D) (lo hi mx : Option D) : Prop :=
  match x with
  | .ptr r 0 => isArrK (ti P t).kind ∧ (ti P (ti P t).elem).has = true ∧ isRow (ob h r) ∧ (ti P t).len * (ti P (ti P t).elem).sz ≤ (rowOf (ob h r)).length ∧ (ti P t).len ≤ lenMax ∧ mx = none ∧ bndOk (ti P t).len (ti P t).len lo hi none
  | _ => False
def arrD (P : Program) (t : TypeId) (x : D) (lo hi : Option D) : D :=
  match x with
  | .ptr r _ => .vec r (isAg (ti P (ti P t).elem).kind) (ti P (ti P t).elem).sz (loOf lo) (hiOf (ti P t).len hi - loOf lo) ((ti P t).len - loOf lo)
  | _ => .junk
section
variable {P : Program} {w : World} {σ : Sg} {h : Hp}
theorem arr_sound (hinv : Inv w σ h) {t : TypeId} {x : D} {lo hi mx : Option D} {vx : Value} {vl vh vm : Option Value} (hx : Rep w (own σ h) σ h x vx) (hl : RepO w (own σ h) σ h lo vl) (hh : RepO w (own σ h) σ h hi vh)
    (hm : RepO w (own σ h) σ h mx vm) (hok : arrOk P t h x lo hi mx) : ∃ u, (Instr.sliceAt t vx vl vh vm).run P w = .ok u w ∧ Rep w (own σ h) σ h (arrD P t x lo hi) u := by
  unfold arrOk at hok
  split at hok
  case h_2 => exact hok.elim
  rename_i r
  obtain ⟨k1, k2, k3, k4, k5, rfl, k6⟩ := hok
  cases hx with
  | ptr _ _ b hr hb hs =>
    cases vm with
    | some v => simp [RepO] at hm
    | none =>
      obtain ⟨m, e, g1, g2, g3, g4, _, g6⟩ := run_sliceBounds' (P := P) false (cap := (ti P t).len) hl hh hm (Nat.le_refl _) (Nat.le_refl _) k6
      have hu := ti_arr (P := P) (t := t) (arr_of k1)
      have hmc := g6 rfl
      subst hmc
      refine ⟨_, by simp [Instr.sliceAt, Instr.sureAddr, run_underlying hu, e, run_size w k2]; rfl, ?_⟩
      refine .vec r _ _ _ _ _ _ _ (by omega) ⟨by omega, Nat.le_refl _⟩ hr hb ?_
      by_cases hz : (ti P t).len = loOf lo
      · exact .inl (by omega)
      · rw [if_neg hz]
        rcases (hinv.live r _ (ob_row k3)).cells with ⟨_, q⟩ | ⟨b', c, e', fz, q1, q2, q3, q4, q5⟩
        · exact absurd hs (q b)
        · rw [hs] at q1
          cases q1
          refine .inr ⟨b, c, e', fz, by rw [add_mk, Nat.zero_add], hs, q2, ?_⟩
          have : loOf lo + ((ti P t).len - loOf lo) = (ti P t).len := by omega
          rw [this]
          exact Nat.le_trans k4 q3

omit [Start] in
theorem adds_freeze {w0 w : World} (H : Adds w0 w) (a : Addr) (ha : w0.heap.size ≤ a.block) : Adds w0 (w.freeze a 1) := by
  unfold World.freeze
  rw [if_neg (by decide)]
  refine ⟨H.os, H.tape, H.output, by simpa using H.size, fun b hb => ?_⟩
  rw [← H.block b hb]
  have : a.block ≠ b := by omega
  simp [Array.getElem?_modify, this]
omit [Start] in
theorem adds_bytes (w : World) (e : TypeId) (s : ByteArray) : Adds w (Lib.bytesWorld w e s) := adds_freeze (adds_grow w _) _ (Nat.le_refl _)
omit [Start] in
theorem cut_le (w : World) (n : Nat) (e : TypeId) : n ≤ grownCap w n 0 e := by
  unfold grownCap; simp only [Question.cut]; omega
omit [Start] in
theorem bytes_flat (s : List UInt8) : flat (s.map fun b => D.int .u8 (b.toNat : Int)) = s.map fun b => D.int .u8 (b.toNat : Int) := by
  rw [flat, List.flatMap_map]
  induction s with
  | nil => rfl
  | cons x xs ih => rw [List.flatMap_cons, ih]; rfl
omit [Start] in
theorem bytes_repL {w' : World} {ow : Nat → Nat → Prop} (s : List UInt8) : RepL w' ow [] [] (s.map fun b => D.int .u8 (b.toNat : Int)) (s.map fun b => Value.int .u8 (b.toNat : Int)) :=
  ⟨by simp, fun k h1 h2 => by simp only [List.getElem_map]; exact .int _ _⟩
omit [Start] in
theorem bytes_cells (w : World) (e : TypeId) (s : List UInt8) (k : Nat) (hk : k < (s.map fun b => Value.int .u8 (b.toNat : Int)).length) : (Lib.bytesCells w e ⟨s.toArray⟩)[k]? = (s.map fun b => Value.int .u8 (b.toNat : Int))[k]? := by
  rw [List.length_map] at hk
  simp [Lib.bytesCells, Array.getElem?_append, hk]
omit [Start] in
theorem bytes_size (w : World) (e : TypeId) (s : List UInt8) : (Lib.bytesCells w e ⟨s.toArray⟩).size = grownCap w s.length 0 e := by
  have := cut_le w s.length e
  have hs : (⟨s.toArray⟩ : ByteArray).size = s.length := rfl
  simp only [Lib.bytesCells, hs, Array.size_append, Array.size_map, Array.size_replicate, List.size_toArray]
  omega

theorem conv_bytes (hi : Inv w σ h) {src dst : TypeId} {s : List UInt8} (hl : s.length ≤ lenMax) (hok : bytesOk P src dst (.str s)) :
    ∃ v w', (convert src dst (.string ⟨s.toArray⟩)).run P w = .ok v w' ∧ Inv w' σ h ∧ Step w σ h w' σ h ∧ Rep w' (own σ h) σ h (.slice (bytesD (.str s)) .no) v := by
  obtain ⟨k1, k2, k3⟩ := hok
  obtain ⟨i1, i2⟩ := inv_same hi (adds_bytes w (ti P dst).elem ⟨s.toArray⟩)
  have hel : P.underlying (ti P dst).elem = some (.int .u8) := by
    revert k3
    cases hk : (ti P (ti P dst).elem).kind with
    | int k => cases k <;> first | exact fun _ => ti_int hk | exact fun h => h.elim
    | _ => exact fun h => h.elim
  refine ⟨_, _, Lib.run_convert_string_bytes w src dst (ti P dst).elem ⟨s.toArray⟩ (ti_str (str_of k1)) (ti_slice (slice_of k2)) hel, i1, i2, ?_⟩
  have hs : (⟨s.toArray⟩ : ByteArray).size = (bytesD (.str s)).length := by simp [bytesD]; rfl
  rw [hs]
  refine rep_slice_mk (vals := s.map fun b => Value.int .u8 (b.toNat : Int)) (Lib.bytesWorld_at_new w _ _) (by simpa [bytesD] using hl) (by have := cut_le w s.length (ti P dst).elem; simpa [bytesD] using this) trivial (fun r sz e => nomatch e) (fun k _ ho => by have := inv_lt hi ho; omega) (by simp only [bytesD, bytes_flat]; exact bytes_repL s) (fun k hk => bytes_cells _ _ _ k hk)

theorem conv_bytes_buf (hi : Inv w σ h) {src dst : TypeId} {s : List UInt8} (hl : s.length ≤ lenMax) (hok : bytesOk P src dst (.str s)) :
    ∃ v w' q, (convert src dst (.string ⟨s.toArray⟩)).run P w = .ok v w' ∧ Inv w' (σ ++ [q]) (h ++ [.buf (bytesD (.str s)).length]) ∧ Step w σ h w' (σ ++ [q]) (h ++ [.buf (bytesD (.str s)).length]) ∧
      Rep w' (own (σ ++ [q]) (h ++ [.buf (bytesD (.str s)).length])) (σ ++ [q]) (h ++ [.buf (bytesD (.str s)).length]) (.slice (bytesD (.str s)) (.buf h.length 1)) v := by
  obtain ⟨k1, k2, k3⟩ := hok
  have hnew := Lib.bytesWorld_at_new w (ti P dst).elem ⟨s.toArray⟩
  obtain ⟨i1, i2⟩ := inv_add hi (adds_bytes w (ti P dst).elem ⟨s.toArray⟩) (some w.heap.size) (.buf (bytesD (.str s)).length) (fun b e => by cases e; exact ⟨Nat.le_refl _, (Array.getElem?_eq_some_iff.1 hnew).1⟩) (fun cs e => by cases e)
  have hel : P.underlying (ti P dst).elem = some (.int .u8) := by
    revert k3
    cases hk : (ti P (ti P dst).elem).kind with
    | int k => cases k <;> first | exact fun _ => ti_int hk | exact fun h => h.elim
    | _ => exact fun h => h.elim
  refine ⟨_, _, _, Lib.run_convert_string_bytes w src dst (ti P dst).elem ⟨s.toArray⟩ (ti_str (str_of k1)) (ti_slice (slice_of k2)) hel, i1, i2, ?_⟩
  have hs : (⟨s.toArray⟩ : ByteArray).size = (bytesD (.str s)).length := by simp [bytesD]; rfl
  have hsz := bytes_size w (ti P dst).elem s
  have hcut := cut_le w s.length (ti P dst).elem
  have hn : (bytesD (.str s)).length = s.length := by simp [bytesD]
  rw [hs]
  refine rep_slice_mk (vals := s.map fun b => Value.int .u8 (b.toNat : Int)) hnew (by simpa [bytesD] using hl) (by simpa [bytesD] using hcut) trivial (fun r sz e => ?_) (fun k hk' => ?_) (by simp only [bytesD, bytes_flat]; exact bytes_repL s) (fun k hk => bytes_cells _ _ _ k hk)
  · cases e
    refine ⟨by simp, by simp [bytesD, bytes_flat], fun n hn' => ?_⟩
    rw [List.getElem?_append_right (Nat.le_refl _)] at hn'
    simp at hn'
    refine ⟨by simp only [bytesD, bytes_flat] at hn' ⊢; omega, fun _ => .inr ⟨w.heap.size, _, _, _, rfl, by rw [List.getElem?_append_right (by rw [hi.len]; omega), hi.len]; simp, hnew, ?_, fun i hi' => ?_⟩⟩
    · rw [hsz, Nat.mul_one, hn]; exact Nat.le_refl _
    · unfold thawed
      rw [hsz]
      rw [Nat.mul_one, hn] at hi'
      simp only [Bool.and_eq_false_iff, decide_eq_false_iff_not]
      omega
  · rintro ⟨r, h1, h2⟩
    by_cases hr : r < h.length
    · rw [List.getElem?_append_left (by rw [hi.len]; omega)] at h1
      have := hi.lt r _ h1
      omega
    · rw [List.getElem?_append_right (by omega)] at h2
      have hz : r - h.length = 0 := by
        apply Decidable.byContradiction
        intro hn
        rw [List.getElem?_eq_none (by simp; omega)] at h2
        rcases h2 with ⟨_, e⟩ | ⟨_, e, _⟩ <;> cases e
      rw [hz] at h2
      simp [bytesD] at h2
      simp only [bytesD, bytes_flat, List.length_map] at hk'
      omega
/-- Bytes made of a text: a row of their own. -/
theorem conv_bytes_row (hi : Inv w σ h) {src dst : TypeId} {s : List UInt8} (hl : s.length ≤ lenMax) (hok : bytesOk P src dst (.str s)) :
    ∃ v w' q, (convert src dst (.string ⟨s.toArray⟩)).run P w = .ok v w' ∧ Inv w' (σ ++ [q]) (h ++ [.row (bytesD (.str s))]) ∧ Step w σ h w' (σ ++ [q]) (h ++ [.row (bytesD (.str s))]) ∧
      Rep w' (own (σ ++ [q]) (h ++ [.row (bytesD (.str s))])) (σ ++ [q]) (h ++ [.row (bytesD (.str s))]) (.vec h.length false 1 0 (bytesD (.str s)).length (bytesD (.str s)).length) v := by
  obtain ⟨k1, k2, k3⟩ := hok
  have hnew := Lib.bytesWorld_at_new w (ti P dst).elem ⟨s.toArray⟩
  have hsz := bytes_size w (ti P dst).elem s
  have hcut := cut_le w s.length (ti P dst).elem
  have hn : (bytesD (.str s)).length = s.length := by simp [bytesD]
  obtain ⟨i1, i2⟩ := inv_add hi (adds_bytes w (ti P dst).elem ⟨s.toArray⟩) (some w.heap.size) (.row (bytesD (.str s))) (fun b e => by cases e; exact ⟨Nat.le_refl _, (Array.getElem?_eq_some_iff.1 hnew).1⟩) (fun cs e hst => by
    cases e
    refine ⟨.inr ⟨w.heap.size, _, _, _, by rw [List.getElem?_append_right (by rw [hi.len]; omega), hi.len]; simp, hnew, by rw [hn, hsz]; exact hcut, fun i hi' => ?_, fun i hi' => ?_⟩⟩
    · unfold thawed
      simp only [Bool.and_eq_false_iff, decide_eq_false_iff_not]
      omega
    · rw [hn] at hi'
      refine ⟨.int .u8 ((s[i]).toNat : Int), ?_, ?_⟩
      · rw [bytes_cells w _ s i (by rw [List.length_map]; exact hi'), List.getElem?_map, List.getElem?_eq_getElem hi']
        rfl
      · simp only [bytesD, List.getElem_map]
        exact .int _ _)
  have hel : P.underlying (ti P dst).elem = some (.int .u8) := by
    revert k3
    cases hk : (ti P (ti P dst).elem).kind with
    | int k => cases k <;> first | exact fun _ => ti_int hk | exact fun h => h.elim
    | _ => exact fun h => h.elim
  refine ⟨_, _, _, Lib.run_convert_string_bytes w src dst (ti P dst).elem ⟨s.toArray⟩ (ti_str (str_of k1)) (ti_slice (slice_of k2)) hel, i1, i2, ?_⟩
  have hs : (⟨s.toArray⟩ : ByteArray).size = (bytesD (.str s)).length := by simp [bytesD]; rfl
  rw [hs]
  refine .vec h.length false 1 0 _ _ _ _ (by rw [hn]; exact hl) ⟨Nat.le_refl _, by rw [hn]; exact hcut⟩ (by simp) (fun n hn' => by rw [List.getElem?_append_right (Nat.le_refl _)] at hn'; simp at hn')
    (.inr ⟨w.heap.size, _, _, _, rfl, by rw [List.getElem?_append_right (by rw [hi.len]; omega), hi.len]; simp, hnew, by rw [hsz, Nat.zero_add, Nat.mul_one, hn]; exact Nat.le_refl _⟩)
/-- make with room behind an empty slice -/
def mk0Ok (P : Program) (t : TypeId) (n c : D) : Prop :=
  isSliceK (ti P t).kind ∧ (ti P (ti P t).elem).has = true ∧ 0 < (ti P (ti P t).elem).sz ∧ (ti P (ti P t).elem).zero.length = (ti P (ti P t).elem).sz ∧ isInt n ∧ isInt c ∧ iof n = 0 ∧ 0 ≤ iof c ∧ iof c ≤ lenMax ∧
    (iof c).toNat * (ti P (ti P t).elem).bs ≤ 140737488355328
theorem make0_sound (hi : Inv w σ h) {t : TypeId} {n c : D} {vn vcap : Value} (hn : Rep w (own σ h) σ h n vn) (hc : Rep w (own σ h) σ h c vcap) (hok : mk0Ok P t n c) :
    ∃ v w' s, (Instr.makeSlice t vn vcap).run P w = .ok v w' ∧ Inv w' (σ ++ [s]) (h ++ [.buf 0]) ∧ Step w σ h w' (σ ++ [s]) (h ++ [.buf 0]) ∧
      Rep w' (own (σ ++ [s]) (h ++ [.buf 0])) (σ ++ [s]) (h ++ [.buf 0]) (.slice [] (.buf h.length (ti P (ti P t).elem).sz)) v := by
  obtain ⟨h1, h2, h3, h4, h5, h6, h7, h8, h9, h10⟩ := hok
  have ht := ti_slice (slice_of h1)
  obtain ⟨i, z, e1, e2, e3, e4, e5⟩ := zero_of h2 h3 h4
  cases hn with
  | int kn m =>
    cases hc with
    | int kc m' =>
      simp only [iof] at *
      subst h7
      obtain ⟨m, rfl⟩ := Int.eq_ofNat_of_zero_le h8
      simp only [Int.toNat_natCast] at *
      have hm : m ≤ 1073741824 := by simp only [lenMax] at h9; omega
      have hb : ¬ ((i.bytes : Int) * (m : Int) > 281474976710656) := by
        have : i.bytes * m ≤ 140737488355328 := by rw [e3, Nat.mul_comm]; exact h10
        have h2 : ((i.bytes * m : Nat) : Int) ≤ 140737488355328 := by omega
        rw [Int.natCast_mul] at h2
        omega
      have hrun := run_make (P := P) w t _ i z ht e1 e4 kn kc 0 (m : Int) (by omega) (by omega) (by omega) (by omega)
      rw [Int.toNat_natCast, e2] at hrun
      obtain ⟨i1, i2⟩ := inv_add hi ((Adds.refl w).alloc (.cells ((Array.range (m * (ti P (ti P t).elem).sz)).map fun i => z.cells[i % z.cells.size]!) (ti P t).elem)) (some w.heap.size) (.buf 0) (fun b e => by cases e; simp) (fun cs e => by cases e)
      refine ⟨_, _, _, hrun, i1, i2, ?_⟩
      refine rep_slice_mk (es := []) (vals := []) (heap_alloc_new w _) (Nat.zero_le _) (Nat.zero_le _) trivial (fun r sz e => ?_) (fun k hk => absurd hk (by simp [flat])) RepL.nil (fun k hk => absurd hk (by simp))
      cases e
      refine ⟨by simp, by simp [flat], fun n hn' => ⟨Nat.zero_le _, fun _ => .inr ⟨w.heap.size, _, _, (0, 0), rfl, ?_, heap_alloc_new w _, ?_, fun i _ => thawed0 i⟩⟩⟩
      · rw [List.getElem?_append_right (by rw [hi.len]; omega), hi.len]; simp
      · rw [madeCells, Array.size_map, Array.size_range]; exact Nat.le_refl _
    | _ => exact absurd h6 (by simp [isInt])
  | _ => exact absurd h5 (by simp [isInt])
omit [Start] in
theorem seq_get : ∀ (l : List Nat) (k : Nat), isSeq k l = true → ∀ j (hj : j < l.length), l[j] = k + j
  | [], _, _, j, hj => by simp at hj
  | x :: l, k, h, j, hj => by
    simp only [isSeq, Bool.and_eq_true, beq_iff_eq] at h
    cases j with
    | zero => simpa using h.1
    | succ j =>
      have := seq_get l (k + 1) h.2 j (by simpa using hj)
      simp only [List.getElem_cons_succ, this]
      omega
omit [Start] in
theorem fill_seq {offs : List (Nat × Nat)} {n : Nat} (ho : ∀ i, i < n → offs.getD i (0, 0) = (i, 1)) (hn : offs.length = n) : ∀ (ps : List (Nat × D)) (k : Nat) (cs : List D), (∀ j (hj : j < ps.length), (ps[j]).1 = k + j ∧ (ps[j]).2.cells = [(ps[j]).2] ∧ solid (ps[j]).2) → k + ps.length = n → cs.length = n →
    fillOk offs n ps ∧ fillD offs ps cs = cs.take k ++ ps.map (·.2)
  | [], k, cs, _, hk, hc => ⟨trivial, by simp only [List.length_nil] at hk; simp only [fillD, List.map_nil, List.append_nil]; rw [List.take_of_length_le (by omega)]⟩
  | (i, d) :: ps, k, cs, h, hk, hc => by
    obtain ⟨h1, h2, h3⟩ := h 0 (by simp)
    simp only [List.getElem_cons_zero, Nat.add_zero] at h1 h2 h3
    subst h1
    simp only [List.length_cons] at hk
    have e := ho i (by omega)
    have hsl : (splice cs i d.cells).length = n := by rw [size_splice (by rw [h2]; simp only [List.length_cons, List.length_nil]; omega), hc]
    obtain ⟨f1, f2⟩ := fill_seq ho hn ps (i + 1) (splice cs i d.cells) (fun j hj => by
      have := h (j + 1) (by simpa using hj)
      simp only [List.getElem_cons_succ] at this
      exact ⟨by omega, this.2⟩) (by omega) hsl
    refine ⟨⟨h3, by omega, by rw [e, h2]; rfl, by rw [e, h2]; simp only [List.length_cons, List.length_nil]; omega, f1⟩, ?_⟩
    simp only [fillD, e, f2, List.map_cons]
    rw [h2, splice, List.take_append_of_le_length (by simp; omega), List.take_of_length_le (by simp; omega)]
    simp
/-- an array of scalars, all its parts given one behind the other -/
theorem arrb_sound {ow : Nat → Nat → Prop} {t : TypeId} {ps : List (Nat × D)} {vs : Array (Nat × Value)} (hl : vs.size = ps.length) (hr : ∀ (k : Nat) (h1 : k < ps.length) (h2 : k < vs.toList.length), (vs.toList[k]).1 = (ps[k]).1 ∧ Rep w ow σ h (ps[k]).2 (vs.toList[k]).2)
    (hok : arrbOk P t (ps.map (·.1)) (ps.map (·.2))) : ∃ u, (Instr.build t vs).run P w = .ok u w ∧ Rep w ow σ h (.agg (ps.map (·.2))) u := by
  obtain ⟨h1, h2, h3, h4, h5, h6, h7⟩ := hok
  rw [List.length_map] at h4
  have hu := ti_arr (P := P) (t := t) (arr_of h1)
  obtain ⟨i, d, e1, e2, e3⟩ := ti_has (P := P) (t := t) (ti_kind (by rw [arr_of h1]; simp))
  have hz : ∃ z, i.zero = some z := by
    cases hz : i.zero with
    | some z => exact ⟨z, rfl⟩
    | none => rw [e3] at h5; simp [zeroOf, hz] at h5
  obtain ⟨z, hz⟩ := hz
  have hzr : RepL w ow σ h (ti P t).zero z.cells.toList := by rw [e3]; exact rep_zero hz
  have hcell : ∀ d, cell1 d → d.cells = [d] ∧ solid d := fun d hd => by cases d <;> first | exact ⟨rfl, trivial⟩ | exact hd.elim
  have hoff : ∀ k, k < ps.length → ((List.range ps.length).map fun k => (k, 1)).getD k (0, 0) = (k, 1) := fun k hk => by
    simp [List.getD_eq_getElem?_getD, hk]
  have hps : ∀ j (hj : j < ps.length), (ps[j]).1 = 0 + j ∧ (ps[j]).2.cells = [(ps[j]).2] ∧ solid (ps[j]).2 := fun j hj => by
    have a := seq_get _ _ h6 j (by simpa using hj)
    simp only [List.getElem_map] at a
    exact ⟨a, hcell _ (h7 _ (List.mem_map.2 ⟨_, List.getElem_mem _, rfl⟩))⟩
  obtain ⟨f1, f2⟩ := fill_seq (offs := (List.range ps.length).map fun k => (k, 1)) (n := ps.length) hoff (by simp) ps 0 (ti P t).zero hps (by omega) h4.symm
  have hplace : ∀ j, j < ((List.range ps.length).map fun k => (k, 1)).length → (fun i => some (i * (ti P (ti P t).elem).sz, (ti P (ti P t).elem).sz) : Nat → Option (Nat × Nat)) j = some (((List.range ps.length).map fun k => (k, 1)).getD j (0, 0)) := fun j hj => by
    rw [hoff j (by simpa using hj), h3]
    simp
  obtain ⟨cells, c1, c2⟩ := fill_sound hplace ps vs.toList (ti P t).zero z.cells (by simpa using hl) hr hzr (by rw [← h4]; exact f1)
  rw [f2, List.take_zero, List.nil_append] at c2
  refine ⟨.agg cells, ?_, ?_⟩
  · simp only [Instr.build, Sem.run_bind, zeroValue, typeInfo, run_program, e1, hz, Result.andThen_ok, Sem.run_pure, run_underlying hu, run_size w h2, c1]
  · have := Rep.agg (w := w) (ow := ow) (σ := σ) (h := h) _ cells.toList c2.1 c2.2
    simpa using this
end
end Go.Av
